/- Layer 1 (num): what each function hands back. -/
import Derived.Test.YtopcecgkbmdmeaaLib
import Derived.Test.YtopcecgkbmdmeaaPlain

namespace Go.Proofs.Ytopcecgkbmdmeaa
open Go.RowKit
set_option linter.unusedSimpArgs false
set_option linter.unusedVariables false

theorem Sl.take {w : World} {b o cap : Nat} {l : List Nat} (hs : ∀ i, i < l.length → w.cell? ⟨b, o + i, none⟩ = some (.int .u8 (l.getD i 0 : Nat))) (m : Nat) (h : m ≤ l.length) (h1 : l.length ≤ cap) (h2 : cap ≤ maxLen) :
    Sl w (.slice (some ⟨b, o, none⟩) m cap) (l.take m) := by
  have hm : (l.take m).length = m := by simp; omega
  refine .inr ⟨b, o, cap, by rw [hm], by omega, h2, fun i hi => ?_⟩
  rw [hs i (by omega)]
  simp [show i < m by omega]

set_option maxHeartbeats 400000 in
theorem clone_any (w : World) (v : Value) (l : List Nat) (hv : Sl w v l) (hl : l.length ≤ 1000000000) :
    Calls Try.prog 34 #[v] w (RetB w l) := by
  rcases hv with ⟨rfl, rfl⟩ | hv
  · go_enter Try.func34, Try.ntmps34
    go_wp2_with fail
    go_ret
    exact ⟨_, rfl, Own.nil _ _, Ext.refl _⟩
  · have hs : Sl w v l := .inr hv
    obtain ⟨b, o, cap, rfl, h1, h2, h3⟩ := hv
    clear h3
    go_enter Try.func34, Try.ntmps34
    go_wp2_with (at_builtin; refine appB _ rfl _ _ rfl w.heap.size (own_lit w _ [] _ rfl (Nat.le_refl _) (by decide)) rfl (hs.mono ((Ext.refl w).alloc _)) rfl (by simp; omega) (by simp) fun a' n' c' w' hn' ho hg => ?_)
    go_wp2_with fail
    go_ret
    exact ⟨_, rfl, ho, Own.ext (own_lit w _ [] _ rfl (Nat.le_refl _) (by decide)) ((Ext.refl w).alloc _) (Nat.le_refl _) hg⟩

set_option maxHeartbeats 400000 in
theorem few_any (w : World) (v : Value) (l : List Nat) (m : Nat) (hv : SlW w v l) (hm : m ≤ 1000000000) :
    Calls Try.prog 12 #[v, .int .i64 m] w (RetB w (l.take m)) := by
  have hx := (Ext.refl w).alloc (.cells #[] 5)
  have h0 := own_lit w w.heap.size [] #[] rfl (Nat.le_refl _) (by decide)
  rcases hv with (⟨rfl, rfl⟩ | hv) | ⟨ad, rfl, rfl⟩
  · go_enter Try.func12, Try.ntmps12
    go_wp2_with (at_builtin; refine appB _ rfl _ _ rfl w.heap.size h0 rfl (Sl.nil _) rfl (by simp) (by simp) fun a' n' c' w' hn' ho hg => ?_)
    go_wp2_with fail
    go_ret
    exact ⟨_, rfl, by simpa using ho, Own.ext h0 hx (Nat.le_refl _) hg⟩
  · have hs : Sl w v l := .inr hv
    obtain ⟨b, o, cap, rfl, h1, h2, h3⟩ := hv
    by_cases hlt : m < l.length
    · have hs' : Sl w (.slice (some ⟨b, o, none⟩) m cap) (l.take m) := Sl.take h3 m (by omega) h1 h2
      have h4 : m ≤ cap := by omega
      clear h3
      go_enter Try.func12, Try.ntmps12
      go_wp2_with (at_builtin; refine appB _ rfl _ _ rfl w.heap.size h0 rfl (hs'.mono hx) rfl (by simp; omega) (by simp) fun a' n' c' w' hn' ho hg => ?_)
      go_wp2_with fail
      go_ret
      exact ⟨_, rfl, ho, Own.ext h0 hx (Nat.le_refl _) hg⟩
    · have ht : l.take m = l := List.take_of_length_le (by omega)
      rw [ht]
      clear h3
      go_enter Try.func12, Try.ntmps12
      go_wp2_with (at_builtin; refine appB _ rfl _ _ rfl w.heap.size h0 rfl (hs.mono hx) rfl (by simp; omega) (by simp) fun a' n' c' w' hn' ho hg => ?_)
      go_wp2_with fail
      go_ret
      exact ⟨_, rfl, ho, Own.ext h0 hx (Nat.le_refl _) hg⟩
  · go_enter Try.func12, Try.ntmps12
    go_wp2_with (at_builtin; refine appW _ rfl _ _ rfl w.heap.size h0 rfl (l2 := []) ⟨some ad, 0, rfl, Rd.nil _ _, by simp⟩ rfl (by simp) (by simp) fun a' n' c' w' hn' ho hg => ?_)
    go_wp2_with fail
    go_ret
    exact ⟨_, rfl, by simpa using ho, Own.ext h0 hx (Nat.le_refl _) hg⟩

theorem good_yes (w : World) (n : Int) (h1 : 1 ≤ n) (h2 : n ≤ 8) :
    Calls Try.prog 35 #[.int .i64 n] w fun e w' => e = .returned (.bool true) ∧ w = w' := by
  go_enter Try.func35, Try.ntmps35
  go_wp2
  go_ret
  exact ⟨rfl, rfl⟩

theorem good_no (w : World) (n : Int) (h : n < 1 ∨ 8 < n) :
    Calls Try.prog 35 #[.int .i64 n] w fun e w' => e = .returned (.bool false) ∧ w = w' := by
  rcases h with h | h
  · go_enter Try.func35, Try.ntmps35
    go_wp2
    go_ret
    exact ⟨rfl, rfl⟩
  · have h1 : 1 ≤ n := by omega
    have h2 : decide (n ≤ 8) = false := by simp; omega
    go_enter Try.func35, Try.ntmps35
    go_wp2
    go_ret
    exact ⟨rfl, rfl⟩

set_option maxHeartbeats 400000 in
theorem put_no (w : World) (v : Value) (l : List Nat) (n : Nat) (k : Int) (hv : Sl w v l) (hl : l.length ≤ 1000000000) (hk : k < 1 ∨ 8 < k) :
    Calls Try.prog 17 #[v, .int .u64 n, .int .i64 k] w (RetB w l) := by
  go_enter Try.func17, Try.ntmps17
  go_wp2_with (first
    | (go_at_call 34; refine (clone_any _ _ _ hv hl).mono ?_; rintro e w1 ⟨v1, rfl, ho, hx⟩)
    | (go_at_call 35; refine (good_no _ _ hk).mono ?_; rintro e w2 ⟨rfl, rfl⟩))
  go_ret
  exact ⟨_, rfl, ho, hx⟩

set_option maxHeartbeats 400000 in
theorem put_yes (w : World) (v : Value) (l : List Nat) (n : Nat) (s : Nat) (hv : Sl w v l) (hl : l.length ≤ 1000000000) (h1 : 1 ≤ s) (h8 : s ≤ 8) :
    Calls Try.prog 17 #[v, .int .u64 n, .int .i64 s] w (RetB w (l ++ be n s)) := by
  go_enter Try.func17, Try.ntmps17
  go_wp2_with (first
    | (go_at_call 34; refine (clone_any _ _ _ hv hl).mono ?_; rintro e w1 ⟨v1, rfl, ho, hx⟩)
    | (go_at_call 35; refine (good_yes _ _ (by omega) (by omega)).mono ?_; rintro e w2 ⟨rfl, rfl⟩))
  go_loopw [7, 8] (fun v i wr => ∃ k : Nat, k ≤ s ∧ i = .int .i64 (k - 1) ∧ Own wr w.heap.size v (l ++ be (n / 256 ^ k) (s - k)) ∧ Ext w wr) (fun _ i _ => (intOf i + 1).toNat)
  case atStart => exact ⟨s, Nat.le_refl _, rfl, by simpa [be] using ho, hx⟩
  case round =>
    obtain ⟨k, hk, rfl, hown, hxr⟩ := hrel
    by_cases hk0 : 1 ≤ k
    · go_wp2_with (at_builtin; go_must (refine appB _ rfl _ _ rfl w.heap.size (hown.mono ((Ext.refl wr).alloc _)) rfl (sl_one wr (n / 2 ^ (8 * (k - 1)) % 256) (by simp)) rfl (by simp [be_length]; omega) (by have := hxr.size; simp; omega) fun a' n' c' w' hn' ho' hg => ?_))
      have hx' : Ext w w' := Own.ext hown (hxr.alloc _) (Nat.le_refl _) hg
      clear ho hown hg
      go_wp2_with fail
      go_roundw
      case rel =>
        refine ⟨k - 1, by omega, by go_num, ?_, hx'⟩
        obtain ⟨j, rfl⟩ : ∃ j, k = j + 1 := ⟨k - 1, by omega⟩
        rw [List.append_assoc, Nat.add_sub_cancel, Nat.pow_mul, show (2 ^ 8 : Nat) = 256 from rfl, be_step n j s hk] at ho'
        exact ho'
      case measure => simp [intOf]; omega
    · obtain rfl : k = 0 := by omega
      go_wp2_with fail
      go_ret
      exact ⟨_, rfl, by simpa using hown, hxr⟩

set_option maxHeartbeats 400000 in
theorem refNum_any (w : World) (n s : Nat) (h8 : s ≤ 8) (hn : n < 18446744073709551616) :
    Calls Try.prog 33 #[.int .u64 n, .int .i64 s] w (RetB w (be n s)) := by
  go_enter Try.func33, Try.ntmps33
  have h0 := own_lit w w.heap.size [] #[] rfl (Nat.le_refl _) (by decide)
  have hx0 := (Ext.refl w).alloc (.cells #[] 5)
  go_wp2_with fail
  go_loopw [0, 5, 6] (fun m v i wr => ∃ k q : Nat, k ≤ s ∧ i = .int .i64 k ∧ m = .int .u64 (q : Nat) ∧ q = n / 256 ^ k ∧ q ≤ n ∧ Own wr w.heap.size v (be n k) ∧ Ext w wr) (fun _ _ i _ => s - (intOf i).toNat)
  case atStart => exact ⟨0, n, Nat.zero_le _, rfl, rfl, by simp, Nat.le_refl _, h0, hx0⟩
  case round =>
    obtain ⟨k, q, hk, rfl, rfl, hq0, hqn, hown, hxr⟩ := hrel
    have hq := hid hq0
    clear hq0
    clear h0 hx0
    by_cases hk0 : k < s
    · go_wp2_with (at_builtin; go_must (refine appB _ rfl _ _ rfl w.heap.size (own_lit wr w.heap.size [q % 256] _ (by simp [bvs]) hxr.size (by simp [maxLen])) rfl (hown.sl.mono ((Ext.refl wr).alloc _)) rfl (by simp [be_length]; omega) (by have := hxr.size; simp; omega) fun a' n' c' w' hn' ho' hg => ?_))
      have hx' : Ext w w' := Own.ext (own_lit wr w.heap.size [q % 256] _ rfl hxr.size (by simp [maxLen])) (hxr.alloc _) (Nat.le_refl _) hg
      clear hown hg
      go_wp2_with fail
      go_roundw
      case rel =>
        refine ⟨k + 1, q / 256, by omega, by go_num, by go_num, by rw [hq.out, Nat.pow_succ, ← Nat.div_div_eq_div_mul], Nat.le_trans (Nat.div_le_self _ _) hqn, ?_, hx'⟩
        rw [be_cons, ← hq.out]
        exact ho'
      case measure => simp [intOf]; omega
    · obtain rfl : k = s := by omega
      go_wp2_with fail
      go_ret
      exact ⟨_, rfl, hown, hxr⟩

set_option maxHeartbeats 400000 in
theorem refPut_any (w : World) (v : Value) (l : List Nat) (n s : Nat) (hv : Sl w v l) (hl : l.length ≤ 1000000000) (h8 : s ≤ 8) (hn : n < 18446744073709551616) :
    Calls Try.prog 16 #[v, .int .u64 n, .int .i64 s] w (RetB w (l ++ be n s)) := by
  have h0 := own_lit w w.heap.size [] #[] rfl (Nat.le_refl _) (by decide)
  have hx0 := (Ext.refl w).alloc (.cells #[] 5)
  go_enter Try.func16, Try.ntmps16
  go_wp2_with (at_builtin; refine appB _ rfl _ _ rfl w.heap.size h0 rfl (hv.mono hx0) rfl (by simp; omega) (by simp) fun a' n' c' w' hn' ho hg => ?_)
  have hx : Ext w w' := Own.ext h0 hx0 (Nat.le_refl _) hg
  clear h0 hx0 hg
  go_wp2_with (first
    | (go_at_call 33; refine (refNum_any _ _ _ h8 hn).mono ?_; rintro e w1 ⟨v1, rfl, ho1, hx1⟩)
    | (at_builtin; go_must (refine appB _ rfl _ _ rfl w.heap.size (ho.mono hx1) rfl ho1.sl rfl (by simp [be_length]; omega) (hx.trans hx1).size fun a2 n2 c2 w2 hn2 ho2 hg => ?_)))
  have hx2 : Ext w w2 := Own.ext ho (hx.trans hx1) (Nat.le_refl _) hg
  clear hg
  go_wp2_with fail
  go_ret
  exact ⟨_, rfl, ho2, hx2⟩

set_option maxHeartbeats 400000 in
theorem numLives_any (w : World) :
    Calls Try.prog 18 #[] w fun e w' => e = .returned (.bool true) ∧ Ext w w' := by
  go_enter Try.func18, Try.ntmps18
  go_wp2_with (go_at_call 17; refine (put_yes _ _ [] 258 2 (Sl.nil _) (by simp) (by simp) (by simp)).mono ?_; rintro e w1 ⟨v1, rfl, ho, hx⟩; have hc := conv_sl ho.sl)
  go_ret
  have e2 : ((str (be 258 2)).toList == [1, 2]) = true := by decide +kernel
  exact ⟨by simp [e2], hx⟩

set_option maxHeartbeats 400000 in
theorem numPuts_no (w : World) (v : Value) (l : List Nat) (n : Nat) (k : Int) (hv : SlW w v l) (hk : k < 1 ∨ 8 < k) :
    Calls Try.prog 5 #[v, .int .u64 n, .int .i64 k] w fun e w' => e = .returned (.bool true) ∧ Ext w w' := by
  go_enter Try.func5, Try.ntmps5
  have hk1 : (decide (1 ≤ k) && decide (k ≤ 8)) = false := by rcases hk with h | h <;> simp <;> omega
  go_wp2_with (go_at_call 12; refine (few_any _ _ _ 100 hv (by omega)).mono ?_; rintro e w1 ⟨v1, rfl, ho, hx⟩)
  all_goals
    refine wp_region_rel (by kernel_rfl) Ext Ext.refl (fun _ _ _ h k => h.trans k) [IsNew, Is v1, IsSl (l.take 100), Is (.int .u64 n), Is (.int .i64 k), IsSl (l.take 100), Is (.string (str (l.take 100))), Is v1, Is (.string (str (l.take 100))),
      Is (.bool true), Is (.bool true), Is (.bool true), Is (.bool true), Is (.bool true)]
      ⟨keep_new, keep_is _, keep_sl _, keep_is _, keep_is _, keep_sl _, keep_is _, keep_is _, keep_is _, keep_is _, keep_is _, keep_is _, keep_is _, keep_is _, trivial⟩ (by kernel_rfl) ?_ ⟨?_, ?_, ?_, ?_, ?_, ?_, ?_, ?_, ?_, ?_, ?_, ?_, ?_, ?_, trivial⟩
    · intro W hE
      simp only [behind, Act.put, Is, List.map_cons, List.map_nil, forall_eq, List.setIfInBounds_toArray, List.set_cons_succ, List.set_cons_zero]
      intro v21 _ v23 _ v26 _
      go_wp2
      go_ret
      exact ⟨rfl, hx.trans ((Ext.refl w1).drew.trans hE)⟩
    all_goals intro ρ W hE hout ha; try simp [ahead, factAt, valAt, Region.binds, Is, IsSl, IsNew] at ha
    all_goals try (refine Does.of_run rfl (w' := W) ?_ ⟨Ext.refl _, rfl⟩; simp [execOp, Act.eval, hout, dstsOf, ha, go_sem]; done)
    · exact does_new rfl rfl rfl
    · exact does_app0 rfl rfl _ _ rfl (by simpa [Act.eval, IsNew] using ha.1) (by simpa [Act.eval, ha.2] using ho.sl.mono ((Ext.refl w1).drew.trans hE)) (by simp; omega)
    · refine Does.of_call rfl (by simp [execOp, Act.eval, ha, go_sem]) ((put_no W _ (l.take 100) n k ha.1 (by simp; omega) hk).mono ?_)
      rintro e w' ⟨v, rfl, h, hx'⟩
      exact ⟨v, rfl, hx', h.sl⟩
    · exact does_conv rfl rfl _ rfl (by simpa [Act.eval] using ha)
    · exact does_conv rfl rfl _ rfl (by simpa [Act.eval, ha] using ho.sl.mono ((Ext.refl w1).drew.trans hE))
    · refine Does.of_call' (wanted_yes rfl rfl (by simpa using ha)) (by simp [execOp, Act.eval, go_sem]) ((numLives_any W).mono ?_)
      rintro e w' ⟨rfl, hx'⟩
      exact ⟨_, rfl, hx', rfl⟩

set_option maxHeartbeats 400000 in
theorem numPuts_yes (w : World) (v : Value) (l : List Nat) (n : Nat) (k : Nat) (hv : SlW w v l) (hk : 1 ≤ k) (hk8 : k ≤ 8) (hn : n < 18446744073709551616) :
    Calls Try.prog 5 #[v, .int .u64 n, .int .i64 k] w fun e w' => e = .returned (.bool true) ∧ Ext w w' := by
  go_enter Try.func5, Try.ntmps5
  go_wp2_with (first
    | (go_at_call 12; refine (few_any _ _ _ 100 hv (by omega)).mono ?_; rintro e w1 ⟨v1, rfl, ho, hx⟩)
    | (go_at_call 16; refine (refPut_any _ _ _ n k ho.sl (by simp; omega) hk8 hn).mono ?_; rintro e w2 ⟨v2, rfl, ho2, hx2⟩))
  refine wp_region_rel (by kernel_rfl) Ext Ext.refl (fun _ _ _ h k => h.trans k) [IsNew, Is v1, IsSl (l.take 100), Is (.int .u64 n), Is (.int .i64 k), IsSl (l.take 100 ++ be n k), Is (.string (str (l.take 100 ++ be n k))), Is v2, Is (.string (str (l.take 100 ++ be n k))),
      Is (.bool true), Is (.bool true), Is (.bool true), Is (.bool true), Is (.bool true)]
      ⟨keep_new, keep_is _, keep_sl _, keep_is _, keep_is _, keep_sl _, keep_is _, keep_is _, keep_is _, keep_is _, keep_is _, keep_is _, keep_is _, keep_is _, trivial⟩ (by kernel_rfl) ?_ ⟨?_, ?_, ?_, ?_, ?_, ?_, ?_, ?_, ?_, ?_, ?_, ?_, ?_, ?_, trivial⟩
  · intro W hE
    simp only [behind, Act.put, Is, List.map_cons, List.map_nil, forall_eq, List.setIfInBounds_toArray, List.set_cons_succ, List.set_cons_zero]
    intro v21 _ v23 _ v26 _
    go_wp2
    go_ret
    exact ⟨rfl, hx.trans (hx2.trans ((Ext.refl w2).drew.trans hE))⟩
  all_goals intro ρ W hE hout ha; try simp [ahead, factAt, valAt, Region.binds, Is, IsSl, IsNew] at ha
  all_goals try (refine Does.of_run rfl (w' := W) ?_ ⟨Ext.refl _, rfl⟩; simp [execOp, Act.eval, hout, dstsOf, ha, go_sem]; done)
  · exact does_new rfl rfl rfl
  · exact does_app0 rfl rfl _ _ rfl (by simpa [Act.eval, IsNew] using ha.1) (by simpa [Act.eval, ha.2] using ho.sl.mono (hx2.trans ((Ext.refl w2).drew.trans hE))) (by simp; omega)
  · refine Does.of_call rfl (by simp [execOp, Act.eval, ha, go_sem]) ((put_yes W _ (l.take 100) n k ha.1 (by simp; omega) hk hk8).mono ?_)
    rintro e w' ⟨v, rfl, h, hx'⟩
    exact ⟨v, rfl, hx', h.sl⟩
  · exact does_conv rfl rfl _ rfl (by simpa [Act.eval] using ha)
  · exact does_conv rfl rfl _ rfl (by simpa [Act.eval, ha] using ho2.sl.mono ((Ext.refl w2).drew.trans hE))
  · refine Does.of_call' (wanted_yes rfl rfl (by simpa using ha)) (by simp [execOp, Act.eval, go_sem]) ((numLives_any W).mono ?_)
    rintro e w' ⟨rfl, hx'⟩
    exact ⟨_, rfl, hx', rfl⟩

theorem numPuts_walk (w : World) (v : Value) (l : List Nat) (n : Nat) (k : Int) (hv : SlW w v l) (hn : n < 18446744073709551616) :
    Calls Try.prog 5 #[v, .int .u64 n, .int .i64 k] w fun e w' => e = .returned (.bool true) ∧ Ext w w' := by
  by_cases h : 1 ≤ k ∧ k ≤ 8
  · obtain ⟨m, rfl⟩ := Int.eq_ofNat_of_zero_le (show 0 ≤ k by omega)
    exact numPuts_yes w v l n m hv (by omega) (by omega) hn
  · exact numPuts_no w v l n k hv (by omega)

end Go.Proofs.Ytopcecgkbmdmeaa
