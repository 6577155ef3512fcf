/- Layer 1 (num): parts of bytes, numbers read. -/
import Derived.Test.YtopcecgkbmdmeaaNum
namespace Go.Proofs.Ytopcecgkbmdmeaa
open Go.RowKit
set_option linter.unusedSimpArgs false
set_option linter.unusedVariables false

theorem Sl.sub {w : World} {b o cap : Nat} {l : List Nat} (hs : ∀ i, i < l.length → w.cell? ⟨b, o + i, none⟩ = some (.int .u8 (l.getD i 0 : Nat))) {k n : Nat} (h : k + n ≤ l.length) (h1 : l.length ≤ cap) (h2 : cap ≤ maxLen) :
    Sl w (.slice (some ⟨b, o + k, none⟩) n (cap - k)) (sub l k n) := by
  refine .inr ⟨b, o + k, cap - k, by rw [sub_length h], by rw [sub_length h]; omega, by omega, fun i hi => ?_⟩
  rw [sub_length h] at hi
  rw [sub_get h hi, Nat.add_assoc]
  exact hs _ (by omega)

set_option maxHeartbeats 400000 in
theorem cut_yes (w : World) (v : Value) (l : List Nat) (k n : Nat) (hv : Sl w v l) (h : k + n ≤ l.length) :
    Calls Try.prog 39 #[v, .int .i64 k, .int .i64 n] w fun e w' => (∃ a c, e = .returned (.tuple #[.slice a n c, .bool true]) ∧ Sl w (.slice a n c) (sub l k n)) ∧ w = w' := by
  rcases hv with ⟨rfl, rfl⟩ | ⟨b, o, cap, rfl, h1, h2, h3⟩
  · have hk : k = 0 := by simp at h; omega
    have hn : n = 0 := by simp at h; omega
    subst hk hn
    go_enter Try.func39, Try.ntmps39
    go_wp2
    go_ret2
    exact ⟨⟨_, _, rfl, Sl.nil _⟩, rfl⟩
  · have hs := Sl.sub h3 h h1 h2
    clear h3
    have h4 : cap ≤ 9223372036854775807 := by unfold maxLen at h2; omega
    have e1 : (decide ((k : Int) < 0)) = false := by simp
    have e2 : (decide ((n : Int) < 0)) = false := by simp
    have e3 : (decide ((l.length : Int) < k)) = false := by simp; omega
    have e4 : (decide (((l.length : Int) - k) < n)) = false := by simp; omega
    by_cases hc : cap = k
    · have hn : n = 0 := by omega
      subst hn
      obtain rfl := hc
      go_enter Try.func39, Try.ntmps39
      go_wp2
      go_ret2
      refine ⟨⟨_, _, rfl, .inr ⟨b, o, 0, by simp [sub], by simp [sub], by omega, by simp [sub]⟩⟩, rfl⟩
    · go_enter Try.func39, Try.ntmps39
      go_wp2
      go_ret2
      refine ⟨⟨some ⟨b, o + k, none⟩, cap - k, ?_, hs⟩, rfl⟩
      show Ending.returned (.tuple #[.slice (some ⟨b, o + k, none⟩) (k + n - k) (cap - k), .bool true]) = _
      rw [Nat.add_sub_cancel_left]

set_option maxHeartbeats 400000 in
theorem cut_no (w : World) (v : Value) (l : List Nat) (k n : Int) (hv : Sl w v l) (hk : -9223372036854775808 ≤ k) (h : k < 0 ∨ n < 0 ∨ (l.length : Int) < k + n) :
    Calls Try.prog 39 #[v, .int .i64 k, .int .i64 n] w fun e w' => e = .returned (.tuple #[.slice none 0 0, .bool false]) ∧ w = w' := by
  obtain ⟨a, cap, rfl, h1, h2, _⟩ := hv.rd
  have h4 : l.length ≤ 9223372036854775807 := by unfold maxLen at h2; omega
  by_cases hk0 : k < 0
  · go_enter Try.func39, Try.ntmps39
    go_wp2
    go_ret2
    exact ⟨rfl, rfl⟩
  by_cases hn0 : n < 0
  · go_enter Try.func39, Try.ntmps39
    go_wp2
    go_ret2
    exact ⟨rfl, rfl⟩
  by_cases hkl : (l.length : Int) < k
  · go_enter Try.func39, Try.ntmps39
    go_wp2
    go_ret2
    exact ⟨rfl, rfl⟩
  · have h5 : (l.length : Int) - k < n := by omega
    go_enter Try.func39, Try.ntmps39
    go_wp2
    go_ret2
    exact ⟨rfl, rfl⟩

set_option maxHeartbeats 400000 in
theorem get_yes (w : World) (v : Value) (l : List Nat) (k n : Nat) (hv : Sl w v l) (hb : ∀ x ∈ l, x < 256) (h : k + n ≤ l.length) (h1 : 1 ≤ n) (h8 : n ≤ 8) :
    Calls Try.prog 26 #[v, .int .i64 k, .int .i64 n] w fun e w' => e = .returned (.tuple #[.int .u64 (val (sub l k n) : Nat), .bool true]) ∧ w = w' := by
  have Hb := hid (sub_lt hb k n)
  have Hl := hid (sub_length h)
  clear hb
  go_enter Try.func26, Try.ntmps26
  go_wp2_with (first
    | (go_at_call 39; refine (cut_yes _ _ l k n hv h).mono ?_; rintro e w1 ⟨⟨a1, c1, rfl, hs⟩, rfl⟩)
    | (go_at_call 35; refine (good_yes _ _ (by omega) (by omega)).mono ?_; rintro e w2 ⟨rfl, rfl⟩))
  generalize hp : sub l k n = p at *
  have Hp := hid hp
  clear hp
  have hrd := hs.look.2.2.2
  clear hs
  go_loop [10, 12, 29] (fun x _ i => ∃ q m : Nat, q ≤ n ∧ i = .int .i64 q ∧ x = .int .u64 (m : Int) ∧ m = val (p.take q)) (fun _ _ i => n - (intOf i).toNat)
  case atStart => exact ⟨0, 0, by omega, rfl, rfl, rfl⟩
  case round =>
    obtain ⟨q, m, hq, rfl, rfl, hm0⟩ := hrel
    have Hm := hid hm0
    by_cases hqlt : q < n
    · have hml : m < 72057594037927936 := by
        rw [hm0]
        exact Nat.lt_of_lt_of_le (val_bound Hb.out (by omega)) (Nat.le_trans (Nat.pow_le_pow_right (by decide) (show q ≤ 7 by omega)) (by decide))
      clear hm0
      have hql : q < p.length := by rw [Hl.out]; exact hqlt
      obtain ⟨b2, o2, rfl, hc2⟩ := hrd.resolve_left (by intro h; subst h; simp at hql)
      have hcell := hc2 q hql
      have hx1 : p.getD q 0 < 256 := Hb.out _ (by simp [hql])
      have Hts := hid (val_take_succ hql)
      have e1 := or_walk hml hx1
      clear hc2 hrd hql
      generalize p.getD q 0 = c at *
      go_wp2
      go_round
      case rel => exact ⟨q + 1, m * 256 + c, by omega, by go_num, by go_num, by rw [Hts.out, ← Hm.out]⟩
      case measure => simp [intOf]; omega
    · obtain rfl : q = n := by omega
      clear hm0
      go_wp2
      go_ret2
      refine ⟨?_, rfl⟩
      rw [Hm.out, List.take_of_length_le (by rw [Hl.out]; omega), ← Hp.out]
      rfl

set_option maxHeartbeats 400000 in
theorem get_no (w : World) (v : Value) (l : List Nat) (k n : Int) (hv : Sl w v l) (hk : -9223372036854775808 ≤ k) (h : k < 0 ∨ (l.length : Int) < k + n ∨ n < 1 ∨ 8 < n) :
    Calls Try.prog 26 #[v, .int .i64 k, .int .i64 n] w fun e w' => e = .returned (.tuple #[.int .u64 0, .bool false]) ∧ w = w' := by
  by_cases hc : k < 0 ∨ n < 0 ∨ (l.length : Int) < k + n
  · go_enter Try.func26, Try.ntmps26
    go_wp2_with (go_at_call 39; refine (cut_no _ _ l k n hv hk hc).mono ?_; rintro e w1 ⟨rfl, rfl⟩)
    go_ret2
    exact ⟨rfl, rfl⟩
  · have hn : n < 1 ∨ 8 < n := by omega
    obtain ⟨k', rfl⟩ := Int.eq_ofNat_of_zero_le (show 0 ≤ k by omega)
    obtain ⟨n', rfl⟩ := Int.eq_ofNat_of_zero_le (show 0 ≤ n by omega)
    have hc' : k' + n' ≤ l.length := by omega
    clear hc h hk
    go_enter Try.func26, Try.ntmps26
    go_wp2_with (first
      | (go_at_call 39; refine (cut_yes _ _ l k' n' hv hc').mono ?_; rintro e w1 ⟨⟨a1, c1, rfl, hs⟩, rfl⟩)
      | (go_at_call 35; refine (good_no _ _ hn).mono ?_; rintro e w2 ⟨rfl, rfl⟩))
    go_ret2
    exact ⟨rfl, rfl⟩

set_option maxHeartbeats 400000 in
theorem has_any (w : World) (v : Value) (l : List Nat) (k n : Int) (hv : Sl w v l) (hk : -9223372036854775808 ≤ k) :
    Calls Try.prog 27 #[v, .int .i64 k, .int .i64 n] w fun e w' => e = .returned (.bool (decide (0 ≤ k ∧ 0 ≤ n ∧ k + n ≤ l.length))) ∧ w = w' := by
  obtain ⟨a, cap, rfl, h1, h2, _⟩ := hv.rd
  have h4 : l.length ≤ 9223372036854775807 := by unfold maxLen at h2; omega
  by_cases hk0 : k < 0
  · have e : decide (0 ≤ k ∧ 0 ≤ n ∧ k + n ≤ (l.length : Int)) = false := by simp; omega
    rw [e]
    go_enter Try.func27, Try.ntmps27
    go_wp2
    go_ret
    exact ⟨rfl, rfl⟩
  by_cases hn0 : n < 0
  · have e : decide (0 ≤ k ∧ 0 ≤ n ∧ k + n ≤ (l.length : Int)) = false := by simp; omega
    rw [e]
    have e2 : decide (0 ≤ n) = false := by simp; omega
    go_enter Try.func27, Try.ntmps27
    go_wp2
    go_ret
    exact ⟨rfl, rfl⟩
  by_cases hkl : (l.length : Int) < k
  · have e : decide (0 ≤ k ∧ 0 ≤ n ∧ k + n ≤ (l.length : Int)) = false := by simp; omega
    rw [e]
    have e2 : decide (k ≤ (l.length : Int)) = false := by simp; omega
    go_enter Try.func27, Try.ntmps27
    go_wp2
    go_ret
    exact ⟨rfl, rfl⟩
  by_cases hs : n ≤ (l.length : Int) - k
  · have e : decide (0 ≤ k ∧ 0 ≤ n ∧ k + n ≤ (l.length : Int)) = true := by simp; omega
    rw [e]
    have e2 : decide (n ≤ (l.length : Int) - k) = true := by simp; omega
    go_enter Try.func27, Try.ntmps27
    go_wp2
    go_ret
    exact ⟨rfl, rfl⟩
  · have e : decide (0 ≤ k ∧ 0 ≤ n ∧ k + n ≤ (l.length : Int)) = false := by simp; omega
    rw [e]
    have e2 : decide (n ≤ (l.length : Int) - k) = false := by simp; omega
    go_enter Try.func27, Try.ntmps27
    go_wp2
    go_ret
    exact ⟨rfl, rfl⟩

set_option maxHeartbeats 400000 in
theorem refGet_any (w : World) (v : Value) (l : List Nat) (k n : Nat) (hv : Sl w v l) (hb : ∀ x ∈ l, x < 256) (h : k + n ≤ l.length) (h8 : n ≤ 8) :
    Calls Try.prog 28 #[v, .int .i64 k, .int .i64 n] w fun e w' => e = .returned (.int .u64 (val (sub l k n) : Nat)) ∧ w = w' := by
  have Hb := hid (sub_lt hb k n)
  have Hl := hid (sub_length h)
  have Hg : Hid (∀ i, i < n → (sub l k n).getD i 0 = l.getD (k + i) 0) := fun i hi => sub_get h hi
  obtain ⟨a, cap, rfl, h1, h2, hrd, _⟩ := hv.rd
  have h4 : l.length ≤ 9223372036854775807 := by unfold maxLen at h2; omega
  clear hb hv
  go_enter Try.func28, Try.ntmps28
  generalize hp : sub l k n = p at *
  have Hp := hid hp
  clear hp
  go_wp2
  go_loop [7, 8] (fun x i => ∃ q m : Nat, q ≤ n ∧ i = .int .i64 (k + q : Nat) ∧ x = .int .u64 (m : Int) ∧ m = val (p.take q)) (fun _ i => n + k - (intOf i).toNat)
  case atStart => exact ⟨0, 0, by omega, by simp, rfl, rfl⟩
  case round =>
    obtain ⟨q, m, hq, rfl, rfl, hm0⟩ := hrel
    have Hm := hid hm0
    by_cases hqlt : q < n
    · have hml : m < 72057594037927936 := by
        rw [hm0]
        exact Nat.lt_of_lt_of_le (val_bound Hb.out (by omega)) (Nat.le_trans (Nat.pow_le_pow_right (by decide) (show q ≤ 7 by omega)) (by decide))
      clear hm0
      have hql : q < p.length := by rw [Hl.out]; exact hqlt
      obtain ⟨b2, o2, rfl, hc2⟩ := hrd.resolve_left (by intro h; subst h; simp at h; omega)
      have hcell := hc2 (k + q) (by omega)
      rw [← Hg.out q hqlt] at hcell
      have hx1 : p.getD q 0 < 256 := Hb.out _ (by simp [hql])
      have Hts := hid (val_take_succ hql)
      clear hc2 hrd hql
      generalize p.getD q 0 = c at *
      go_wp2
      go_round
      case rel => exact ⟨q + 1, m * 256 + c, by omega, by go_num, by go_num, by rw [Hts.out, ← Hm.out]⟩
      case measure => simp [intOf]; omega
    · obtain rfl : q = n := by omega
      clear hm0
      go_wp2
      go_ret
      refine ⟨?_, rfl⟩
      rw [Hm.out, List.take_of_length_le (by rw [Hl.out]; omega), ← Hp.out]
      rfl

set_option maxHeartbeats 400000 in
theorem numGets_walk (w : World) (v : Value) (l : List Nat) (k n : Int) (hv : SlW w v l) (hb : ∀ x ∈ l, x < 256) (hk : -9223372036854775808 ≤ k) :
    Calls Try.prog 9 #[v, .int .i64 k, .int .i64 n] w fun e w' => e = .returned (.bool true) ∧ Ext w w' := by
  have Hb := hid (fun x hx => hb x (List.mem_of_mem_take (i := 100) hx))
  have hl1 : (l.take 100).length ≤ 100 := by simp; omega
  have H0 := fun w => few_any w v l 100
  clear hb
  generalize hp : l.take 100 = p at *
  have H1 : ∀ w, SlW w v l → Calls Try.prog 12 #[v, .int .i64 (100 : Nat)] w (RetB w p) := fun w h => by rw [← hp]; exact few_any w v l 100 h (by omega)
  clear H0 hp
  have H1' := hid H1
  clear H1
  by_cases hc : 1 ≤ n ∧ n ≤ 8 ∧ 0 ≤ k ∧ k + n ≤ p.length
  · obtain ⟨k', rfl⟩ := Int.eq_ofNat_of_zero_le hc.2.2.1
    obtain ⟨n', rfl⟩ := Int.eq_ofNat_of_zero_le (show 0 ≤ n by omega)
    obtain ⟨c1, c2, c3, c4⟩ := hc
    have d1 : decide (0 ≤ (k' : Int) ∧ 0 ≤ (n' : Int) ∧ (k' : Int) + n' ≤ p.length) = true := by simp; omega
    have c4' : k' + n' ≤ p.length := by omega
    go_enter Try.func9, Try.ntmps9
    go_wp2_with (at_builtin; fail)
    refine (H1'.out _ hv).mono ?_
    rintro e w1 hr; obtain ⟨a1, n1, q1, rfl, hn1, ho1, hx1⟩ := hr.shape
    have h0 := own_lit w1 w1.heap.size [] #[] rfl (Nat.le_refl _) (by decide)
    have hx0 := (Ext.refl w1).alloc (.cells #[] 5)
    clear hr
    go_wp2_with (first
      | (at_builtin; refine appB _ rfl (.tmp 12) (.tmp 13) rfl w1.heap.size h0 rfl (ho1.sl.mono hx0) rfl (by simp; omega) (by simp) fun a2 n2 q2 w2 hn2 ho2 hg => ?_; have hx2 : Ext w1 w2 := Own.ext h0 hx0 (Nat.le_refl _) hg; clear h0 hx0 hg)
      | fail)
    refine (get_yes _ _ p k' n' ho2.sl Hb.out c4' (by omega) (by omega)).mono ?_
    rintro e w3 ⟨rfl, rfl⟩
    go_wp2_with fail
    refine (has_any _ _ p k' n' (ho1.sl.mono hx2) hk).mono ?_
    rintro e w3 ⟨rfl, rfl⟩
    rw [d1]
    go_wp2_with fail
    refine (refGet_any _ _ p k' n' (ho1.sl.mono hx2) Hb.out c4' (by omega)).mono ?_
    rintro e w3 ⟨rfl, rfl⟩
    go_wp2_with fail
    refine (numLives_any _).mono ?_
    rintro e w3 ⟨rfl, hx3⟩
    go_wp2_with fail
    go_ret
    exact ⟨rfl, hx1.trans (hx2.trans hx3)⟩
  · have hc' : k < 0 ∨ (p.length : Int) < k + n ∨ n < 1 ∨ 8 < n := by omega
    have hc2 : 1 ≤ n → n ≤ 8 → decide (0 ≤ k ∧ 0 ≤ n ∧ k + n ≤ (p.length : Int)) = false := by intro _ _; simp; omega
    have Hc2 := hid hc2
    clear hc2 hc
    have hcase : n < 1 ∨ 8 < n ∨ (1 ≤ n ∧ n ≤ 8) := by omega
    rcases hcase with hn | hn | hn
    · go_enter Try.func9, Try.ntmps9
      go_wp2_with (at_builtin; fail)
      refine (H1'.out _ hv).mono ?_
      rintro e w1 hr; obtain ⟨a1, n1, q1, rfl, hn1, ho1, hx1⟩ := hr.shape
      have h0 := own_lit w1 w1.heap.size [] #[] rfl (Nat.le_refl _) (by decide)
      have hx0 := (Ext.refl w1).alloc (.cells #[] 5)
      clear hr
      go_wp2_with (first
        | (at_builtin; refine appB _ rfl (.tmp 12) (.tmp 13) rfl w1.heap.size h0 rfl (ho1.sl.mono hx0) rfl (by simp; omega) (by simp) fun a2 n2 q2 w2 hn2 ho2 hg => ?_; have hx2 : Ext w1 w2 := Own.ext h0 hx0 (Nat.le_refl _) hg; clear h0 hx0 hg)
        | fail)
      refine (get_no _ _ p k n ho2.sl hk hc').mono ?_
      rintro e w3 ⟨rfl, rfl⟩
      go_wp2_with fail
      refine (numLives_any _).mono ?_
      rintro e w3 ⟨rfl, hx3⟩
      go_wp2_with fail
      go_ret
      exact ⟨rfl, hx1.trans (hx2.trans hx3)⟩
    · have hn1' : 1 ≤ n := by omega
      go_enter Try.func9, Try.ntmps9
      go_wp2_with (at_builtin; fail)
      refine (H1'.out _ hv).mono ?_
      rintro e w1 hr; obtain ⟨a1, n1, q1, rfl, hn1, ho1, hx1⟩ := hr.shape
      have h0 := own_lit w1 w1.heap.size [] #[] rfl (Nat.le_refl _) (by decide)
      have hx0 := (Ext.refl w1).alloc (.cells #[] 5)
      clear hr
      go_wp2_with (first
        | (at_builtin; refine appB _ rfl (.tmp 12) (.tmp 13) rfl w1.heap.size h0 rfl (ho1.sl.mono hx0) rfl (by simp; omega) (by simp) fun a2 n2 q2 w2 hn2 ho2 hg => ?_; have hx2 : Ext w1 w2 := Own.ext h0 hx0 (Nat.le_refl _) hg; clear h0 hx0 hg)
        | fail)
      refine (get_no _ _ p k n ho2.sl hk hc').mono ?_
      rintro e w3 ⟨rfl, rfl⟩
      go_wp2_with fail
      refine (numLives_any _).mono ?_
      rintro e w3 ⟨rfl, hx3⟩
      go_wp2_with fail
      go_ret
      exact ⟨rfl, hx1.trans (hx2.trans hx3)⟩
    · obtain ⟨hn1', hn8⟩ := hn
      go_enter Try.func9, Try.ntmps9
      go_wp2_with (at_builtin; fail)
      refine (H1'.out _ hv).mono ?_
      rintro e w1 hr; obtain ⟨a1, n1, q1, rfl, hn1, ho1, hx1⟩ := hr.shape
      have h0 := own_lit w1 w1.heap.size [] #[] rfl (Nat.le_refl _) (by decide)
      have hx0 := (Ext.refl w1).alloc (.cells #[] 5)
      clear hr
      go_wp2_with (first
        | (at_builtin; refine appB _ rfl (.tmp 12) (.tmp 13) rfl w1.heap.size h0 rfl (ho1.sl.mono hx0) rfl (by simp; omega) (by simp) fun a2 n2 q2 w2 hn2 ho2 hg => ?_; have hx2 : Ext w1 w2 := Own.ext h0 hx0 (Nat.le_refl _) hg; clear h0 hx0 hg)
        | fail)
      refine (get_no _ _ p k n ho2.sl hk hc').mono ?_
      rintro e w3 ⟨rfl, rfl⟩
      go_wp2_with fail
      refine (has_any _ _ p k n (ho1.sl.mono hx2) hk).mono ?_
      rintro e w3 ⟨rfl, rfl⟩
      rw [Hc2.out hn1' hn8]
      go_wp2_with fail
      refine (numLives_any _).mono ?_
      rintro e w3 ⟨rfl, hx3⟩
      go_wp2_with fail
      go_ret
      exact ⟨rfl, hx1.trans (hx2.trans hx3)⟩

theorem sub_tail (l k : List Nat) (n : Nat) (h : k.length = n) : sub (l ++ k) l.length n = k := by
  unfold sub
  rw [List.drop_left, List.take_of_length_le (by omega)]

set_option maxHeartbeats 1000000 in
theorem numBack_walk (w : World) (v : Value) (l : List Nat) (n z : Nat) (hv : SlW w v l) (hb : ∀ x ∈ l, x < 256) (hn : n < 18446744073709551616) :
    Calls Try.prog 10 #[v, .int .u64 n, .int .u8 z] w fun e w' => e = .returned (.bool true) ∧ Ext w w' := by
  have Hb := hid (fun x hx => hb x (List.mem_of_mem_take (i := 60) hx))
  have hl1 : (l.take 60).length ≤ 60 := by simp; omega
  clear hb
  have Hn := hid hn
  clear hn
  go_enter Try.func10, Try.ntmps10
  go_wp2_with fail
  refine (few_any _ _ l 60 hv (by omega)).mono ?_
  rintro e w1 hr; obtain ⟨a1, n1, q1, rfl, hn1, ho1, hx1⟩ := hr.shape
  clear hr
  generalize l.take 60 = p at *
  have hs : (1 : Int) + (z : Int) % 8 = ((1 + z % 8 : Nat) : Int) := by simp
  have hs1 : 1 ≤ 1 + z % 8 := by omega
  have hs8 : 1 + z % 8 ≤ 8 := by omega
  have Hs := hid hs
  clear hs
  go_wp2_with fail
  rw [Hs.out]
  clear Hs
  generalize 1 + z % 8 = s at *
  refine (put_yes _ _ p n s ho1.sl (by omega) hs1 hs8).mono ?_
  rintro e w2 hr; obtain ⟨a2, n2, q2, rfl, hn2, ho2, hx2⟩ := hr.shape
  clear hr
  go_wp2_with fail
  rw [hn1.out]
  have hbe : ∀ x ∈ p ++ be n s, x < 256 := fun x hx => (List.mem_append.1 hx).elim (Hb.out x) (be_lt n s x)
  refine (get_yes _ _ (p ++ be n s) p.length s ho2.sl hbe (by simp [be_length]) hs1 hs8).mono ?_
  rintro e w3 ⟨rfl, rfl⟩
  rw [sub_tail p _ s (be_length n s), val_be]
  clear hbe hn2
  have hx := hx1.trans hx2
  have hcase : s = 1 ∨ s = 2 ∨ s = 3 ∨ s = 4 ∨ s = 5 ∨ s = 6 ∨ s = 7 ∨ s = 8 := by omega
  clear ho1 ho2 hx1 hx2 hv
  rcases hcase with rfl | rfl | rfl | rfl | rfl | rfl | rfl | rfl
  case inr.inr.inr.inr.inr.inr.inr =>
    have e8 : n % 256 ^ 8 = n := Nat.mod_eq_of_lt (by have := Hn.out; omega)
    rw [e8]
    go_wp2_with fail
    refine (numLives_any _).mono ?_
    rintro e w3 ⟨rfl, hx3⟩
    go_wp2_with fail
    go_ret
    exact ⟨rfl, hx.trans hx3⟩
  all_goals
    go_wp2_with fail
    refine (numLives_any _).mono ?_
    rintro e w3 ⟨rfl, hx3⟩
    go_wp2_with fail
    go_ret
    exact ⟨rfl, hx.trans hx3⟩

end Go.Proofs.Ytopcecgkbmdmeaa
