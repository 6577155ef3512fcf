/- Layer 18 (hash): what each function hands back. -/
import Derived.Test.YtopcecgkbmdmeaaNum
namespace Go.Proofs.Ytopcecgkbmdmeaa
open Go.RowKit
set_option linter.unusedSimpArgs false
set_option linter.unusedVariables false

set_option maxHeartbeats 400000 in
theorem xor_any (a b : Nat) (w : World) (ha : a < 18446744073709551616) (hb : b < 18446744073709551616) :
    Calls Try.prog 32 #[.int .u64 a, .int .u64 b] w fun e w' => e = .returned (.int .u64 ((a ^^^ b : Nat) : Int)) ∧ w = w' := by
  have Ha := hid ha
  have Hb := hid hb
  clear ha hb
  go_enter Try.func32, Try.ntmps32
  go_wp2
  go_loop [5, 6] (fun x i => ∃ k : Nat, k ≤ 64 ∧ i = .int .i64 (k - 1) ∧ x = .int .u64 ((a / 2^k) ^^^ (b / 2^k) : Nat)) (fun _ i => (intOf i + 1).toNat)
  case atStart =>
    refine ⟨64, by omega, by simp, ?_⟩
    rw [Nat.div_eq_of_lt (show a < 2 ^ 64 from Ha.out), Nat.div_eq_of_lt (show b < 2 ^ 64 from Hb.out)]
    rfl
  case round =>
    obtain ⟨k, hk, rfl, rfl⟩ := hrel
    by_cases hlt : 1 ≤ k
    · have h1 : (0:Int) ≤ (a:Int) / 2^(k-1) := Int.ediv_nonneg (by omega) (Int.pow_nonneg (by decide))
      have h2 : (0:Int) ≤ (b:Int) / 2^(k-1) := Int.ediv_nonneg (by omega) (Int.pow_nonneg (by decide))
      go_wp2
      go_round
      case rel =>
        obtain ⟨j, rfl⟩ : ∃ j, k = j + 1 := ⟨k - 1, by omega⟩
        refine ⟨j, by omega, by go_num, ?_⟩
        have e := xor_half (a / 2 ^ j) (b / 2 ^ j)
        rw [Nat.div_div_eq_div_mul, Nat.div_div_eq_div_mul, ← Nat.pow_succ] at e
        have hlt : (a / 2 ^ j) ^^^ (b / 2 ^ j) < 18446744073709551616 := xor_lt64 (Nat.lt_of_le_of_lt (Nat.div_le_self _ _) Ha.out) (Nat.lt_of_le_of_lt (Nat.div_le_self _ _) Hb.out)
        rw [Nat.add_sub_cancel]
        rw [show ((a : Int) / 2 ^ j) = ((a / 2 ^ j : Nat) : Int) by simp, show ((b : Int) / 2 ^ j) = ((b / 2 ^ j : Nat) : Int) by simp]
        generalize (a / 2 ^ (j + 1)) ^^^ (b / 2 ^ (j + 1)) = X at *
        generalize a / 2 ^ j = A at *
        generalize b / 2 ^ j = B at *
        generalize A ^^^ B = Y at *
        rw [IntKind.wrap_u64, IntKind.wrap_u64]
        congr 1
        omega
      case measure => simp [intOf]; omega
    · obtain rfl : k = 0 := by omega
      go_wp2
      go_ret
      refine ⟨?_, rfl⟩
      simp

set_option maxHeartbeats 400000 in
theorem hsum_any (w : World) (s : Nat) (v : Value) (ls : List (List Nat)) (hs : s < 18446744073709551616) (hv : Sls w v ls) (hb : ∀ l ∈ ls, ∀ x ∈ l, x < 256) :
    Calls Try.prog 31 #[.int .u64 s, v] w fun e w' => e = .returned (.int .u64 (hfin (fnvl (hbegin s) ls) : Nat)) ∧ w = w' := by
  have fin : ∀ n : Nat, n < 18446744073709551616 → bits .xor .u64 (n : Int) ((n : Int) / 8589934592) = ((n ^^^ n / 8589934592 : Nat) : Int) := fun n hn => by
    rw [show ((n : Int) / 8589934592) = ((n / 8589934592 : Nat) : Int) by simp]
    exact xor_walk hn (Nat.lt_of_le_of_lt (Nat.div_le_self _ _) hn)
  have hbeg : bits .xor .u64 14695981039346656037 (s : Int) = ((hbegin s : Nat) : Int) := xor_walk (a := 14695981039346656037) (by decide) hs
  have hbl := hbegin_lt hs
  clear hs
  generalize hbegin s = n0 at *
  obtain ⟨a, cap, rfl, hle, hcm⟩ : ∃ a cap, v = .slice a ls.length cap ∧ ls.length ≤ cap ∧ cap ≤ 9223372036854775807 := by
    rcases hv with ⟨rfl, rfl⟩ | ⟨b, o, cap, rfl, h1, h2, _⟩
    · exact ⟨none, 0, rfl, by simp, by omega⟩
    · exact ⟨_, cap, rfl, h1, by unfold maxLen at h2; omega⟩
  have Hbl := hid hbl
  have Fin := hid fin
  clear hbl fin
  go_enter Try.func31, Try.ntmps31
  go_wp2
  clear hbeg
  go_loop [5, 7, 9, 14, 18, 19, 20] (fun x _ _ i _ _ _ => ∃ k n : Nat, k ≤ ls.length ∧ i = .int .i64 k ∧ x = .int .u64 (n : Int) ∧ n = fnvl n0 (ls.take k)) (fun _ _ _ i _ _ _ => ls.length - (intOf i).toNat)
  case atStart => exact ⟨0, n0, by omega, rfl, rfl, rfl⟩
  case round =>
    obtain ⟨k, n, hk, rfl, rfl, hn0⟩ := hrel
    have Hn := hid hn0
    have Hlt : Hid (n < 18446744073709551616) := by rw [hn0]; exact fnvl_lt Hbl.out _
    clear hn0
    by_cases hlt : k < ls.length
    · rcases hv with ⟨hv, hnil⟩ | ⟨b, o, cap', hv, h1, h2, h3⟩
      · subst hnil; simp at hlt
      · obtain ⟨rfl, rfl⟩ : a = some ⟨b, o, none⟩ ∧ cap = cap' := by simpa using hv
        obtain ⟨u, hcell, hu⟩ := h3 k hlt
        have hbk : ∀ x ∈ ls.getD k [], x < 256 := by
          have : ls.getD k [] ∈ ls := by simp [hlt]
          exact hb _ this
        have Htk : Hid (ls.take (k + 1) = ls.take k ++ [ls.getD k []]) := by
          unfold Hid
          rw [List.take_succ_eq_append_getElem hlt]
          simp [hlt]
        clear h3 hv
        generalize ls.getD k [] = l at *
        obtain ⟨a2, cap2, rfl, g1, g2, hrd, _⟩ := hu.rd
        clear hu
        have g3 : l.length ≤ 9223372036854775807 := by unfold maxLen at g2; omega
        clear g2
        go_wp2
        clear hcell
        go_loop [5, 9, 20] (fun x _ i => ∃ q m : Nat, q ≤ l.length ∧ i = .int .i64 q ∧ x = .int .u64 (m : Int) ∧ m = fnvs n (l.take q)) (fun _ _ i => l.length - (intOf i).toNat)
        case atStart => exact ⟨0, n, by omega, rfl, rfl, rfl⟩
        case round =>
          obtain ⟨q, m, hq, rfl, rfl, hm0⟩ := hrel
          have Hm := hid hm0
          have hmlt : m < 18446744073709551616 := by rw [hm0]; exact fnvs_lt Hlt.out _
          clear hm0
          by_cases hqlt : q < l.length
          · obtain ⟨b2, o2, rfl, hc2⟩ := hrd.resolve_left (by intro h; subst h; simp at hqlt)
            have hcell := hc2 q hqlt
            have hx1 : l.getD q 0 < 256 := hbk _ (by simp [hqlt])
            have Hts := hid (take_succ hqlt)
            have e1 := xor_walk (a := m) (b := l.getD q 0) hmlt (by omega)
            have e2 := fnv_walk m (l.getD q 0)
            clear hc2 hrd hbk hmlt
            generalize l.getD q 0 = c at *
            go_wp2
            go_round
            case rel => exact ⟨q + 1, fnv1 m c, by omega, by go_num, rfl, by rw [Hts.out, fnvs_snoc, ← Hm.out]⟩
            case measure => simp [intOf]; omega
          · obtain rfl : q = l.length := by omega
            go_wp2
            go_round
            case rel => exact ⟨k + 1, m, by omega, by go_num, rfl, by rw [Htk.out, fnvl_snoc, ← Hn.out, Hm.out, List.take_length]⟩
            case measure => simp [intOf]; omega
    · obtain rfl : k = ls.length := by omega
      have e1 := Fin.out n Hlt.out
      have e2 := hfin_walk n
      have e3 := Fin.out (hfin1 n) (hfin1_lt n)
      go_wp2
      go_ret
      refine ⟨?_, rfl⟩
      rw [Hn.out, List.take_length]
      rfl

theorem xor_at (A B : Int) (a b : Nat) (w : World) (hA : A = (a : Int)) (hB : B = (b : Int)) (ha : a < 18446744073709551616) (hb : b < 18446744073709551616) :
    Calls Try.prog 32 #[.int .u64 A, .int .u64 B] w fun e w' => e = .returned (.int .u64 ((a ^^^ b : Nat) : Int)) ∧ w = w' := by
  subst hA hB
  exact xor_any a b w ha hb

set_option maxHeartbeats 400000 in
theorem refHsum_any (w : World) (s : Nat) (v : Value) (l : List Nat) (hs : s < 18446744073709551616) (hv : Sl w v l) (hb : ∀ x ∈ l, x < 256) :
    Calls Try.prog 14 #[.int .u64 s, v] w fun e w' => e = .returned (.int .u64 (hsum s l : Nat)) ∧ w = w' := by
  obtain ⟨a, cap, rfl, g1, g2, hrd, _⟩ := hv.rd
  clear hv
  have g3 : l.length ≤ 9223372036854775807 := by unfold maxLen at g2; omega
  clear g2
  have Hs := hid hs
  clear hs
  have Hbl : Hid (hbegin s < 18446744073709551616) := hbegin_lt Hs.out
  go_enter Try.func14, Try.ntmps14
  go_wp2_with (go_at_call 32; refine (xor_at _ _ 14695981039346656037 s _ rfl rfl (by decide) Hs.out).mono ?_; rintro e w' ⟨rfl, rfl⟩)
  rw [show (14695981039346656037 ^^^ s) = hbegin s from rfl]
  generalize hn0 : hbegin s = n0 at *
  have Hn0 := hid hn0
  clear hn0
  go_loop [5, 6] (fun x i => ∃ q m : Nat, q ≤ l.length ∧ i = .int .i64 q ∧ x = .int .u64 (m : Int) ∧ m = fnvs n0 (l.take q)) (fun _ i => l.length - (intOf i).toNat)
  case atStart => exact ⟨0, n0, by omega, rfl, rfl, rfl⟩
  case round =>
    obtain ⟨q, m, hq, rfl, rfl, hm0⟩ := hrel
    have Hm := hid hm0
    have Hmlt : Hid (m < 18446744073709551616) := by rw [hm0]; exact fnvs_lt Hbl.out _
    clear hm0
    by_cases hqlt : q < l.length
    · obtain ⟨b2, o2, rfl, hc2⟩ := hrd.resolve_left (by intro h; subst h; simp at hqlt)
      have hcell := hc2 q hqlt
      have hx1 : l.getD q 0 < 256 := hb _ (by simp [hqlt])
      have Hts := hid (take_succ hqlt)
      have e2 := fnv_walk m (l.getD q 0)
      clear hc2 hrd hb
      generalize l.getD q 0 = c at *
      go_wp2_with (go_at_call 32; refine (xor_at _ _ m c _ rfl rfl Hmlt.out (by omega)).mono ?_; rintro e w' ⟨rfl, rfl⟩)
      go_round
      case rel => exact ⟨q + 1, fnv1 m c, by omega, by go_num, rfl, by rw [Hts.out, fnvs_snoc, ← Hm.out]⟩
      case measure => simp [intOf]; omega
    · obtain rfl : q = l.length := by omega
      have e2 := hfin_walk m
      have hmlt := Hmlt.out
      have hf1 := hfin1_lt m
      go_wp2_with fail
      refine (xor_at _ _ m (m / 8589934592) _ rfl (by simp) Hmlt.out (Nat.lt_of_le_of_lt (Nat.div_le_self _ _) Hmlt.out)).mono ?_
      rintro e w' ⟨rfl, rfl⟩
      go_wp2_with fail
      refine (xor_at _ _ (hfin1 m) (hfin1 m / 8589934592) _ rfl (by simp) (hfin1_lt m) (Nat.lt_of_le_of_lt (Nat.div_le_self _ _) (hfin1_lt m))).mono ?_
      rintro e w' ⟨rfl, rfl⟩
      go_wp2_with fail
      go_ret
      refine ⟨?_, rfl⟩
      unfold hsum
      rw [Hm.out, List.take_length, Hn0.out]
      rfl

set_option maxHeartbeats 400000 in
theorem hashSum_any (w : World) (s : Nat) (v : Value) (ls : List (List Nat)) (hs : s < 18446744073709551616) (hv : Sls w v ls) (hb : ∀ l ∈ ls, ∀ x ∈ l, x < 256) :
    Calls Try.prog 13 #[.int .u64 s, v] w fun e w' => e = .returned (.int .u64 (hsum s ls.flatten : Nat)) ∧ w = w' := by
  have H := hsum_any w s v ls hs hv hb
  rw [fnvl_flat] at H
  go_enter Try.func13, Try.ntmps13
  go_wp2_with (go_at_call 31; refine H.mono ?_; rintro e w' ⟨rfl, rfl⟩)
  go_ret
  exact ⟨rfl, rfl⟩

set_option maxHeartbeats 400000 in
theorem hashLives_any (w : World) :
    Calls Try.prog 15 #[] w fun e w' => e = .returned (.bool true) ∧ Ext w w' := by
  have h0 := (own_lit w w.heap.size [] #[] rfl (Nat.le_refl _) (by decide)).sl
  go_enter Try.func15, Try.ntmps15
  go_wp2_with (first
    | (go_at_call 13; refine (hashSum_any _ 0 _ [] (by decide) (.inl ⟨rfl, rfl⟩) (by simp)).mono ?_; rintro e w1 ⟨rfl, rfl⟩)
    | (go_at_call 14; refine (refHsum_any _ 0 _ [] (by decide) h0 (by simp)).mono ?_; rintro e w1 ⟨rfl, rfl⟩))
  go_ret
  exact ⟨rfl, (Ext.refl w).alloc _⟩

theorem hashSum_at (w : World) (s : Nat) (v : Value) (ls : List (List Nat)) (t : List Nat) (ht : ls.flatten = t) (hs : s < 18446744073709551616) (hv : Sls w v ls) (hb : ∀ l ∈ ls, ∀ x ∈ l, x < 256) :
    Calls Try.prog 13 #[.int .u64 s, v] w fun e w' => e = .returned (.int .u64 (hsum s t : Nat)) ∧ w = w' := by
  subst ht
  exact hashSum_any w s v ls hs hv hb

theorem lt_take {l : List Nat} (h : ∀ x ∈ l, x < 256) (n : Nat) : ∀ x ∈ l.take n, x < 256 := fun x hx => h x (List.mem_of_mem_take hx)
theorem lt_append {l k : List Nat} (h : ∀ x ∈ l, x < 256) (h2 : ∀ x ∈ k, x < 256) : ∀ x ∈ l ++ k, x < 256 := fun x hx => (List.mem_append.1 hx).elim (h x) (h2 x)

set_option maxHeartbeats 400000 in
theorem hashSums_walk (w : World) (s : Nat) (va vb : Value) (la lb : List Nat) (hs : s < 18446744073709551616) (ha : SlW w va la) (hb : SlW w vb lb) (hla : ∀ x ∈ la, x < 256) (hlb : ∀ x ∈ lb, x < 256) :
    Calls Try.prog 3 #[.int .u64 s, va, vb] w fun e w' => e = .returned (.bool true) ∧ Ext w w' := by
  have Hs := hid hs
  clear hs
  have Hla := hid (lt_take hla 60)
  have Hlb := hid (lt_take hlb 60)
  clear hla hlb
  go_enter Try.func3, Try.ntmps3
  go_wp2_with (at_builtin; fail)
  refine (few_any _ _ la 60 ha (by omega)).mono ?_
  rintro e w1 hr; obtain ⟨a1, n1, c1, rfl, hn1, ho1, hx1⟩ := hr.shape
  go_wp2_with (at_builtin; fail)
  refine (few_any _ _ lb 60 (hb.mono hx1) (by omega)).mono ?_
  rintro e w2 hr; obtain ⟨a2, n2, c2, rfl, hn2, ho2, hx2⟩ := hr.shape
  have hl1 : (la.take 60).length ≤ 60 := by simp; omega
  have hl2 : (lb.take 60).length ≤ 60 := by simp; omega
  generalize la.take 60 = l1 at *
  generalize lb.take 60 = l2 at *
  have h0 := own_lit w2 w2.heap.size [] #[] rfl (Nat.le_refl _) (by decide)
  have hx0 := (Ext.refl w2).alloc (.cells #[] 5)
  go_wp2_with (first
    | (at_builtin; refine appB _ rfl (.tmp 12) (.tmp 13) rfl w2.heap.size h0 rfl ((ho1.mono hx2).sl.mono hx0) rfl (by simp; omega) (by simp) fun a3 n3 c3 w3 hn3 ho3 hg => ?_; have hx3 : Ext w2 w3 := Own.ext h0 hx0 (Nat.le_refl _) hg; clear h0 hx0 hg)
    | (at_builtin; refine appB _ rfl (.tmp 14) (.tmp 15) rfl w2.heap.size ho3 rfl (ho2.sl.mono hx3) rfl (by simp; omega) hx3.size fun a4 n4 c4 w4 hn4 ho4 hg => ?_; have hx4 : Ext w2 w4 := Own.ext ho3 hx3 (Nat.le_refl _) hg; clear ho3 hg hx3)
    | fail)
  have s1 := (ho1.mono hx2).sl.mono hx4
  have s2 := ho2.sl.mono hx4
  have s3 : Sl w4 (.slice a4 n4 c4) (l1 ++ l2) := ho4.sl
  have hw4 : Ext w w4 := hx1.trans (hx2.trans hx4)
  have hall := hid (lt_append Hla.out Hlb.out)
  clear ho1 ho2 ho4 hx1 hx2 hx4 hr ha hb
  refine (hashSum_at _ s _ [l1, l2] (l1 ++ l2) (by simp) Hs.out (sls_two _ _ rfl s1 s2) (by intro l hl; simp at hl; rcases hl with rfl | rfl; exact Hla.out; exact Hlb.out)).mono ?_
  rintro e w' ⟨rfl, rfl⟩
  go_wp2_with fail
  refine (refHsum_any _ s _ (l1 ++ l2) Hs.out (s3.mono ((Ext.refl w4).alloc _)) hall.out).mono ?_
  rintro e w' ⟨rfl, rfl⟩
  go_wp2_with fail
  refine (hashSum_at _ s _ [l1 ++ l2] (l1 ++ l2) (by simp) Hs.out (sls_one _ _ (by simp) (s3.mono ((Ext.refl w4).alloc _))) (by intro l hl; simp only [List.mem_singleton] at hl; subst hl; exact hall.out)).mono ?_
  rintro e w' ⟨rfl, rfl⟩
  go_wp2_with fail
  refine (refHsum_any _ s _ (l1 ++ l2) Hs.out (s3.mono (((Ext.refl w4).alloc _).alloc _)) hall.out).mono ?_
  rintro e w' ⟨rfl, rfl⟩
  go_wp2_with fail
  refine (hashLives_any _).mono ?_
  rintro e w' ⟨rfl, hx5⟩
  go_wp2_with fail
  go_ret
  exact ⟨rfl, ((hw4.alloc _).alloc _).trans hx5⟩

end Go.Proofs.Ytopcecgkbmdmeaa
