/- Layer 18 (hash): what each function hands back. -/
import Derived.Test.YtopcecgkbmdmeaaNum
namespace Go.Proofs.Ytopcecgkbmdmeaa
open Go.RowKit
set_option linter.unusedSimpArgs false
set_option linter.unusedVariables false

set_option maxHeartbeats 400000 in
theorem xor_any (a b : Nat) (w : World) (ha : a < 18446744073709551616) (hb : b < 18446744073709551616) :
    Calls Try.prog 32 #[.int .u64 a, .int .u64 b] w fun e w' => e = .returned (.int .u64 ((a ^^^ b : Nat) : Int)) ∧ w = w' := by
  have Ha := hid ha
  have Hb := hid hb
  clear ha hb
  go_enter Try.func32, Try.ntmps32
  go_wp2
  go_loop [5, 6] (fun x i => ∃ k : Nat, k ≤ 64 ∧ i = .int .i64 (k - 1) ∧ x = .int .u64 ((a / 2^k) ^^^ (b / 2^k) : Nat)) (fun _ i => (intOf i + 1).toNat)
  case atStart =>
    refine ⟨64, by omega, by simp, ?_⟩
    rw [Nat.div_eq_of_lt (show a < 2 ^ 64 from Ha.out), Nat.div_eq_of_lt (show b < 2 ^ 64 from Hb.out)]
    rfl
  case round =>
    obtain ⟨k, hk, rfl, rfl⟩ := hrel
    by_cases hlt : 1 ≤ k
    · have h1 : (0:Int) ≤ (a:Int) / 2^(k-1) := Int.ediv_nonneg (by omega) (Int.pow_nonneg (by decide))
      have h2 : (0:Int) ≤ (b:Int) / 2^(k-1) := Int.ediv_nonneg (by omega) (Int.pow_nonneg (by decide))
      go_wp2
      go_round
      case rel =>
        obtain ⟨j, rfl⟩ : ∃ j, k = j + 1 := ⟨k - 1, by omega⟩
        refine ⟨j, by omega, by go_num, ?_⟩
        have e := xor_half (a / 2 ^ j) (b / 2 ^ j)
        rw [Nat.div_div_eq_div_mul, Nat.div_div_eq_div_mul, ← Nat.pow_succ] at e
        have hlt : (a / 2 ^ j) ^^^ (b / 2 ^ j) < 18446744073709551616 := xor_lt64 (Nat.lt_of_le_of_lt (Nat.div_le_self _ _) Ha.out) (Nat.lt_of_le_of_lt (Nat.div_le_self _ _) Hb.out)
        rw [Nat.add_sub_cancel]
        rw [show ((a : Int) / 2 ^ j) = ((a / 2 ^ j : Nat) : Int) by simp, show ((b : Int) / 2 ^ j) = ((b / 2 ^ j : Nat) : Int) by simp]
        generalize (a / 2 ^ (j + 1)) ^^^ (b / 2 ^ (j + 1)) = X at *
        generalize a / 2 ^ j = A at *
        generalize b / 2 ^ j = B at *
        generalize A ^^^ B = Y at *
        rw [IntKind.wrap_u64, IntKind.wrap_u64]
        congr 1
        omega
      case measure => simp [intOf]; omega
    · obtain rfl : k = 0 := by omega
      go_wp2
      go_ret
      refine ⟨?_, rfl⟩
      simp

set_option maxHeartbeats 400000 in
theorem hsum_any (w : World) (s : Nat) (v : Value) (ls : List (List Nat)) (hs : s < 18446744073709551616) (hv : Sls w v ls) (hb : ∀ l ∈ ls, ∀ x ∈ l, x < 256) :
    Calls Try.prog 31 #[.int .u64 s, v] w fun e w' => e = .returned (.int .u64 (hfin (fnvl (hbegin s) ls) : Nat)) ∧ w = w' := by
  have fin : ∀ n : Nat, n < 18446744073709551616 → bits .xor .u64 (n : Int) ((n : Int) / 8589934592) = ((n ^^^ n / 8589934592 : Nat) : Int) := fun n hn => by
    rw [show ((n : Int) / 8589934592) = ((n / 8589934592 : Nat) : Int) by simp]
    exact xor_walk hn (Nat.lt_of_le_of_lt (Nat.div_le_self _ _) hn)
  have hbeg : bits .xor .u64 14695981039346656037 (s : Int) = ((hbegin s : Nat) : Int) := xor_walk (a := 14695981039346656037) (by decide) hs
  have hbl := hbegin_lt hs
  clear hs
  generalize hbegin s = n0 at *
  obtain ⟨a, cap, rfl, hle, hcm⟩ : ∃ a cap, v = .slice a ls.length cap ∧ ls.length ≤ cap ∧ cap ≤ 9223372036854775807 := by
    rcases hv with ⟨rfl, rfl⟩ | ⟨b, o, cap, rfl, h1, h2, _⟩
    · exact ⟨none, 0, rfl, by simp, by omega⟩
    · exact ⟨_, cap, rfl, h1, by unfold maxLen at h2; omega⟩
  have Hbl := hid hbl
  have Fin := hid fin
  clear hbl fin
  go_enter Try.func31, Try.ntmps31
  go_wp2
  clear hbeg
  go_loop [5, 7, 9, 14, 18, 19, 20] (fun x _ _ i _ _ _ => ∃ k n : Nat, k ≤ ls.length ∧ i = .int .i64 k ∧ x = .int .u64 (n : Int) ∧ n = fnvl n0 (ls.take k)) (fun _ _ _ i _ _ _ => ls.length - (intOf i).toNat)
  case atStart => exact ⟨0, n0, by omega, rfl, rfl, rfl⟩
  case round =>
    obtain ⟨k, n, hk, rfl, rfl, hn0⟩ := hrel
    have Hn := hid hn0
    have Hlt : Hid (n < 18446744073709551616) := by rw [hn0]; exact fnvl_lt Hbl.out _
    clear hn0
    by_cases hlt : k < ls.length
    · rcases hv with ⟨hv, hnil⟩ | ⟨b, o, cap', hv, h1, h2, h3⟩
      · subst hnil; simp at hlt
      · obtain ⟨rfl, rfl⟩ : a = some ⟨b, o, none⟩ ∧ cap = cap' := by simpa using hv
        obtain ⟨u, hcell, hu⟩ := h3 k hlt
        have hbk : ∀ x ∈ ls.getD k [], x < 256 := by
          have : ls.getD k [] ∈ ls := by simp [hlt]
          exact hb _ this
        have Htk : Hid (ls.take (k + 1) = ls.take k ++ [ls.getD k []]) := by
          unfold Hid
          rw [List.take_succ_eq_append_getElem hlt]
          simp [hlt]
        clear h3 hv
        generalize ls.getD k [] = l at *
        obtain ⟨a2, cap2, rfl, g1, g2, hrd, _⟩ := hu.rd
        clear hu
        have g3 : l.length ≤ 9223372036854775807 := by unfold maxLen at g2; omega
        clear g2
        go_wp2
        clear hcell
        go_loop [5, 9, 20] (fun x _ i => ∃ q m : Nat, q ≤ l.length ∧ i = .int .i64 q ∧ x = .int .u64 (m : Int) ∧ m = fnvs n (l.take q)) (fun _ _ i => l.length - (intOf i).toNat)
        case atStart => exact ⟨0, n, by omega, rfl, rfl, rfl⟩
        case round =>
          obtain ⟨q, m, hq, rfl, rfl, hm0⟩ := hrel
          have Hm := hid hm0
          have hmlt : m < 18446744073709551616 := by rw [hm0]; exact fnvs_lt Hlt.out _
          clear hm0
          by_cases hqlt : q < l.length
          · obtain ⟨b2, o2, rfl, hc2⟩ := hrd.resolve_left (by intro h; subst h; simp at hqlt)
            have hcell := hc2 q hqlt
            have hx1 : l.getD q 0 < 256 := hbk _ (by simp [hqlt])
            have Hts := hid (take_succ hqlt)
            have e1 := xor_walk (a := m) (b := l.getD q 0) hmlt (by omega)
            have e2 := fnv_walk m (l.getD q 0)
            clear hc2 hrd hbk hmlt
            generalize l.getD q 0 = c at *
            go_wp2
            go_round
            case rel => exact ⟨q + 1, fnv1 m c, by omega, by go_num, rfl, by rw [Hts.out, fnvs_snoc, ← Hm.out]⟩
            case measure => simp [intOf]; omega
          · obtain rfl : q = l.length := by omega
            go_wp2
            go_round
            case rel => exact ⟨k + 1, m, by omega, by go_num, rfl, by rw [Htk.out, fnvl_snoc, ← Hn.out, Hm.out, List.take_length]⟩
            case measure => simp [intOf]; omega
    · obtain rfl : k = ls.length := by omega
      have e1 := Fin.out n Hlt.out
      have e2 := hfin_walk n
      have e3 := Fin.out (hfin1 n) (hfin1_lt n)
      go_wp2
      go_ret
      refine ⟨?_, rfl⟩
      rw [Hn.out, List.take_length]
      rfl

theorem xor_at (A B : Int) (a b : Nat) (w : World) (hA : A = (a : Int)) (hB : B = (b : Int)) (ha : a < 18446744073709551616) (hb : b < 18446744073709551616) :
    Calls Try.prog 32 #[.int .u64 A, .int .u64 B] w fun e w' => e = .returned (.int .u64 ((a ^^^ b : Nat) : Int)) ∧ w = w' := by
  subst hA hB
  exact xor_any a b w ha hb

set_option maxHeartbeats 400000 in
theorem refHsum_any (w : World) (s : Nat) (v : Value) (l : List Nat) (hs : s < 18446744073709551616) (hv : Sl w v l) (hb : ∀ x ∈ l, x < 256) :
    Calls Try.prog 14 #[.int .u64 s, v] w fun e w' => e = .returned (.int .u64 (hsum s l : Nat)) ∧ w = w' := by
  obtain ⟨a, cap, rfl, g1, g2, hrd, _⟩ := hv.rd
  clear hv
  have g3 : l.length ≤ 9223372036854775807 := by unfold maxLen at g2; omega
  clear g2
  have Hs := hid hs
  clear hs
  have Hbl : Hid (hbegin s < 18446744073709551616) := hbegin_lt Hs.out
  go_enter Try.func14, Try.ntmps14
  go_wp2_with (go_at_call 32; refine (xor_at _ _ 14695981039346656037 s _ rfl rfl (by decide) Hs.out).mono ?_; rintro e w' ⟨rfl, rfl⟩)
  rw [show (14695981039346656037 ^^^ s) = hbegin s from rfl]
  generalize hn0 : hbegin s = n0 at *
  have Hn0 := hid hn0
  clear hn0
  go_loop [5, 6] (fun x i => ∃ q m : Nat, q ≤ l.length ∧ i = .int .i64 q ∧ x = .int .u64 (m : Int) ∧ m = fnvs n0 (l.take q)) (fun _ i => l.length - (intOf i).toNat)
  case atStart => exact ⟨0, n0, by omega, rfl, rfl, rfl⟩
  case round =>
    obtain ⟨q, m, hq, rfl, rfl, hm0⟩ := hrel
    have Hm := hid hm0
    have Hmlt : Hid (m < 18446744073709551616) := by rw [hm0]; exact fnvs_lt Hbl.out _
    clear hm0
    by_cases hqlt : q < l.length
    · obtain ⟨b2, o2, rfl, hc2⟩ := hrd.resolve_left (by intro h; subst h; simp at hqlt)
      have hcell := hc2 q hqlt
      have hx1 : l.getD q 0 < 256 := hb _ (by simp [hqlt])
      have Hts := hid (take_succ hqlt)
      have e2 := fnv_walk m (l.getD q 0)
      clear hc2 hrd hb
      generalize l.getD q 0 = c at *
      go_wp2_with (go_at_call 32; refine (xor_at _ _ m c _ rfl rfl Hmlt.out (by omega)).mono ?_; rintro e w' ⟨rfl, rfl⟩)
      go_round
      case rel => exact ⟨q + 1, fnv1 m c, by omega, by go_num, rfl, by rw [Hts.out, fnvs_snoc, ← Hm.out]⟩
      case measure => simp [intOf]; omega
    · obtain rfl : q = l.length := by omega
      have e2 := hfin_walk m
      have hmlt := Hmlt.out
      have hf1 := hfin1_lt m
      go_wp2_with fail
      refine (xor_at _ _ m (m / 8589934592) _ rfl (by simp) Hmlt.out (Nat.lt_of_le_of_lt (Nat.div_le_self _ _) Hmlt.out)).mono ?_
      rintro e w' ⟨rfl, rfl⟩
      go_wp2_with fail
      refine (xor_at _ _ (hfin1 m) (hfin1 m / 8589934592) _ rfl (by simp) (hfin1_lt m) (Nat.lt_of_le_of_lt (Nat.div_le_self _ _) (hfin1_lt m))).mono ?_
      rintro e w' ⟨rfl, rfl⟩
      go_wp2_with fail
      go_ret
      refine ⟨?_, rfl⟩
      unfold hsum
      rw [Hm.out, List.take_length, Hn0.out]
      rfl

set_option maxHeartbeats 400000 in
theorem hashSum_any (w : World) (s : Nat) (v : Value) (ls : List (List Nat)) (hs : s < 18446744073709551616) (hv : Sls w v ls) (hb : ∀ l ∈ ls, ∀ x ∈ l, x < 256) :
    Calls Try.prog 13 #[.int .u64 s, v] w fun e w' => e = .returned (.int .u64 (hsum s ls.flatten : Nat)) ∧ w = w' := by
  have H := hsum_any w s v ls hs hv hb
  rw [fnvl_flat] at H
  go_enter Try.func13, Try.ntmps13
  go_wp2_with (go_at_call 31; refine H.mono ?_; rintro e w' ⟨rfl, rfl⟩)
  go_ret
  exact ⟨rfl, rfl⟩

set_option maxHeartbeats 400000 in
theorem hashLives_any (w : World) :
    Calls Try.prog 15 #[] w fun e w' => e = .returned (.bool true) ∧ Ext w w' := by
  have h0 := (own_lit w w.heap.size [] #[] rfl (Nat.le_refl _) (by decide)).sl
  go_enter Try.func15, Try.ntmps15
  go_wp2_with (first
    | (go_at_call 13; refine (hashSum_any _ 0 _ [] (by decide) (.inl ⟨rfl, rfl⟩) (by simp)).mono ?_; rintro e w1 ⟨rfl, rfl⟩)
    | (go_at_call 14; refine (refHsum_any _ 0 _ [] (by decide) h0 (by simp)).mono ?_; rintro e w1 ⟨rfl, rfl⟩))
  go_ret
  exact ⟨rfl, (Ext.refl w).alloc _⟩

theorem hashSum_at (w : World) (s : Nat) (v : Value) (ls : List (List Nat)) (t : List Nat) (ht : ls.flatten = t) (hs : s < 18446744073709551616) (hv : Sls w v ls) (hb : ∀ l ∈ ls, ∀ x ∈ l, x < 256) :
    Calls Try.prog 13 #[.int .u64 s, v] w fun e w' => e = .returned (.int .u64 (hsum s t : Nat)) ∧ w = w' := by
  subst ht
  exact hashSum_any w s v ls hs hv hb

theorem lt_take {l : List Nat} (h : ∀ x ∈ l, x < 256) (n : Nat) : ∀ x ∈ l.take n, x < 256 := fun x hx => h x (List.mem_of_mem_take hx)
theorem lt_append {l k : List Nat} (h : ∀ x ∈ l, x < 256) (h2 : ∀ x ∈ k, x < 256) : ∀ x ∈ l ++ k, x < 256 := fun x hx => (List.mem_append.1 hx).elim (h x) (h2 x)

set_option maxHeartbeats 400000 in
theorem hashSums_walk (w : World) (s : Nat) (va vb : Value) (la lb : List Nat) (hs : s < 18446744073709551616) (ha : SlW w va la) (hb : SlW w vb lb) (hla : ∀ x ∈ la, x < 256) (hlb : ∀ x ∈ lb, x < 256) :
    Calls Try.prog 3 #[.int .u64 s, va, vb] w fun e w' => e = .returned (.bool true) ∧ Ext w w' := by
  have Hs := hid hs
  clear hs
  have Hla := hid (lt_take hla 60)
  have Hlb := hid (lt_take hlb 60)
  clear hla hlb
  go_enter Try.func3, Try.ntmps3
  go_wp2_with (at_builtin; fail)
  refine (few_any _ _ la 60 ha (by omega)).mono ?_
  rintro e w1 hr; obtain ⟨a1, n1, c1, rfl, hn1, ho1, hx1⟩ := hr.shape
  go_wp2_with (at_builtin; fail)
  refine (few_any _ _ lb 60 (hb.mono hx1) (by omega)).mono ?_
  rintro e w2 hr; obtain ⟨a2, n2, c2, rfl, hn2, ho2, hx2⟩ := hr.shape
  have hl1 : (la.take 60).length ≤ 60 := by simp; omega
  have hl2 : (lb.take 60).length ≤ 60 := by simp; omega
  generalize la.take 60 = l1 at *
  generalize lb.take 60 = l2 at *
  have h0 := own_lit w2 w2.heap.size [] #[] rfl (Nat.le_refl _) (by decide)
  have hx0 := (Ext.refl w2).alloc (.cells #[] 5)
  go_wp2_with (first
    | (at_builtin; refine appB _ rfl (.tmp 12) (.tmp 13) rfl w2.heap.size h0 rfl ((ho1.mono hx2).sl.mono hx0) rfl (by simp; omega) (by simp) fun a3 n3 c3 w3 hn3 ho3 hg => ?_; have hx3 : Ext w2 w3 := Own.ext h0 hx0 (Nat.le_refl _) hg; clear h0 hx0 hg)
    | (at_builtin; refine appB _ rfl (.tmp 14) (.tmp 15) rfl w2.heap.size ho3 rfl (ho2.sl.mono hx3) rfl (by simp; omega) hx3.size fun a4 n4 c4 w4 hn4 ho4 hg => ?_; have hx4 : Ext w2 w4 := Own.ext ho3 hx3 (Nat.le_refl _) hg; clear ho3 hg hx3)
    | fail)
  have s1 := (ho1.mono hx2).sl.mono hx4
  have s2 := ho2.sl.mono hx4
  have s3 : Sl w4 (.slice a4 n4 c4) (l1 ++ l2) := ho4.sl
  have hw4 : Ext w w4 := hx1.trans (hx2.trans hx4)
  have hall := hid (lt_append Hla.out Hlb.out)
  clear ho1 ho2 ho4 hx1 hx2 hx4 hr ha hb
  refine (hashSum_at _ s _ [l1, l2] (l1 ++ l2) (by simp) Hs.out (sls_two _ _ rfl s1 s2) (by intro l hl; simp at hl; rcases hl with rfl | rfl; exact Hla.out; exact Hlb.out)).mono ?_
  rintro e w' ⟨rfl, rfl⟩
  go_wp2_with fail
  refine (refHsum_any _ s _ (l1 ++ l2) Hs.out (s3.mono ((Ext.refl w4).alloc _)) hall.out).mono ?_
  rintro e w' ⟨rfl, rfl⟩
  go_wp2_with fail
  refine (hashSum_at _ s _ [l1 ++ l2] (l1 ++ l2) (by simp) Hs.out (sls_one _ _ (by simp) (s3.mono ((Ext.refl w4).alloc _))) (by intro l hl; simp only [List.mem_singleton] at hl; subst hl; exact hall.out)).mono ?_
  rintro e w' ⟨rfl, rfl⟩
  go_wp2_with fail
  refine (refHsum_any _ s _ (l1 ++ l2) Hs.out (s3.mono (((Ext.refl w4).alloc _).alloc _)) hall.out).mono ?_
  rintro e w' ⟨rfl, rfl⟩
  go_wp2_with fail
  refine (hashLives_any _).mono ?_
  rintro e w' ⟨rfl, hx5⟩
  go_wp2_with fail
  go_ret
  exact ⟨rfl, ((hw4.alloc _).alloc _).trans hx5⟩

set_option maxHeartbeats 400000 in
theorem hashByte_nil (w : World) (s : Nat) (va : Value) (x y : Nat) (hs : s < 18446744073709551616) (ha : SlW w va []) :
    Calls Try.prog 4 #[.int .u64 s, va, .agg #[.int .u8 x, .int .u8 y]] w fun e w' => e = .returned (.bool true) ∧ Ext w w' := by
  have Hs := hid hs
  clear hs
  go_enter Try.func4, Try.ntmps4
  go_wp2_with (at_builtin; fail)
  refine (few_any _ _ [] 60 (ha.mono ((Ext.refl w).alloc _)) (by omega)).mono ?_
  rintro e w1 hr; obtain ⟨a1, n1, c1, rfl, hn1, ho1, hx1⟩ := hr.shape
  obtain rfl : n1 = 0 := hn1.out
  go_wp2_with (at_builtin; fail)
  refine (hashLives_any _).mono ?_
  rintro e w' ⟨rfl, hx5⟩
  go_wp2_with fail
  go_ret
  exact ⟨rfl, (((Ext.refl w).alloc _).trans hx1).trans hx5⟩

set_option maxHeartbeats 400000 in
theorem hashByte_pos (w : World) (s : Nat) (va : Value) (la : List Nat) (x y : Nat) (hs : s < 18446744073709551616) (ha : SlW w va la) (hla : ∀ x ∈ la, x < 256) (hne : 0 < la.length) (hx : x < 256) (hy : y < 256) :
    Calls Try.prog 4 #[.int .u64 s, va, .agg #[.int .u8 x, .int .u8 y]] w fun e w' => e = .returned (.bool true) ∧ Ext w w' := by
  have Hs := hid hs
  clear hs
  have Hla := hid (lt_take hla 60)
  clear hla
  go_enter Try.func4, Try.ntmps4
  go_wp2_with (at_builtin; fail)
  refine (few_any _ _ la 60 (ha.mono ((Ext.refl w).alloc _)) (by omega)).mono ?_
  rintro e w1 hr; obtain ⟨a1, n1, c1, rfl, hn1, ho1, hx1⟩ := hr.shape
  have hl1 : (la.take 60).length ≤ 60 := by simp; omega
  have hl0 : 0 < (la.take 60).length := by simp; omega
  generalize la.take 60 = l1 at *
  have hn1' := hn1.out
  have hnl : n1 ≤ 60 := by omega
  have hnp : 0 < n1 := by omega
  clear hn1'
  have h0 := own_lit w1 w1.heap.size [] #[] rfl (Nat.le_refl _) (by decide)
  have hx0 := (Ext.refl w1).alloc (.cells #[] 5)
  have hb0 : w1.cell? ⟨w.heap.size, 0, none⟩ = some (.int .u8 x) := hx1.keep (by rw [World.cell?_alloc_new]; rfl)
  have hb1 : w1.cell? ⟨w.heap.size, 1, none⟩ = some (.int .u8 y) := hx1.keep (by rw [World.cell?_alloc_new]; rfl)
  have hsz : w.heap.size < w1.heap.size := World.block_lt_of_cell? w1 _ hb0
  go_wp2_with (first
    | (at_builtin; refine appB _ rfl (.tmp 15) (.tmp 16) rfl w1.heap.size h0 rfl (ho1.sl.mono hx0) rfl (by simp; omega) (by simp) fun a2 n2 c2 w2 hn2 ho2 hg => ?_; have hx2 : Ext w1 w2 := Own.ext h0 hx0 (Nat.le_refl _) hg; have hb20 := hx2.keep hb0; have hb21 := hx2.keep hb1; clear h0 hx0 hg hb0)
    | fail)
  have hk : x % n1 < n1 := Nat.mod_lt _ hnp
  rw [show ((x : Int) % (n1 : Int)) = ((x % n1 : Nat) : Int) by simp]
  generalize x % n1 = k at *
  rw [List.nil_append] at ho2 hn2
  obtain ⟨g, rfl, hg1, hg2, rfl, hc2, hcell, hfr⟩ := ho2.place (by simpa using hl0)
  have hck := hcell k (by rw [hn1.out] at hk; exact hk)
  have hlk : l1.getD k 0 < 256 := Hla.out _ (by have := hn1.out; simp [show k < l1.length by omega])
  have hkl : k < l1.length := by rw [hn1.out] at hk; exact hk
  clear hcell
  obtain ⟨q, hq⟩ : ∃ q, l1.getD k 0 = q := ⟨_, rfl⟩
  rw [hq] at hck hlk
  have Hq := hid hq
  clear hq
  refine wp_region_last rfl (by kernel_rfl) Ext Ext.refl (fun _ _ _ h k => h.trans k) [Is (.slice (some ⟨g, 0, none⟩) l1.length c2), Is (.int .i64 k), Is (.slice (some ⟨g, 0, none⟩) l1.length c2), Is (.int .i64 k), Is (.pointer (some ⟨g, k, none⟩)), Is (.int .u8 (q : Int)), Is (.pointer (some ⟨w.heap.size, 1, none⟩)), Is (.int .u8 y), Is (.int .u8 ((q + y) % 256 : Nat)), Is (.pointer (some ⟨g, k, none⟩))]
    ⟨keep_is _, keep_is _, keep_is _, keep_is _, keep_is _, keep_is _, keep_is _, keep_is _, keep_is _, keep_is _, trivial⟩ (by kernel_rfl) ?_ ⟨?_, ?_, ?_, ?_, ?_, ?_, ?_, ?_, ?_, ?_, trivial⟩
  · intro W hE
    simp only [behind, Act.put, Is, List.map_cons, List.map_nil, forall_eq, List.setIfInBounds_toArray, List.set_cons_succ, List.set_cons_zero, List.dropLast_cons_cons, List.dropLast_singleton]
    have hfW : W.frozen? ⟨g, k, none⟩ = false := (Below.frozen (((Ext.refl w2).drew).trans hE) (p := ⟨g, k, none⟩) hg2).trans (hfr k)
    have hcW := (((Ext.refl w2).drew).trans hE).keep hck
    go_wp2
    rw [show (((q : Int) + (y : Int)) % 256) = (((q + y) % 256 : Nat) : Int) by simp]
    obtain ⟨z, hz⟩ : ∃ z, (q + y) % 256 = z := ⟨_, rfl⟩
    rw [hz]
    have hzl : z < 256 := by omega
    have hiff : hsum s l1 = hsum s (l1.set k z) ↔ y = 0 := by
      rw [hsum_set Hs.out Hla.out hkl hzl, Hq.out]
      omega
    clear hz hcW hfW hfr hck
    have hW1 : Ext w1 (W.setCell ⟨g, k, none⟩ (.int .u8 (z : Int))) := ((hx2.trans (Ext.refl w2).drew).trans hE).setCell hg1 _
    have hs1 := ho1.sl.mono hW1
    have hs2 := ((ho2.mono (((Ext.refl w2).drew).trans hE)).set k z).sl
    have hb31 := hW1.keep hb1
    have hW0 : Ext w (W.setCell ⟨g, k, none⟩ (.int .u8 (z : Int))) := ((Ext.refl w).alloc _).trans (hx1.trans hW1)
    have Hset : Hid (∀ x ∈ l1.set k z, x < 256) := by
      intro x hx'
      rcases List.mem_or_eq_of_mem_set hx' with h | h
      · exact Hla.out x h
      · omega
    clear hW1 hb1 hb20 hb21 hE hx2 ho1 ho2 hr
    generalize W.setCell ⟨g, k, none⟩ (.int .u8 (z : Int)) = W3 at *
    clear hg2 hsz hg1 hx1
    have e1 : (((hsum s l1 : Nat) : Int) == ((hsum s (l1.set k z) : Nat) : Int)) = decide (y = 0) := by
      rw [Bool.eq_iff_iff]
      simp only [beq_iff_eq, decide_eq_true_eq, Int.natCast_inj]
      exact hiff
    have e2 : ((y : Int) == 0) = decide (y = 0) := by
      rw [Bool.eq_iff_iff]
      simp only [beq_iff_eq, decide_eq_true_eq]
      omega
    clear hiff
    have hnn := hn1.out
    refine wp_region_rel (by kernel_rfl) Ext Ext.refl (fun _ _ _ h k => h.trans k) [Is (.int .u64 s), Is (.slice a1 n1 c1), IsSls ([l1]), Is (.int .u64 (hsum s l1 : Nat)), Is (.int .u64 s), Is (.slice (some ⟨g, 0, none⟩) l1.length c2), IsSls ([l1.set k z]), Is (.int .u64 (hsum s (l1.set k z) : Nat)), Is (.bool (decide (y = 0))), Is (.pointer (some ⟨w.heap.size, 1, none⟩)), Is (.int .u8 y), Is (.bool (decide (y = 0))), Is (.bool true), Is (.bool true), Is (.bool true), Is (.bool true), Is (.bool true)]
      ⟨keep_is _, keep_is _, keep_sls _, keep_is _, keep_is _, keep_is _, keep_sls _, keep_is _, keep_is _, keep_is _, keep_is _, keep_is _, keep_is _, keep_is _, keep_is _, keep_is _, keep_is _, trivial⟩ (by kernel_rfl) ?_ ⟨?_, ?_, ?_, ?_, ?_, ?_, ?_, ?_, ?_, ?_, ?_, ?_, ?_, ?_, ?_, ?_, ?_, trivial⟩
    · intro W hE
      simp only [behind, Act.put, Is, List.map_cons, List.map_nil, forall_eq, List.setIfInBounds_toArray, List.set_cons_succ, List.set_cons_zero, List.dropLast_cons_cons, List.dropLast_singleton]
      intro v36 _ v40 _
      go_wp2
      go_ret
      exact ⟨rfl, hW0.trans ((Ext.refl _).drew.trans hE)⟩
    all_goals intro ρ W hE hout ha; try simp [ahead, factAt, valAt, Region.binds, Is, IsSl, IsNew, IsSls] at ha
    all_goals have hb31W := (((Ext.refl _).drew).trans hE).keep hb31
    all_goals try (refine Does.of_run rfl (w' := W) ?_ ⟨Ext.refl _, rfl⟩; simp [execOp, Act.eval, hout, dstsOf, List.dropLast, ha, go_sem, hb31W, e1, e2]; done)
    · exact does_sls1 rfl rfl _ rfl (by simpa [Act.eval] using ha) (hs1.mono ((Ext.refl W3).drew.trans hE))
    · refine Does.of_call rfl (by simp [execOp, Act.eval, hout, dstsOf, ha, go_sem]) ((hashSum_at W s _ [l1] l1 (by simp) Hs.out ha.2 (by intro l hl; simp only [List.mem_singleton] at hl; subst hl; exact Hla.out)).mono ?_)
      rintro e w' ⟨rfl, rfl⟩
      exact ⟨_, rfl, Ext.refl _, rfl⟩
    · exact does_sls1 rfl rfl _ rfl (by simpa [Act.eval] using ha) (hs2.mono ((Ext.refl W3).drew.trans hE))
    · refine Does.of_call rfl (by simp [execOp, Act.eval, hout, dstsOf, ha, go_sem]) ((hashSum_at W s _ [l1.set k z] (l1.set k z) (by simp) Hs.out ha.2.1 (by intro l hl; simp only [List.mem_singleton] at hl; subst hl; exact Hset.out)).mono ?_)
      rintro e w' ⟨rfl, rfl⟩
      exact ⟨_, rfl, Ext.refl _, rfl⟩
    · refine Does.of_call' (wanted_yes rfl rfl (by simpa using ha)) (by simp [execOp, Act.eval, hout, dstsOf, ha, go_sem]) ((hashLives_any W).mono ?_)
      rintro e w' ⟨rfl, hx'⟩
      exact ⟨_, rfl, hx', rfl⟩
  all_goals intro ρ W hE hout ha; try simp [ahead, factAt, valAt, Region.binds, Is, IsSl, IsNew, IsSls] at ha
  all_goals have hckW := (((Ext.refl _).drew).trans hE).keep hck
  all_goals have hb21W := (((Ext.refl _).drew).trans hE).keep hb21
  all_goals try (refine Does.of_run rfl (w' := W) ?_ ⟨Ext.refl _, rfl⟩; simp [execOp, Act.eval, hout, dstsOf, List.dropLast, ha, go_sem, hckW, hb21W, hkl, IntKind.wrap_u8]; done)

theorem hashByte_walk (w : World) (s : Nat) (va : Value) (la : List Nat) (vb : Value) (hs : s < 18446744073709551616) (ha : SlW w va la) (hla : ∀ x ∈ la, x < 256) (hb : ∃ x y : Nat, vb = .agg #[.int .u8 x, .int .u8 y] ∧ x < 256 ∧ y < 256) :
    Calls Try.prog 4 #[.int .u64 s, va, vb] w fun e w' => e = .returned (.bool true) ∧ Ext w w' := by
  obtain ⟨x, y, rfl, hx, hy⟩ := hb
  by_cases h : la = []
  · subst h; exact hashByte_nil w s va x y hs ha
  · exact hashByte_pos w s va la x y hs ha hla (List.length_pos_iff.2 h) hx hy

end Go.Proofs.Ytopcecgkbmdmeaa
