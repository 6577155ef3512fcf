/- Plain facts on numbers and bytes: no program in sight. -/
import Derived.WalkKit
namespace Go.Proofs.Ytopcecgkbmdmeaa
set_option linter.unusedSimpArgs false
set_option linter.unusedVariables false

/-- The lowest 'size' bytes of n, the highest first. -/
def be (n : Nat) : Nat → List Nat
  | 0 => []
  | k + 1 => be (n / 256) k ++ [n % 256]

theorem be_length (n k : Nat) : (be n k).length = k := by
  induction k generalizing n with
  | zero => rfl
  | succ k ih => simp [be, ih]

theorem be_cons (n k : Nat) : be n (k + 1) = (n / 256 ^ k % 256) :: be n k := by
  induction k generalizing n with
  | zero => simp [be]
  | succ k ih =>
    rw [be, ih (n / 256)]
    rw [be]
    rw [Nat.div_div_eq_div_mul, ← Nat.pow_succ']
    rfl

theorem be_lt (n k : Nat) : ∀ x ∈ be n k, x < 256 := by
  induction k generalizing n with
  | zero => intro x hx; cases hx
  | succ k ih =>
    intro x hx
    rw [be, List.mem_append] at hx
    rcases hx with hx | hx
    · exact ih _ x hx
    · simp at hx; omega

/-- What the loop from above has written when k bytes are still to come. -/
theorem be_step (n k s : Nat) (hk : k + 1 ≤ s) : be (n / 256 ^ (k + 1)) (s - (k + 1)) ++ [n / 256 ^ k % 256] = be (n / 256 ^ k) (s - k) := by
  have e : s - k = (s - (k + 1)) + 1 := by omega
  rw [e, be, Nat.div_div_eq_div_mul, ← Nat.pow_succ]

/-- The number that bytes say, the highest first. -/
def val (l : List Nat) : Nat := l.foldl (fun n c => n * 256 + c) 0

theorem val_snoc (l : List Nat) (c : Nat) : val (l ++ [c]) = val l * 256 + c := by simp [val]

theorem snoc_ind {α : Type} {p : List α → Prop} (h0 : p []) (h1 : ∀ l a, p l → p (l ++ [a])) : ∀ l, p l := by
  intro l
  rw [← List.reverse_reverse l]
  induction l.reverse with
  | nil => exact h0
  | cons a l ih => rw [List.reverse_cons]; exact h1 _ _ ih

theorem val_lt (l : List Nat) (h : ∀ x ∈ l, x < 256) : val l < 256 ^ l.length := by
  induction l using snoc_ind with
  | h0 => simp [val]
  | h1 l c ih =>
    rw [val_snoc, List.length_append, List.length_singleton, Nat.pow_succ]
    have h1 := ih fun x hx => h x (by simp [hx])
    have h2 := h c (by simp)
    omega

theorem val_be (n k : Nat) : val (be n k) = n % 256 ^ k := by
  induction k generalizing n with
  | zero => simp [be, val, Nat.mod_one]
  | succ k ih =>
    rw [be, val_snoc, ih, Nat.pow_succ', Nat.mod_mul]
    omega

theorem take_succ {l : List Nat} {k : Nat} (h : k < l.length) : l.take (k + 1) = l.take k ++ [l.getD k 0] := by
  rw [List.take_succ_eq_append_getElem h]
  simp [h]

/-- A part of bytes. -/
def sub (l : List Nat) (k n : Nat) : List Nat := (l.drop k).take n
theorem sub_length {l : List Nat} {k n : Nat} (h : k + n ≤ l.length) : (sub l k n).length = n := by simp [sub]; omega
theorem sub_get {l : List Nat} {k n i : Nat} (h : k + n ≤ l.length) (hi : i < n) : (sub l k n).getD i 0 = l.getD (k + i) 0 := by
  simp [sub, List.getElem?_take, hi, List.getElem?_drop]
theorem sub_lt {l : List Nat} (h : ∀ x ∈ l, x < 256) (k n : Nat) : ∀ x ∈ sub l k n, x < 256 := fun x hx => h x (List.mem_of_mem_drop (List.mem_of_mem_take hx))
theorem val_take_succ {l : List Nat} {k : Nat} (h : k < l.length) : val (l.take (k + 1)) = val (l.take k) * 256 + l.getD k 0 := by
  rw [take_succ h, val_snoc]
theorem val_bound {l : List Nat} (h : ∀ x ∈ l, x < 256) {k : Nat} (hk : k ≤ 8) : val (l.take k) < 256 ^ k := by
  refine Nat.lt_of_lt_of_le (val_lt _ fun x hx => h x (List.mem_of_mem_take hx)) ?_
  exact Nat.pow_le_pow_right (by decide) (by simp; omega)
theorem or_walk {n c : Nat} (hn : n < 72057594037927936) (hc : c < 256) : bits .or .u64 ((n : Int) * 256) (c : Int) = ((n * 256 + c : Nat) : Int) := by
  rw [show ((n : Int) * 256) = ((n * 256 : Nat) : Int) by simp, u64_or_nat _ _ (by omega) (by omega), nat_join 8 (n * 256) c (by omega) hc]
theorem val_be_lt {n k : Nat} (h : n < 256 ^ k) : val (be n k) = n := by rw [val_be, Nat.mod_eq_of_lt h]

/-! ### The numbers of bytes (layer 18) -/

def two64 : Nat := 18446744073709551616
def fnv1 (n c : Nat) : Nat := (n ^^^ c) * 1099511628211 % 18446744073709551616
def hfin1 (n : Nat) : Nat := (n ^^^ n / 8589934592) * 18397679294719823053 % 18446744073709551616
def hfin (n : Nat) : Nat := hfin1 n ^^^ hfin1 n / 8589934592
def hbegin (s : Nat) : Nat := 14695981039346656037 ^^^ s
def fnvs (n : Nat) (l : List Nat) : Nat := l.foldl fnv1 n
def fnvl (n : Nat) (ls : List (List Nat)) : Nat := ls.foldl fnvs n
def hsum (s : Nat) (l : List Nat) : Nat := hfin (fnvs (hbegin s) l)

theorem fold_snoc {α β : Type} (f : α → β → α) (n : α) (l : List β) (c : β) : (l ++ [c]).foldl f n = f (l.foldl f n) c := by simp
theorem fnvs_nil (n : Nat) : fnvs n [] = n := rfl
theorem fnvl_nil (n : Nat) : fnvl n [] = n := rfl
theorem fnvs_snoc (n : Nat) (l : List Nat) (c : Nat) : fnvs n (l ++ [c]) = fnv1 (fnvs n l) c := fold_snoc fnv1 n l c
theorem fnvl_snoc (n : Nat) (ls : List (List Nat)) (l : List Nat) : fnvl n (ls ++ [l]) = fnvs (fnvl n ls) l := fold_snoc fnvs n ls l
theorem fnvs_append (n : Nat) (l k : List Nat) : fnvs n (l ++ k) = fnvs (fnvs n l) k := List.foldl_append
theorem xor_lt64 {a b : Nat} (ha : a < 18446744073709551616) (hb : b < 18446744073709551616) : a ^^^ b < 18446744073709551616 :=
  Nat.xor_lt_two_pow (n := 64) ha hb
theorem fnv1_lt (n c : Nat) : fnv1 n c < 18446744073709551616 := Nat.mod_lt _ (by decide)
theorem hfin1_lt (n : Nat) : hfin1 n < 18446744073709551616 := Nat.mod_lt _ (by decide)
theorem hbegin_lt {s : Nat} (h : s < 18446744073709551616) : hbegin s < 18446744073709551616 := xor_lt64 (by decide) h
theorem fnvs_lt {n : Nat} (h : n < 18446744073709551616) (l : List Nat) : fnvs n l < 18446744073709551616 := by
  induction l using snoc_ind with
  | h0 => rw [fnvs_nil]; exact h
  | h1 l c _ => rw [fnvs_snoc]; exact fnv1_lt _ _
theorem fnvl_lt {n : Nat} (h : n < 18446744073709551616) (ls : List (List Nat)) : fnvl n ls < 18446744073709551616 := by
  induction ls using snoc_ind with
  | h0 => rw [fnvl_nil]; exact h
  | h1 l c ih => rw [fnvl_snoc]; exact fnvs_lt ih c
theorem fnvl_flat (n : Nat) (ls : List (List Nat)) : fnvl n ls = fnvs n ls.flatten := by
  induction ls using snoc_ind with
  | h0 => rfl
  | h1 l c ih => rw [fnvl_snoc, ih, List.flatten_append, fnvs_append, List.flatten_cons, List.flatten_nil, List.append_nil]

/-- In the walk's own spelling. -/
theorem xor_walk {a b : Nat} (ha : a < 18446744073709551616) (hb : b < 18446744073709551616) : bits .xor .u64 (a : Int) (b : Int) = ((a ^^^ b : Nat) : Int) := u64_xor_nat a b ha hb
theorem wrap_nat (a : Nat) : IntKind.u64.wrap (a : Int) = ((a % 18446744073709551616 : Nat) : Int) := by
  rw [IntKind.wrap_u64]; omega
theorem fnv_walk (n c : Nat) : IntKind.u64.wrap (((n ^^^ c : Nat) : Int) * 1099511628211) = (fnv1 n c : Int) := by
  rw [show (((n ^^^ c : Nat) : Int) * 1099511628211) = (((n ^^^ c) * 1099511628211 : Nat) : Int) by simp, wrap_nat]
  rfl
theorem hfin_walk (n : Nat) : IntKind.u64.wrap (((n ^^^ n / 8589934592 : Nat) : Int) * 18397679294719823053) = (hfin1 n : Int) := by
  rw [show (((n ^^^ n / 8589934592 : Nat) : Int) * 18397679294719823053) = (((n ^^^ n / 8589934592) * 18397679294719823053 : Nat) : Int) by simp, wrap_nat]
  rfl

theorem xor_half (A B : Nat) : A ^^^ B = 2 * ((A / 2) ^^^ (B / 2)) + (A + B) % 2 := by
  have h1 : (A ^^^ B) / 2 = A / 2 ^^^ B / 2 := Nat.xor_div_two
  have h2 : (A ^^^ B) % 2 = (A + B) % 2 := by
    have h3 := @Nat.xor_mod_two_eq_one A B
    have h4 := Nat.mod_lt (A ^^^ B) (show 0 < 2 by decide)
    by_cases h : (A ^^^ B) % 2 = 1
    · have := h3.1 h; omega
    · have h5 : (A % 2 = 1 ↔ B % 2 = 1) := by
        by_cases h6 : (A % 2 = 1 ↔ B % 2 = 1)
        · exact h6
        · exact absurd (h3.2 h6) h
      omega
  omega

theorem mul_cancel {a b p q : Nat} (hpq : p * q % 18446744073709551616 = 1) (ha : a < 18446744073709551616) (hb : b < 18446744073709551616)
    (h : a * p % 18446744073709551616 = b * p % 18446744073709551616) : a = b := by
  have key : ∀ x : Nat, x < 18446744073709551616 → (x * p % 18446744073709551616) * q % 18446744073709551616 = x := by
    intro x hx
    rw [Nat.mul_mod, Nat.mod_mod, ← Nat.mul_mod, Nat.mul_assoc, Nat.mul_mod, hpq, Nat.mul_one, Nat.mod_mod, Nat.mod_eq_of_lt hx]
  rw [← key a ha, ← key b hb, h]

theorem xor_cancel_right {a b c : Nat} (h : a ^^^ c = b ^^^ c) : a = b := by
  have : (a ^^^ c) ^^^ c = (b ^^^ c) ^^^ c := by rw [h]
  rwa [Nat.xor_assoc, Nat.xor_assoc, Nat.xor_self, Nat.xor_zero, Nat.xor_zero] at this
theorem xor_cancel_left {a b c : Nat} (h : c ^^^ a = c ^^^ b) : a = b := by
  rw [Nat.xor_comm c a, Nat.xor_comm c b] at h
  exact xor_cancel_right h

theorem fnv1_inj {n m c : Nat} (hn : n < 18446744073709551616) (hm : m < 18446744073709551616) (hc : c < 256) (h : fnv1 n c = fnv1 m c) : n = m := by
  have hc' : c < 18446744073709551616 := by omega
  exact xor_cancel_right (mul_cancel (p := 1099511628211) (q := 14886173955864302971) (by decide +kernel) (xor_lt64 hn hc') (xor_lt64 hm hc') h)
theorem fnv1_inj2 {n c d : Nat} (hn : n < 18446744073709551616) (hc : c < 256) (hd : d < 256) (h : fnv1 n c = fnv1 n d) : c = d :=
  xor_cancel_left (mul_cancel (p := 1099511628211) (q := 14886173955864302971) (by decide +kernel) (xor_lt64 hn (by omega)) (xor_lt64 hn (by omega)) h)
theorem fnvs_inj {n m : Nat} (hn : n < 18446744073709551616) (hm : m < 18446744073709551616) (l : List Nat) (hl : ∀ x ∈ l, x < 256) (h : fnvs n l = fnvs m l) : n = m := by
  induction l using snoc_ind with
  | h0 => exact h
  | h1 l c ih =>
    rw [fnvs_snoc, fnvs_snoc] at h
    exact ih (fun x hx => hl x (by simp [hx])) (fnv1_inj (fnvs_lt hn l) (fnvs_lt hm l) (hl c (by simp)) h)

theorem shift_inj {x y : Nat} (hx : x < 18446744073709551616) (hy : y < 18446744073709551616) (h : x ^^^ x / 8589934592 = y ^^^ y / 8589934592) : x = y := by
  have top : ∀ z : Nat, z < 18446744073709551616 → (z ^^^ z / 8589934592) / 8589934592 = z / 8589934592 := by
    intro z hz
    have := @Nat.xor_div_two_pow z (z / 8589934592) 33
    rw [show (2 ^ 33 : Nat) = 8589934592 from by decide +kernel, Nat.div_div_eq_div_mul, Nat.div_eq_of_lt (a := z) (b := 8589934592 * 8589934592) (by omega), Nat.xor_zero] at this
    exact this
  have h1 := top x hx
  rw [h, top y hy] at h1
  rw [h1] at h
  exact xor_cancel_right h
theorem hfin_inj {x y : Nat} (hx : x < 18446744073709551616) (hy : y < 18446744073709551616) (h : hfin x = hfin y) : x = y := by
  have h1 := shift_inj (hfin1_lt x) (hfin1_lt y) h
  have hd : ∀ z : Nat, z < 18446744073709551616 → z / 8589934592 < 18446744073709551616 := fun z hz => Nat.lt_of_le_of_lt (Nat.div_le_self _ _) hz
  exact shift_inj hx hy (mul_cancel (p := 18397679294719823053) (q := 5725274745694666757) (by decide +kernel) (xor_lt64 hx (hd x hx)) (xor_lt64 hy (hd y hy)) h1)

theorem split_at {l : List Nat} {k : Nat} (h : k < l.length) : l = l.take k ++ [l.getD k 0] ++ l.drop (k + 1) := by
  have h1 := take_succ h
  rw [← h1, List.take_append_drop]
theorem set_at {l : List Nat} {k : Nat} (y : Nat) (h : k < l.length) : l.set k y = l.take k ++ [y] ++ l.drop (k + 1) := by
  rw [List.set_eq_take_append_cons_drop, if_pos h]
  simp

/-- One byte that is another one gives another number. -/
theorem hsum_set {s k y : Nat} {l : List Nat} (hs : s < 18446744073709551616) (hl : ∀ x ∈ l, x < 256) (hk : k < l.length) (hy : y < 256) : hsum s l = hsum s (l.set k y) ↔ l.getD k 0 = y := by
  constructor
  · intro h
    have h1 := hfin_inj (fnvs_lt (hbegin_lt hs) l) (fnvs_lt (hbegin_lt hs) (l.set k y)) h
    rw [set_at y hk] at h1
    rw [split_at hk] at h1
    have e1 : ∀ z, fnvs (hbegin s) (l.take k ++ [z] ++ l.drop (k + 1)) = fnvs (fnv1 (fnvs (hbegin s) (l.take k)) z) (l.drop (k + 1)) := by
      intro z; rw [fnvs_append, fnvs_snoc]
    rw [← split_at hk] at h1
    have e2 := e1 (l.getD k 0)
    rw [← split_at hk] at e2
    rw [e2, e1] at h1
    have h2 := fnvs_inj (fnv1_lt _ _) (fnv1_lt _ _) (l.drop (k + 1)) (fun x hx => hl x (List.mem_of_mem_drop hx)) h1
    exact fnv1_inj2 (fnvs_lt (hbegin_lt hs) _) (hl _ (by simp [hk])) hy h2
  · intro h
    rw [← h]
    congr 1
    rw [set_at _ hk, ← split_at hk]

end Go.Proofs.Ytopcecgkbmdmeaa
