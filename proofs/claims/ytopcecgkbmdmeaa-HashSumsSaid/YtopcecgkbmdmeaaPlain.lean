/- Plain facts on numbers and bytes: no program in sight. -/
import Derived.WalkKit
namespace Go.Proofs.Ytopcecgkbmdmeaa

/-- The lowest 'size' bytes of n, the highest first. -/
def be (n : Nat) : Nat → List Nat
  | 0 => []
  | k + 1 => be (n / 256) k ++ [n % 256]

theorem be_length (n k : Nat) : (be n k).length = k := by
  induction k generalizing n with
  | zero => rfl
  | succ k ih => simp [be, ih]

theorem be_cons (n k : Nat) : be n (k + 1) = (n / 256 ^ k % 256) :: be n k := by
  induction k generalizing n with
  | zero => simp [be]
  | succ k ih =>
    rw [be, ih (n / 256)]
    rw [be]
    rw [Nat.div_div_eq_div_mul, ← Nat.pow_succ']
    rfl

theorem be_lt (n k : Nat) : ∀ x ∈ be n k, x < 256 := by
  induction k generalizing n with
  | zero => intro x hx; cases hx
  | succ k ih =>
    intro x hx
    rw [be, List.mem_append] at hx
    rcases hx with hx | hx
    · exact ih _ x hx
    · simp at hx; omega

/-- What the loop from above has written when k bytes are still to come. -/
theorem be_step (n k s : Nat) (hk : k + 1 ≤ s) : be (n / 256 ^ (k + 1)) (s - (k + 1)) ++ [n / 256 ^ k % 256] = be (n / 256 ^ k) (s - k) := by
  have e : s - k = (s - (k + 1)) + 1 := by omega
  rw [e, be, Nat.div_div_eq_div_mul, ← Nat.pow_succ]

/-- The number that bytes say, the highest first. -/
def val (l : List Nat) : Nat := l.foldl (fun n c => n * 256 + c) 0

theorem val_snoc (l : List Nat) (c : Nat) : val (l ++ [c]) = val l * 256 + c := by simp [val]

theorem snoc_ind {α : Type} {p : List α → Prop} (h0 : p []) (h1 : ∀ l a, p l → p (l ++ [a])) : ∀ l, p l := by
  intro l
  rw [← List.reverse_reverse l]
  induction l.reverse with
  | nil => exact h0
  | cons a l ih => rw [List.reverse_cons]; exact h1 _ _ ih

theorem val_lt (l : List Nat) (h : ∀ x ∈ l, x < 256) : val l < 256 ^ l.length := by
  induction l using snoc_ind with
  | h0 => simp [val]
  | h1 l c ih =>
    rw [val_snoc, List.length_append, List.length_singleton, Nat.pow_succ]
    have h1 := ih fun x hx => h x (by simp [hx])
    have h2 := h c (by simp)
    omega

theorem val_be (n k : Nat) : val (be n k) = n % 256 ^ k := by
  induction k generalizing n with
  | zero => simp [be, val, Nat.mod_one]
  | succ k ih =>
    rw [be, val_snoc, ih, Nat.pow_succ', Nat.mod_mul]
    omega

theorem take_succ {l : List Nat} {k : Nat} (h : k < l.length) : l.take (k + 1) = l.take k ++ [l.getD k 0] := by
  rw [List.take_succ_eq_append_getElem h]
  simp [h]

/-! ### The numbers of bytes (layer 18) -/

def two64 : Nat := 18446744073709551616
def fnv1 (n c : Nat) : Nat := (n ^^^ c) * 1099511628211 % 18446744073709551616
def hfin1 (n : Nat) : Nat := (n ^^^ n / 8589934592) * 18397679294719823053 % 18446744073709551616
def hfin (n : Nat) : Nat := hfin1 n ^^^ hfin1 n / 8589934592
def hbegin (s : Nat) : Nat := 14695981039346656037 ^^^ s
def fnvs (n : Nat) (l : List Nat) : Nat := l.foldl fnv1 n
def fnvl (n : Nat) (ls : List (List Nat)) : Nat := ls.foldl fnvs n
def hsum (s : Nat) (l : List Nat) : Nat := hfin (fnvs (hbegin s) l)

theorem fold_snoc {α β : Type} (f : α → β → α) (n : α) (l : List β) (c : β) : (l ++ [c]).foldl f n = f (l.foldl f n) c := by simp
theorem fnvs_nil (n : Nat) : fnvs n [] = n := rfl
theorem fnvl_nil (n : Nat) : fnvl n [] = n := rfl
theorem fnvs_snoc (n : Nat) (l : List Nat) (c : Nat) : fnvs n (l ++ [c]) = fnv1 (fnvs n l) c := fold_snoc fnv1 n l c
theorem fnvl_snoc (n : Nat) (ls : List (List Nat)) (l : List Nat) : fnvl n (ls ++ [l]) = fnvs (fnvl n ls) l := fold_snoc fnvs n ls l
theorem fnvs_append (n : Nat) (l k : List Nat) : fnvs n (l ++ k) = fnvs (fnvs n l) k := List.foldl_append
theorem xor_lt64 {a b : Nat} (ha : a < 18446744073709551616) (hb : b < 18446744073709551616) : a ^^^ b < 18446744073709551616 :=
  Nat.xor_lt_two_pow (n := 64) ha hb
theorem fnv1_lt (n c : Nat) : fnv1 n c < 18446744073709551616 := Nat.mod_lt _ (by decide)
theorem hfin1_lt (n : Nat) : hfin1 n < 18446744073709551616 := Nat.mod_lt _ (by decide)
theorem hbegin_lt {s : Nat} (h : s < 18446744073709551616) : hbegin s < 18446744073709551616 := xor_lt64 (by decide) h
theorem fnvs_lt {n : Nat} (h : n < 18446744073709551616) (l : List Nat) : fnvs n l < 18446744073709551616 := by
  induction l using snoc_ind with
  | h0 => rw [fnvs_nil]; exact h
  | h1 l c _ => rw [fnvs_snoc]; exact fnv1_lt _ _
theorem fnvl_lt {n : Nat} (h : n < 18446744073709551616) (ls : List (List Nat)) : fnvl n ls < 18446744073709551616 := by
  induction ls using snoc_ind with
  | h0 => rw [fnvl_nil]; exact h
  | h1 l c ih => rw [fnvl_snoc]; exact fnvs_lt ih c
theorem fnvl_flat (n : Nat) (ls : List (List Nat)) : fnvl n ls = fnvs n ls.flatten := by
  induction ls using snoc_ind with
  | h0 => rfl
  | h1 l c ih => rw [fnvl_snoc, ih, List.flatten_append, fnvs_append, List.flatten_cons, List.flatten_nil, List.append_nil]

/-- In the walk's own spelling. -/
theorem xor_walk {a b : Nat} (ha : a < 18446744073709551616) (hb : b < 18446744073709551616) : bits .xor .u64 (a : Int) (b : Int) = ((a ^^^ b : Nat) : Int) := u64_xor_nat a b ha hb
theorem wrap_nat (a : Nat) : IntKind.u64.wrap (a : Int) = ((a % 18446744073709551616 : Nat) : Int) := by
  rw [IntKind.wrap_u64]; omega
theorem fnv_walk (n c : Nat) : IntKind.u64.wrap (((n ^^^ c : Nat) : Int) * 1099511628211) = (fnv1 n c : Int) := by
  rw [show (((n ^^^ c : Nat) : Int) * 1099511628211) = (((n ^^^ c) * 1099511628211 : Nat) : Int) by simp, wrap_nat]
  rfl
theorem hfin_walk (n : Nat) : IntKind.u64.wrap (((n ^^^ n / 8589934592 : Nat) : Int) * 18397679294719823053) = (hfin1 n : Int) := by
  rw [show (((n ^^^ n / 8589934592 : Nat) : Int) * 18397679294719823053) = (((n ^^^ n / 8589934592) * 18397679294719823053 : Nat) : Int) by simp, wrap_nat]
  rfl

theorem xor_half (A B : Nat) : A ^^^ B = 2 * ((A / 2) ^^^ (B / 2)) + (A + B) % 2 := by
  have h1 : (A ^^^ B) / 2 = A / 2 ^^^ B / 2 := Nat.xor_div_two
  have h2 : (A ^^^ B) % 2 = (A + B) % 2 := by
    have h3 := @Nat.xor_mod_two_eq_one A B
    have h4 := Nat.mod_lt (A ^^^ B) (show 0 < 2 by decide)
    by_cases h : (A ^^^ B) % 2 = 1
    · have := h3.1 h; omega
    · have h5 : (A % 2 = 1 ↔ B % 2 = 1) := by
        by_cases h6 : (A % 2 = 1 ↔ B % 2 = 1)
        · exact h6
        · exact absurd (h3.2 h6) h
      omega
  omega

end Go.Proofs.Ytopcecgkbmdmeaa
