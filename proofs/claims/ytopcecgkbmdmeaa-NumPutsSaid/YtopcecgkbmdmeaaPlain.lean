/- Plain facts on numbers and bytes: no program in sight. -/
import Derived.WalkKit
namespace Go.Proofs.Ytopcecgkbmdmeaa

/-- The lowest 'size' bytes of n, the highest first. -/
def be (n : Nat) : Nat → List Nat
  | 0 => []
  | k + 1 => be (n / 256) k ++ [n % 256]

theorem be_length (n k : Nat) : (be n k).length = k := by
  induction k generalizing n with
  | zero => rfl
  | succ k ih => simp [be, ih]

theorem be_cons (n k : Nat) : be n (k + 1) = (n / 256 ^ k % 256) :: be n k := by
  induction k generalizing n with
  | zero => simp [be]
  | succ k ih =>
    rw [be, ih (n / 256)]
    rw [be]
    rw [Nat.div_div_eq_div_mul, ← Nat.pow_succ']
    rfl

theorem be_lt (n k : Nat) : ∀ x ∈ be n k, x < 256 := by
  induction k generalizing n with
  | zero => intro x hx; cases hx
  | succ k ih =>
    intro x hx
    rw [be, List.mem_append] at hx
    rcases hx with hx | hx
    · exact ih _ x hx
    · simp at hx; omega

/-- What the loop from above has written when k bytes are still to come. -/
theorem be_step (n k s : Nat) (hk : k + 1 ≤ s) : be (n / 256 ^ (k + 1)) (s - (k + 1)) ++ [n / 256 ^ k % 256] = be (n / 256 ^ k) (s - k) := by
  have e : s - k = (s - (k + 1)) + 1 := by omega
  rw [e, be, Nat.div_div_eq_div_mul, ← Nat.pow_succ]

/-- The number that bytes say, the highest first. -/
def val (l : List Nat) : Nat := l.foldl (fun n c => n * 256 + c) 0

theorem val_snoc (l : List Nat) (c : Nat) : val (l ++ [c]) = val l * 256 + c := by simp [val]

theorem snoc_ind {α : Type} {p : List α → Prop} (h0 : p []) (h1 : ∀ l a, p l → p (l ++ [a])) : ∀ l, p l := by
  intro l
  rw [← List.reverse_reverse l]
  induction l.reverse with
  | nil => exact h0
  | cons a l ih => rw [List.reverse_cons]; exact h1 _ _ ih

theorem val_lt (l : List Nat) (h : ∀ x ∈ l, x < 256) : val l < 256 ^ l.length := by
  induction l using snoc_ind with
  | h0 => simp [val]
  | h1 l c ih =>
    rw [val_snoc, List.length_append, List.length_singleton, Nat.pow_succ]
    have h1 := ih fun x hx => h x (by simp [hx])
    have h2 := h c (by simp)
    omega

theorem val_be (n k : Nat) : val (be n k) = n % 256 ^ k := by
  induction k generalizing n with
  | zero => simp [be, val, Nat.mod_one]
  | succ k ih =>
    rw [be, val_snoc, ih, Nat.pow_succ', Nat.mod_mul]
    omega

theorem take_succ {l : List Nat} {k : Nat} (h : k < l.length) : l.take (k + 1) = l.take k ++ [l.getD k 0] := by
  rw [List.take_succ_eq_append_getElem h]
  simp [h]

end Go.Proofs.Ytopcecgkbmdmeaa
