/- Plain facts: masks of bytes, sums of words. -/
import Derived.Test.YtpjfkomicehinaaSM
namespace Go.Proofs.Ytpjfkomicehinaa
set_option linter.unusedVariables false
set_option linter.unusedSimpArgs false

/-! ### Masks -/

/-- A byte's first k bits. -/
def mskb (k : Nat) (c : UInt8) : UInt8 := UInt8.ofNat (c.toNat / 2 ^ (8 - k) * 2 ^ (8 - k))
/-- How many bits of the byte at a place count. -/
def nbit (n i : Nat) : Nat := min (n - 8 * i) 8
def maskB (l : List UInt8) (n : Nat) : List UInt8 := l.mapIdx fun i c => mskb (nbit n i) c
@[simp] theorem maskB_length (l : List UInt8) (n : Nat) : (maskB l n).length = l.length := by simp [maskB]
theorem mskb_toNat (k : Nat) (c : UInt8) : (mskb k c).toNat = c.toNat / 2 ^ (8 - k) * 2 ^ (8 - k) := by
  unfold mskb
  rw [UInt8.toNat_ofNat']
  have h1 := c.toNat_lt
  have h2 := Nat.div_mul_le_self c.toNat (2 ^ (8 - k))
  exact Nat.mod_eq_of_lt (by omega)
theorem mskb_all (c : UInt8) : mskb 8 c = c := by simp [mskb]
theorem mskb_zero (c : UInt8) : mskb 0 c = 0 := by
  apply UInt8.toNat_inj.1
  rw [mskb_toNat]
  have h1 := c.toNat_lt
  rw [Nat.div_eq_of_lt (by simpa using h1)]
  simp
theorem maskB_get {l : List UInt8} {n i : Nat} (h : i < l.length) : (maskB l n).getD i 0 = mskb (nbit n i) (l.getD i 0) := by
  simp [maskB, List.getD_eq_getElem?_getD, List.getElem?_mapIdx, List.getElem?_eq_getElem h]
theorem maskB_zero (l : List UInt8) : maskB l 0 = List.replicate l.length 0 := by
  apply List.ext_getElem
  · simp
  · intro i h1 h2
    simp [maskB, nbit, mskb_zero]

/-- Bytes of which the first i are masked. -/
def maskTo (l : List UInt8) (n i : Nat) : List UInt8 := maskB (l.take i) n ++ l.drop i
theorem maskTo_zero (l : List UInt8) (n : Nat) : maskTo l n 0 = l := by simp [maskTo, maskB]
theorem maskTo_all {l : List UInt8} {n i : Nat} (h : l.length ≤ i) : maskTo l n i = maskB l n := by simp [maskTo, List.take_of_length_le h, List.drop_of_length_le h]
theorem maskTo_length (l : List UInt8) (n i : Nat) : (maskTo l n i).length = l.length := by simp [maskTo]; omega
theorem maskTo_get {l : List UInt8} {n i : Nat} (h : i < l.length) : (maskTo l n i).getD i 0 = l.getD i 0 := by
  simp only [maskTo, List.getD_eq_getElem?_getD]
  rw [List.getElem?_append_right (by simp; omega)]
  simp
  congr 2
  omega
theorem maskTo_succ {l : List UInt8} {n i : Nat} (h : i < l.length) : maskTo l n (i + 1) = (maskTo l n i).set i (mskb (nbit n i) (l.getD i 0)) := by
  unfold maskTo
  have hl : (maskB (l.take i) n).length = i := by simp; omega
  rw [List.set_append_right _ _ (by omega), hl, Nat.sub_self]
  have e1 : l.drop i = l[i] :: l.drop (i + 1) := List.drop_eq_getElem_cons h
  have e2 : maskB (l.take (i + 1)) n = maskB (l.take i) n ++ [mskb (nbit n i) (l.getD i 0)] := by
    rw [take_snoc l h]
    simp only [maskB, List.mapIdx_append, List.mapIdx_cons, List.mapIdx_nil]
    congr 2
    simp
    rw [Nat.min_eq_left (by omega)]
  rw [e1, List.set_cons_zero, e2]
  simp

/-- One bit more. -/
theorem mskb_succ (k : Nat) (hk : k < 8) (c : UInt8) : (mskb (k + 1) c).toNat = (mskb k c).toNat + (c.toNat / 2 ^ (7 - k) % 2) * 2 ^ (7 - k) := by
  rw [mskb_toNat, mskb_toNat, show 8 - (k + 1) = 7 - k by omega]
  have e : (2 : Nat) ^ (8 - k) = 2 * 2 ^ (7 - k) := by rw [← Nat.pow_succ']; congr 1; omega
  rw [e, Nat.mul_comm 2, ← Nat.div_div_eq_div_mul]
  generalize 2 ^ (7 - k) = p
  generalize c.toNat / p = q
  have := Nat.div_add_mod q 2
  calc q * p = (2 * (q / 2) + q % 2) * p := by rw [this]
    _ = _ := by rw [Nat.add_mul, Nat.mul_comm p 2, ← Nat.mul_assoc, Nat.mul_comm (q / 2) 2]
theorem maskB_succ {l : List UInt8} {n : Nat} (h : n / 8 < l.length) : maskB l (n + 1) = (maskB l n).set (n / 8) (mskb (n % 8 + 1) (l.getD (n / 8) 0)) := by
  apply List.ext_getElem
  · simp
  · intro i h1 h2
    have hi : i < l.length := by simpa using h1
    rw [List.getElem_set]
    simp only [maskB, List.getElem_mapIdx]
    split
    · rename_i e
      subst e
      simp only [List.getD_eq_getElem?_getD, List.getElem?_eq_getElem hi, Option.getD_some]
      congr 1
      unfold nbit
      omega
    · congr 1
      unfold nbit
      omega
theorem maskB_at {l : List UInt8} {n : Nat} (h : n / 8 < l.length) : (maskB l n).getD (n / 8) 0 = mskb (n % 8) (l.getD (n / 8) 0) := by
  rw [maskB_get h]; congr 1; unfold nbit; omega

/-! ### Sums -/

/-- The words of bytes, added; whether the next byte is a high one. -/
def wsum : Bool → List UInt8 → Nat
  | _, [] => 0
  | true, b :: l => 256 * b.toNat + wsum false l
  | false, b :: l => b.toNat + wsum true l
def par : Bool → List UInt8 → Bool
  | b, [] => b
  | b, _ :: l => par (!b) l
theorem par_append (b : Bool) (l m : List UInt8) : par b (l ++ m) = par (par b l) m := by
  induction l generalizing b with
  | nil => rfl
  | cons x l ih => exact ih (!b)
theorem wsum_append (b : Bool) (l m : List UInt8) : wsum b (l ++ m) = wsum b l + wsum (par b l) m := by
  induction l generalizing b with
  | nil => cases b <;> simp [wsum, par]
  | cons x l ih => cases b <;> simp [wsum, par, ih, Nat.add_assoc]
theorem wsum_le (b : Bool) (l : List UInt8) : wsum b l ≤ 65280 * l.length := by
  induction l generalizing b with
  | nil => cases b <;> simp [wsum]
  | cons x l ih =>
    have := x.toNat_lt
    have h1 := ih true
    have h2 := ih false
    cases b <;> simp only [wsum, List.length_cons] <;> omega
theorem par_even : ∀ (b : Bool) (l : List UInt8), par b l = if l.length % 2 = 0 then b else !b
  | b, [] => by simp [par]
  | b, x :: l => by
    rw [par, par_even (!b) l, List.length_cons]
    by_cases h : l.length % 2 = 0
    · rw [if_pos h, if_neg (by omega)]
    · rw [if_neg h, if_pos (by omega), Bool.not_not]
/-- A sum, what is above 16 bits added below. -/
def fold (n : Nat) : Nat := if n = 0 then 0 else (n - 1) % 65535 + 1
theorem fold_le (n : Nat) : fold n ≤ 65535 := by unfold fold; split <;> omega
theorem fold_low {n : Nat} (h : n ≤ 65535) : fold n = n := by unfold fold; split <;> omega
theorem fold_step {n : Nat} : fold (n % 65536 + n / 65536) = fold n := by unfold fold; split <;> split <;> omega
theorem fold_zero {n : Nat} : fold n = 0 ↔ n = 0 := by unfold fold; split <;> omega
theorem fold_mod (n : Nat) : fold n % 65535 = n % 65535 := by unfold fold; split <;> omega
theorem fold_eq {m n : Nat} : fold m = fold n ↔ m % 65535 = n % 65535 ∧ (m = 0 ↔ n = 0) := by unfold fold; split <;> split <;> omega
theorem fold_full {n : Nat} : fold n = 65535 ↔ n % 65535 = 0 ∧ n ≠ 0 := by unfold fold; split <;> omega
def csum (l : List UInt8) : Nat := 65535 - fold (wsum true l)
theorem csum_le (l : List UInt8) : csum l ≤ 65535 := by unfold csum; omega
theorem csum_zero {l : List UInt8} : csum l = 0 ↔ wsum true l % 65535 = 0 ∧ wsum true l ≠ 0 := by
  unfold csum
  have := fold_le (wsum true l)
  rw [← fold_full]; omega
/-- How great a number may be behind so many rounds. -/
def fbnd : Nat → Nat
  | 0 => 18446744073709551615
  | 1 => 281474976776192
  | 2 => 8589934592
  | 3 => 262144
  | 4 => 65539
  | _ => 65535
theorem fbnd_step {n : Nat} : ∀ {i : Nat}, n ≤ fbnd i → 65536 ≤ n → n % 65536 + n / 65536 ≤ fbnd (i + 1)
  | 0, h, _ => by simp only [fbnd] at *; omega
  | 1, h, _ => by simp only [fbnd] at *; omega
  | 2, h, _ => by simp only [fbnd] at *; omega
  | 3, h, _ => by simp only [fbnd] at *; omega
  | 4, h, _ => by simp only [fbnd] at *; omega
  | i + 5, h, h' => by simp only [fbnd] at *; omega
theorem fbnd_end {n i : Nat} (h : n ≤ fbnd i) (hi : 5 ≤ i) : n ≤ 65535 := by
  obtain ⟨j, rfl⟩ : ∃ j, i = j + 5 := ⟨i - 5, by omega⟩
  exact h
theorem fbnd_le (i : Nat) : fbnd i ≤ 18446744073709551615 := by
  unfold fbnd; split <;> omega

end Go.Proofs.Ytpjfkomicehinaa
