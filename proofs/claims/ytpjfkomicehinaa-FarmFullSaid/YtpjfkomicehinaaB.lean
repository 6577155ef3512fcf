/- Plain facts on bytes: numbers as bytes. -/
import Derived.Test.YtpjfkomicehinaaQ
namespace Go.Proofs.Ytpjfkomicehinaa
set_option linter.unusedVariables false

theorem u8_of (n : Nat) : (UInt8.ofNat n).toNat = n % 256 := UInt8.toNat_ofNat'
/-- A number's last n bytes. -/
def be (x : Nat) : Nat → List UInt8
  | 0 => []
  | n + 1 => UInt8.ofNat (x / 256 ^ n) :: be x n
theorem be_length (x n : Nat) : (be x n).length = n := by induction n with | zero => rfl | succ n ih => simp [be, ih]
/-- The number of bytes. -/
def val (l : List UInt8) : Nat := l.foldl (fun a b => a * 256 + b.toNat) 0
theorem val_from (l : List UInt8) (a : Nat) : l.foldl (fun a b => a * 256 + b.toNat) a = a * 256 ^ l.length + val l := by
  induction l generalizing a with
  | nil => simp [val]
  | cons b l ih =>
    have h1 := ih (a * 256 + b.toNat)
    have h2 := ih (0 * 256 + b.toNat)
    simp only [val, List.foldl_cons] at h1 h2 ⊢
    rw [h1, h2]
    simp only [List.length_cons, Nat.pow_succ, Nat.add_mul, Nat.zero_mul, Nat.zero_add]
    rw [Nat.mul_assoc, Nat.mul_comm 256 (256 ^ l.length), Nat.add_assoc]
theorem val_cons (b : UInt8) (l : List UInt8) : val (b :: l) = b.toNat * 256 ^ l.length + val l := by
  have := val_from l (0 * 256 + b.toNat)
  simpa [val] using this
theorem val_nil : val [] = 0 := rfl
theorem val_snoc (l : List UInt8) (b : UInt8) : val (l ++ [b]) = val l * 256 + b.toNat := by simp [val, List.foldl_append]
theorem val_lt (l : List UInt8) : val l < 256 ^ l.length := by
  induction l with
  | nil => simp [val]
  | cons b l ih =>
    rw [val_cons, List.length_cons, Nat.pow_succ]
    have hb := b.toNat_lt
    have : b.toNat * 256 ^ l.length ≤ 255 * 256 ^ l.length := Nat.mul_le_mul_right _ (by omega)
    omega
theorem val_be (x n : Nat) : val (be x n) = x % 256 ^ n := by
  induction n with
  | zero => simp [be, val, Nat.mod_one]
  | succ n ih =>
    rw [be, val_cons, ih, be_length, u8_of, Nat.pow_succ]
    have h1 : x % (256 ^ n * 256) = x % 256 ^ n + 256 ^ n * (x / 256 ^ n % 256) := Nat.mod_mul
    rw [h1, Nat.mul_comm, Nat.add_comm]
theorem be_val (l : List UInt8) : be (val l) l.length = l := by
  induction l with
  | nil => rfl
  | cons b l ih =>
    have hl := val_lt l
    rw [List.length_cons, be, val_cons]
    have h1 : (b.toNat * 256 ^ l.length + val l) / 256 ^ l.length = b.toNat := by
      rw [Nat.add_comm, Nat.add_mul_div_right _ _ (Nat.pow_pos (by decide)), Nat.div_eq_of_lt hl, Nat.zero_add]
    rw [h1, UInt8.ofNat_toNat]
    congr 1
    have key : ∀ (a x n : Nat), be (a * 256 ^ n + x) n = be x n := by
      intro a x n
      have : ∀ m (k : Nat), m ≤ n → be (a * 256 ^ n + x) m = be x m := by
        intro m
        induction m with
        | zero => intros; rfl
        | succ m ihm =>
          intro k hm
          rw [be, be, ihm 0 (by omega)]
          congr 1
          apply UInt8.toNat_inj.1
          rw [u8_of, u8_of]
          have hp : 256 ^ n = 256 ^ m * (256 * 256 ^ (n - m - 1)) := by
            rw [← Nat.pow_succ', ← Nat.pow_add]; congr 1; omega
          rw [hp, ← Nat.mul_assoc, Nat.mul_comm (a * 256 ^ m), Nat.add_comm, ← Nat.mul_assoc]
          rw [show 256 * 256 ^ (n - m - 1) * a * 256 ^ m = (256 * (256 ^ (n - m - 1) * a)) * 256 ^ m by simp only [Nat.mul_assoc]]
          rw [Nat.add_mul_div_right _ _ (Nat.pow_pos (by decide)), Nat.add_mul_mod_self_left]
      exact this n 0 (Nat.le_refl _)
    rw [key, ih]

theorem be_get (x : Nat) : ∀ {n j : Nat}, j < n → (be x n).getD j 0 = UInt8.ofNat (x / 256 ^ (n - 1 - j))
  | n + 1, 0, _ => by simp [be]
  | n + 1, j + 1, h => by
    have := be_get x (n := n) (j := j) (by omega)
    simp only [be, List.getD_cons_succ, this]
    congr 3
    omega
theorem take_snoc (l : List UInt8) {i : Nat} (h : i < l.length) : l.take (i + 1) = l.take i ++ [l.getD i 0] := by
  rw [List.take_succ_eq_append_getElem h]; simp [h]
theorem val_take (l : List UInt8) {i : Nat} (h : i < l.length) : val (l.take (i + 1)) = val (l.take i) * 256 + (l.getD i 0).toNat := by rw [take_snoc l h, val_snoc]

end Go.Proofs.Ytpjfkomicehinaa
