/- Bits of numbers, as the walk meets them. -/
import Derived.Test.YtpjfkomicehinaaB
namespace Go.Proofs.Ytpjfkomicehinaa
open Go.RowKit
set_option linter.unusedSimpArgs false
set_option linter.unusedVariables false

def kw : IntKind → Nat
  | .u8 => 8 | .u16 => 16 | .u32 => 32 | .u64 => 64 | .i8 => 8 | .i16 => 16 | .i32 => 32 | .i64 => 64
theorem kw_bits (k : IntKind) : k.bits = kw k := by cases k <;> rfl
def isU : IntKind → Bool
  | .u8 | .u16 | .u32 | .u64 => true
  | _ => false
theorem wrap_nat {k : IntKind} (hk : isU k = true) {a : Nat} (h : a < 2 ^ kw k) : k.wrap (a : Int) = (a : Int) := by
  cases k <;> simp [isU] at hk <;> simp only [kw] at h <;> simp [IntKind.wrap, IntKind.bits, IntKind.signed] <;> omega
theorem wrap_mod {k : IntKind} (hk : isU k = true) (a : Nat) : k.wrap (a : Int) = ((a % 2 ^ kw k : Nat) : Int) := by
  cases k <;> simp [isU] at hk <;> simp [IntKind.wrap, IntKind.bits, IntKind.signed, kw]
/-- A number of a signed kind, that is none below 0. -/
theorem wrap_natS {k : IntKind} {a : Nat} (h : a < 2 ^ (kw k - 1)) : k.wrap (a : Int) = (a : Int) := by
  cases k <;> simp only [kw] at h <;> simp [IntKind.wrap, IntKind.bits, IntKind.signed] <;> omega

variable {P : Program} {T : TypeId} {k k2 : IntKind}

theorem BinR.shlN {a s : Nat} (hk : isU k = true) (hs : s ≤ kw k) : BinR P .shl T (.int k (a : Int)) (.int k2 (s : Int)) (.int k ((a * 2 ^ s % 2 ^ kw k : Nat) : Int)) := fun X Y w => by
  have h0 : ¬ ((s : Nat) : Int) < 0 := by omega
  have hm : min s k.bits = s := by rw [kw_bits]; omega
  simp only [eqGuard, binOp, Op.shift, h0, if_false, Int.toNat_natCast, hm]
  rw [← wrap_mod hk]
  simp
theorem BinR.shrN {a s : Nat} (hs : s ≤ kw k) : BinR P .shr T (.int k (a : Int)) (.int k2 (s : Int)) (.int k ((a / 2 ^ s : Nat) : Int)) := fun X Y w => by
  have h0 : ¬ ((s : Nat) : Int) < 0 := by omega
  have hm : min s k.bits = s := by rw [kw_bits]; omega
  simp only [eqGuard, binOp, Op.shift, h0, if_false, Int.toNat_natCast, hm]
  have : (a : Int).fdiv (2 ^ s) = ((a / 2 ^ s : Nat) : Int) := by
    rw [Int.fdiv_eq_ediv_of_nonneg _ (by exact Int.le_of_lt (Int.pow_pos (by decide)))]
    simp
  rw [this]
  simp
theorem bv_nat {n a : Nat} (h : a < 2 ^ n) : (BitVec.ofInt n (a : Int)).toNat = a := by
  rw [BitVec.toNat_ofInt]
  have : (((a : Nat) : Int) % ((2 ^ n : Nat) : Int)).toNat = a := by
    rw [← Int.natCast_emod, Int.toNat_natCast, Nat.mod_eq_of_lt h]
  simpa using this
theorem BinR.orN {a b : Nat} (hk : isU k = true) (ha : a < 2 ^ kw k) (hb : b < 2 ^ kw k) : BinR P .or T (.int k (a : Int)) (.int k (b : Int)) (.int k ((a ||| b : Nat) : Int)) := fun X Y w => by
  have h1 : (BitVec.ofInt k.bits (a : Int) ||| BitVec.ofInt k.bits (b : Int)).toNat = a ||| b := by
    rw [BitVec.toNat_or, kw_bits, bv_nat ha, bv_nat hb]
  have e1 : a % 2 ^ k.bits = a := by rw [kw_bits]; exact Nat.mod_eq_of_lt ha
  have e2 : b % 2 ^ k.bits = b := by rw [kw_bits]; exact Nat.mod_eq_of_lt hb
  simp [eqGuard, binOp, Op.intBits, e1, e2, wrap_nat hk (Nat.or_lt_two_pow ha hb)]
theorem BinR.andN {a b : Nat} (hk : isU k = true) (ha : a < 2 ^ kw k) (hb : b < 2 ^ kw k) : BinR P .and T (.int k (a : Int)) (.int k (b : Int)) (.int k ((a &&& b : Nat) : Int)) := fun X Y w => by
  have h1 : (BitVec.ofInt k.bits (a : Int) &&& BitVec.ofInt k.bits (b : Int)).toNat = a &&& b := by
    rw [BitVec.toNat_and, kw_bits, bv_nat ha, bv_nat hb]
  have e1 : a % 2 ^ k.bits = a := by rw [kw_bits]; exact Nat.mod_eq_of_lt ha
  have e2 : b % 2 ^ k.bits = b := by rw [kw_bits]; exact Nat.mod_eq_of_lt hb
  simp [eqGuard, binOp, Op.intBits, e1, e2, wrap_nat hk (Nat.and_lt_two_pow a hb)]
theorem or_add {a b s : Nat} (h : b < 2 ^ s) : a * 2 ^ s ||| b = a * 2 ^ s + b := by
  rw [Nat.mul_comm]
  exact (Nat.two_pow_add_eq_or_of_lt h a).symm

/-- One more byte behind a number. -/
theorem BinR.shl8 {m : Nat} (h : m < 72057594037927936) : BinR P .shl T (.int .u64 (m : Int)) (.int k2 8) (.int .u64 ((m * 256 : Nat) : Int)) := by
  have := BinR.shlN (P := P) (T := T) (k := .u64) (k2 := k2) (a := m) (s := 8) rfl (by decide)
  rw [show m * 2 ^ 8 % 2 ^ kw .u64 = m * 256 by rw [show kw .u64 = 64 from rfl, Nat.mod_eq_of_lt (by omega)]] at this
  exact this
theorem BinR.or8 {m c : Nat} (h : m < 72057594037927936) (hc : c < 256) : BinR P .or T (.int .u64 ((m * 256 : Nat) : Int)) (.int .u64 (c : Int)) (.int .u64 ((m * 256 + c : Nat) : Int)) := by
  have := BinR.orN (P := P) (T := T) (k := .u64) (a := m * 256) (b := c) rfl (by show m * 256 < 2 ^ 64; omega) (by show c < 2 ^ 64; omega)
  rw [show m * 256 ||| c = m * 256 + c from or_add (s := 8) hc] at this
  exact this
theorem BinR.shrI {a : Nat} {s : Int} (h0 : 0 ≤ s) (hs : s ≤ kw k) : BinR P .shr T (.int k (a : Int)) (.int k2 s) (.int k ((a / 2 ^ s.toNat : Nat) : Int)) := by
  have := BinR.shrN (P := P) (T := T) (k := k) (k2 := k2) (a := a) (s := s.toNat) (by omega)
  rwa [Int.toNat_of_nonneg h0] at this
theorem u8_ge (b : UInt8) : (0 : Int) ≤ ((b.toNat : Nat) : Int) := Int.natCast_nonneg _
theorem u8_lt (b : UInt8) : ((b.toNat : Nat) : Int) < 256 := by have := b.toNat_lt; omega
theorem wrap8 (x : Nat) : IntKind.u8.wrap (x : Int) = (((UInt8.ofNat x).toNat : Nat) : Int) := by rw [IntKind.wrap_u8, u8_of]; rfl
theorem ReadR.conv8 {n : Nat} {Γ : List Asn} {F : List (Nat × Value)} {d : Option Tmp} {ty : TypeId} {pos : String} {af : Array Edge} {gd : Option (Nat × Bool)} {T1 T2 : TypeId} {k1 : IntKind} {x : Operand} {a : Nat} [h2 : IntI P T2 .u8] [h1 : IntI P T1 k1] (hx : evF F x = some (.int k1 (Int.ofNat a))) :
    ReadR P n Γ F ⟨d, .convert T1 T2 x, ty, pos, af, gd⟩ (.int .u8 (((UInt8.ofNat a).toNat : Nat) : Int)) := by
  have := ReadR.convW (P := P) (n := n) (Γ := Γ) (F := F) (d := d) (ty := ty) (pos := pos) (af := af) (gd := gd) (T1 := T1) (T2 := T2) (by rw [h1.und]; rfl) hx
  rwa [show IntKind.u8.wrap (Int.ofNat a) = _ from wrap8 a] at this
theorem nbs_nil : nbs [] = [] := rfl
theorem nbs_u8 (b : UInt8) (es : List Int) : nbs (((b.toNat : Nat) : Int) :: es) = b :: nbs es := by simp [nbs]
theorem conv_u8 {c : UInt8} : IntKind.u64.wrap ((c.toNat : Nat) : Int) = ((c.toNat : Nat) : Int) := by have := c.toNat_lt; rw [IntKind.wrap_u64]; omega

end Go.Proofs.Ytpjfkomicehinaa
