/- Addresses, prefixes, flows as cells: plain facts. -/
import Derived.Test.YtopcecgkbmdmeaaLib
namespace Go.Proofs.Ytopcecgkbmdmeaa
open Go.RowKit
set_option linter.unusedSimpArgs false
set_option linter.unusedVariables false

/-! ### Addresses -/

structure Ad where
  six : Bool
  b : List Nat

structure Ad.ok (a : Ad) : Prop where
  len : a.b.length = 16
  lt : ∀ x ∈ a.b, x < 256

/-- The cells of an address. -/
def adc (a : Ad) : List Value := .bool a.six :: bvs a.b
theorem adc_length {a : Ad} (h : a.ok) : (adc a).length = 17 := by simp [adc, bvs_length, h.len]
/-- The bytes of an address. -/
def adb (a : Ad) : List Nat := if a.six then a.b else a.b.drop 12
theorem adb_lt {a : Ad} (h : a.ok) : ∀ x ∈ adb a, x < 256 := by
  unfold adb; split
  · exact h.lt
  · exact fun x hx => h.lt x (List.mem_of_mem_drop hx)
theorem adb_len {a : Ad} (h : a.ok) : (adb a).length ≤ 16 := by
  unfold adb; split <;> simp [h.len]

/-! ### Prefixes, flows -/

/-- The cells of a prefix. -/
def pxc (a : Ad) (n : Int) : List Value := adc a ++ [.int .i64 n]
theorem pxc_length {a : Ad} (h : a.ok) (n : Int) : (pxc a n).length = 18 := by simp [pxc, adc_length h]
theorem pxc_addr {a : Ad} (h : a.ok) (n : Int) : ((pxc a n).drop 0).take 17 = adc a := by simp [pxc, ← adc_length h]
theorem pxc_bits {a : Ad} (h : a.ok) (n : Int) : (pxc a n)[17]? = some (.int .i64 n) := by simp [pxc, adc_length h]
def b8 (n : Int) : Nat := (n % 256).toNat
theorem b8_lt (n : Int) : b8 n < 256 := by unfold b8; omega
theorem b8_cast (n : Int) : IntKind.u8.wrap n = (b8 n : Int) := by rw [IntKind.wrap_u8]; unfold b8; omega


end Go.Proofs.Ytopcecgkbmdmeaa
