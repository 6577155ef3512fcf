/- Addresses, prefixes, flows as cells: plain facts. -/
import Derived.Test.YtopcecgkbmdmeaaLib
namespace Go.Proofs.Ytopcecgkbmdmeaa
open Go.RowKit
set_option linter.unusedSimpArgs false
set_option linter.unusedVariables false

/-! ### Addresses -/

structure Ad where
  six : Bool
  b : List Nat

structure Ad.ok (a : Ad) : Prop where
  len : a.b.length = 16
  lt : ∀ x ∈ a.b, x < 256

/-- The cells of an address. -/
def adc (a : Ad) : List Value := .bool a.six :: bvs a.b
theorem adc_length {a : Ad} (h : a.ok) : (adc a).length = 17 := by simp [adc, bvs_length, h.len]
/-- The bytes of an address. -/
def adb (a : Ad) : List Nat := if a.six then a.b else a.b.drop 12
theorem adb_lt {a : Ad} (h : a.ok) : ∀ x ∈ adb a, x < 256 := by
  unfold adb; split
  · exact h.lt
  · exact fun x hx => h.lt x (List.mem_of_mem_drop hx)
theorem adb_len {a : Ad} (h : a.ok) : (adb a).length ≤ 16 := by
  unfold adb; split <;> simp [h.len]

/-! ### Prefixes, flows -/

/-- The cells of a prefix. -/
def pxc (a : Ad) (n : Int) : List Value := adc a ++ [.int .i64 n]
theorem pxc_length {a : Ad} (h : a.ok) (n : Int) : (pxc a n).length = 18 := by simp [pxc, adc_length h]
theorem pxc_addr {a : Ad} (h : a.ok) (n : Int) : ((pxc a n).drop 0).take 17 = adc a := by simp [pxc, ← adc_length h]
theorem pxc_bits {a : Ad} (h : a.ok) (n : Int) : (pxc a n)[17]? = some (.int .i64 n) := by simp [pxc, adc_length h]
def b8 (n : Int) : Nat := (n % 256).toNat
theorem b8_lt (n : Int) : b8 n < 256 := by unfold b8; omega
theorem b8_cast (n : Int) : IntKind.u8.wrap n = (b8 n : Int) := by rw [IntKind.wrap_u8]; unfold b8; omega


/-- The cells of a flow. -/
def flc (s d : Ad) (sp dp pr : Nat) : List Value := adc s ++ (adc d ++ [.int .u16 (sp : Int), .int .u16 (dp : Int), .int .u8 (pr : Int)])
theorem flc_length {s d : Ad} (h : s.ok) (k : d.ok) (sp dp pr : Nat) : (flc s d sp dp pr).length = 37 := by simp [flc, adc_length h, adc_length k]
theorem flc_src {s d : Ad} (h : s.ok) (sp dp pr : Nat) : ((flc s d sp dp pr).drop 0).take 17 = adc s := by simp [flc, ← adc_length h]
theorem flc_dst {s d : Ad} (h : s.ok) (k : d.ok) (sp dp pr : Nat) : ((flc s d sp dp pr).drop 17).take 17 = adc d := by
  rw [flc, ← adc_length h, List.drop_left, show (adc s).length = (adc d).length by rw [adc_length h, adc_length k], List.take_left]
theorem flc_at {s d : Ad} (h : s.ok) (k : d.ok) (sp dp pr : Nat) (i : Nat) : (flc s d sp dp pr)[34 + i]? = [Value.int .u16 (sp : Int), .int .u16 (dp : Int), .int .u8 (pr : Int)][i]? := by
  rw [flc, List.getElem?_append_right (by rw [adc_length h]; omega), adc_length h, List.getElem?_append_right (by rw [adc_length k]; omega), adc_length k]
  congr 1
  omega

end Go.Proofs.Ytopcecgkbmdmeaa
