/- Addresses, as they stand in cells. -/
import Derived.Test.YtpjfkomicehinaaMr
namespace Go.Proofs.Ytpjfkomicehinaa
open Go.RowKit
set_option linter.unusedSimpArgs false
set_option linter.unusedVariables false

/-- An address. -/
structure Adr where
  six : Bool
  b : List UInt8
  len : b.length = 16
instance (a : Adr) : LenI a.b 16 := ⟨a.len⟩
abbrev adc (a : Adr) : Ch := [(1, [.bool a.six]), (16, u8s a.b)]
theorem Adr.ext {a c : Adr} (h : a.six = c.six) (k : a.b = c.b) : a = c := by cases a; cases c; simp_all
def Adr.bytes (a : Adr) : List UInt8 := if a.six then a.b else seg a.b 12 4
theorem Adr.bytes_len (a : Adr) : a.bytes.length = if a.six then 16 else 4 := by
  unfold Adr.bytes; split
  · exact a.len
  · exact seg_length (by rw [a.len]; decide)
theorem Adr.bytes_le (a : Adr) : a.bytes.length ≤ 16 := by rw [a.bytes_len]; split <;> omega
/-- The address of IPv4 of four bytes. -/
def Adr.of4 (l : List UInt8) (h : l.length = 4) : Adr := ⟨false, over (List.replicate 16 0) 12 l, by rw [over_length] <;> simp [h]⟩
def Adr.of6 (l : List UInt8) (h : l.length = 16) : Adr := ⟨true, l, h⟩
def Adr.zero : Adr := ⟨false, List.replicate 16 0, by simp⟩
def Adr.good (a : Adr) : Bool := a.six || decide (seg a.b 0 12 = List.replicate 12 0)

instance adrDec : DecidableEq Adr := fun a b => if h : a.six = b.six ∧ a.b = b.b then .isTrue (Adr.ext h.1 h.2) else .isFalse fun e => h ⟨e ▸ rfl, e ▸ rfl⟩
theorem inR_u8 {l : List UInt8} : ∀ v ∈ u8s l, inR v := fun v hv => by
  obtain ⟨b, _, rfl⟩ := List.mem_map.1 hv
  have := b.toNat_lt
  simp [inR, Lit.wf, IntKind.min, IntKind.max, IntKind.signed, IntKind.bits]
  omega
end Go.Proofs.Ytpjfkomicehinaa
