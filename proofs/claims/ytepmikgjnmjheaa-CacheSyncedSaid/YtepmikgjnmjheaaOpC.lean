/- What is done to a cache, opened. -/
import Derived.Test.YtepmikgjnmjheaaOpD
import Derived.Test.YtepmikgjnmjheaaCu
namespace Go.Proofs.Ytepmikgjnmjheaa
open Go.ChangeShapes Go.WideShapes Go.ChangeAt Go.RowKit
set_option linter.unusedSimpArgs false
set_option linter.unusedVariables false
theorem fits_ka {es : List Value} (h : Fits [some .i64, some .i64, some .u8] es) : ∃ x : KA, es = flat (kaC x) ∧ kaW x := by
  obtain ⟨k, r1, rfl, a1, b1, i1⟩ := fits_i64 h
  obtain ⟨no, r2, rfl, a2, b2, i2⟩ := fits_i64 i1
  obtain ⟨b, r3, rfl, hb, i3⟩ := fits_uint rfl i2
  obtain rfl := fits_nil i3
  have hb2 : (UInt8.ofNat b).toNat = b := by
    simp only [IntKind.bits] at hb
    have h3 : (UInt8.ofNat b).toNat = b % 256 := by simp
    rw [h3]
    omega
  refine ⟨⟨k, no, UInt8.ofNat b⟩, ?_, ⟨a1, b1⟩, a2, b2⟩
  show _ = [_, _, Value.int .u8 (((UInt8.ofNat b).toNat : Nat) : Int)]
  rw [hb2]
end Go.Proofs.Ytepmikgjnmjheaa
