/- Heads of segments, flows, arrays that came in, opened. -/
import Derived.Test.YteofjhjhaaafjaaOp
import Derived.Test.YteofjhjhaaafjaaSg
namespace Go.Proofs.Yteofjhjhaaafjaa
open Go.ChangeShapes Go.WideShapes Go.ChangeAt Go.RowKit
set_option linter.unusedSimpArgs false
set_option linter.unusedVariables false
section
variable {H : Type} {enc : TypeId × Value → H} {P : Program} {W : World}
def sgKinds : List (Option IntKind) := [some .u16, some .u16, some .u8, some .i64, none, some .i64]
theorem fits_sg {vs : List Value} (h : Fits sgKinds vs) : ∃ x : Sg, vs = flat (sgc x) ∧ x.src < 65536 ∧ x.dst < 65536 := by
  obtain ⟨n1, r1, rfl, b1, k1⟩ := fits_uint rfl h
  obtain ⟨n2, r2, rfl, b2, k2⟩ := fits_uint rfl k1
  obtain ⟨c, r3, rfl, k3⟩ := fits_u8n k2
  obtain ⟨m1, r4, rfl, _, _, k4⟩ := fits_i64 k3
  obtain ⟨z, r5, rfl, k5⟩ := fits_bool k4
  obtain ⟨m2, r6, rfl, _, _, k6⟩ := fits_i64 k5
  obtain rfl := fits_nil k6
  exact ⟨⟨n1, n2, c, m1, z, m2⟩, by simp [flat_eq], by simpa [IntKind.bits] using b1, by simpa [IntKind.bits] using b2⟩
theorem open_sg {v : Value} {d : DataW H} {p : List MemPlace} {base : Nat} {t : TypeId} {fs : Array Field} (ht : P.underlying t = some (.struct fs)) (hk : flatK P 6 t = some sgKinds) (hval : Value.okWide P W .any base t v)
    (h : DataW.Trod enc P W 0 (fun _ => true) true t v d p) : ∃ x : Sg, v = ag (sgc x) ∧ x.src < 65536 ∧ x.dst < 65536 := by
  obtain ⟨cs, rfl⟩ := agg_of_struct ht hval
  obtain ⟨x, hx, h1, h2⟩ := fits_sg (open_flat 6 hk h)
  exact ⟨x, ag_of hx, h1, h2⟩
theorem open_arr {v : Value} {d : DataW H} {p : List MemPlace} {base : Nat} {t e : TypeId} {n : Nat} (ht : P.underlying t = some (.array n e)) (hk : flatK P 3 t = some (List.replicate n (some .u8))) (hval : Value.okWide P W .any base t v)
    (h : DataW.Trod enc P W 0 (fun _ => true) true t v d p) : ∃ l : List UInt8, v = ag [(n, u8s l)] ∧ l.length = n := by
  obtain ⟨cs, rfl⟩ := agg_of_array ht hval
  obtain ⟨l, hl, hn⟩ := fits_bytes (open_flat 3 hk h)
  exact ⟨l, ag_of (by rw [show cs.toList = _ from hl]; simp [flat_eq]), hn⟩
end
end Go.Proofs.Yteofjhjhaaafjaa
