/- Templates that came in, opened. -/
import Derived.Test.YteofjhjhaaafjaaOp
import Derived.Test.YteofjhjhaaafjaaTn
namespace Go.Proofs.Yteofjhjhaaafjaa
open Go.ChangeShapes Go.WideShapes Go.ChangeAt Go.RowKit
set_option linter.unusedSimpArgs false
set_option linter.unusedVariables false
section
variable {H : Type} {enc : TypeId × Value → H} {P : Program} {W : World}
def tmKinds : List (Option IntKind) := [some .i64] ++ (adKinds ++ [some .i64, some .i64, some .u64])
theorem open_tmpl {v : Value} {d : DataW H} {p : List MemPlace} {base : Nat} {t : TypeId} {fs : Array Field} (ht : P.underlying t = some (.struct fs)) (hk : flatK P 6 t = some tmKinds) (hval : Value.okWide P W .any base t v)
    (h : DataW.Trod enc P W 0 (fun _ => true) true t v d p) : ∃ (s : Int) (a : Adr) (n b : Int) (u : Nat), v = ag (tmc s a n b u) ∧ -9223372036854775808 ≤ n ∧ n ≤ 9223372036854775807 ∧ u < 18446744073709551616 := by
  obtain ⟨cs, rfl⟩ := agg_of_struct ht hval
  obtain ⟨v1, v2, e1, g1, g2⟩ := Fits.split (open_flat 6 hk h)
  obtain ⟨s, r, rfl, _, _, g1⟩ := fits_i64 g1
  obtain rfl := fits_nil g1
  obtain ⟨v3, v4, rfl, g3, g4⟩ := Fits.split g2
  obtain ⟨a, rfl⟩ := fits_adr g3
  obtain ⟨n, r, rfl, h1, h2, g4⟩ := fits_i64 g4
  obtain ⟨b, r, rfl, _, _, g4⟩ := fits_i64 g4
  obtain ⟨u, r, rfl, hu, g4⟩ := fits_uint rfl g4
  obtain rfl := fits_nil g4
  exact ⟨s, a, n, b, u, ag_of (by rw [show cs.toList = _ from e1]; simp [flat_eq]), h1, h2, by simpa [IntKind.bits] using hu⟩
end
end Go.Proofs.Yteofjhjhaaafjaa
