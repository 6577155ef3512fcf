/- Heads that came in, opened. -/
import Derived.Test.YteofjhjhaaafjaaOp
import Derived.Test.YteofjhjhaaafjaaIf
namespace Go.Proofs.Yteofjhjhaaafjaa
open Go.ChangeShapes Go.WideShapes Go.ChangeAt Go.RowKit
set_option linter.unusedSimpArgs false
set_option linter.unusedVariables false
section
variable {H : Type} {enc : TypeId × Value → H} {P : Program} {W : World}
def hdKinds : List (Option IntKind) := [none, some .u8, some .i64] ++ (adKinds ++ (adKinds ++ [none, some .u8]))
theorem fits_hd {vs : List Value} (h : Fits hdKinds vs) : ∃ x : Hd, vs = flat (hdc x) := by
  obtain ⟨v1, v2, rfl, g1, g2⟩ := Fits.split h
  obtain ⟨six, r1, rfl, k1⟩ := fits_bool g1
  obtain ⟨pr, r2, rfl, k2⟩ := fits_u8n k1
  obtain ⟨n, r3, rfl, _, _, k3⟩ := fits_i64 k2
  obtain rfl := fits_nil k3
  obtain ⟨v3, v4, rfl, g3, g4⟩ := Fits.split g2
  obtain ⟨a, rfl⟩ := fits_adr g3
  obtain ⟨v5, v6, rfl, g5, g6⟩ := Fits.split g4
  obtain ⟨b, rfl⟩ := fits_adr g5
  obtain ⟨pt, r4, rfl, k4⟩ := fits_bool g6
  obtain ⟨hp, r5, rfl, k5⟩ := fits_u8n k4
  obtain rfl := fits_nil k5
  exact ⟨⟨six, pr, n, a, b, pt, hp⟩, by simp [flat_eq]⟩
theorem open_hd {v : Value} {d : DataW H} {p : List MemPlace} {base : Nat} {t : TypeId} {fs : Array Field} (ht : P.underlying t = some (.struct fs)) (hk : flatK P 6 t = some hdKinds) (hval : Value.okWide P W .any base t v)
    (h : DataW.Trod enc P W 0 (fun _ => true) true t v d p) : ∃ x : Hd, v = ag (hdc x) := by
  obtain ⟨cs, rfl⟩ := agg_of_struct ht hval
  obtain ⟨x, hx⟩ := fits_hd (open_flat 6 hk h)
  exact ⟨x, ag_of hx⟩
end
end Go.Proofs.Yteofjhjhaaafjaa
