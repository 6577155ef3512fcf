/- Prefixes, and clients that come so often, opened. -/
import Derived.Test.YtncgponcedkihaaOpL
import Derived.Test.YtncgponcedkihaaPx
namespace Go.Proofs.Ytncgponcedkihaa
open Go.ChangeShapes Go.WideShapes Go.ChangeAt Go.RowKit
set_option linter.unusedSimpArgs false
set_option linter.unusedVariables false
section
variable {H : Type} {enc : TypeId × Value → H} {P : Program} {W : World}
theorem fits_pf {ks : List (Option IntKind)} {vs : List Value} (h : Fits (adKinds ++ (some .i64 :: ks)) vs) : ∃ (p : Pf) (r : List Value), vs = flat (pfc p) ++ r ∧ in64 p.2 ∧ Fits ks r := by
  obtain ⟨v1, v2, rfl, g1, g2⟩ := Fits.split h
  obtain ⟨a, rfl⟩ := fits_adr g1
  obtain ⟨n1, r1, rfl, b1, b2, k1⟩ := fits_i64 g2
  exact ⟨(a, n1), r1, by simp [flat_eq], ⟨b1, b2⟩, k1⟩
theorem fits_pf1 {es : List Value} (h : Fits (adKinds ++ [some .i64]) es) : ∃ p : Pf, es = flat (pfc p) ∧ in64 p.2 := by
  obtain ⟨p, r, rfl, hp, k⟩ := fits_pf h
  obtain rfl := fits_nil k
  exact ⟨p, by simp, hp⟩
theorem open_pf {v : Value} {d : DataW H} {p : List MemPlace} {base : Nat} {t : TypeId} {fs : Array Field} (ht : P.underlying t = some (.struct fs)) (hk : flatK P 6 t = some (adKinds ++ [some .i64])) (hval : Value.okWide P W .any base t v)
    (h : DataW.Trod enc P W 0 (fun _ => true) true t v d p) : ∃ x : Pf, v = ag (pfc x) ∧ in64 x.2 := by
  obtain ⟨cs, rfl⟩ := agg_of_struct ht hval
  obtain ⟨a, hx, h1⟩ := fits_pf1 (open_flat 6 hk h)
  exact ⟨a, ag_of (show cs.toList = _ from hx), h1⟩
/-- A client that comes so often. -/
abbrev cnC (x : Pf × Int) : Ch := [(1, [.bool x.1.1.six]), (16, u8s x.1.1.b), (1, [.int .i64 x.1.2]), (1, [.int .u64 x.2])]
def cnW (x : Pf × Int) : Prop := in64 x.1.2 ∧ 0 ≤ x.2 ∧ x.2 < 18446744073709551616
theorem fits_cn {es : List Value} (h : Fits (adKinds ++ [some .i64, some .u64]) es) : ∃ x : Pf × Int, es = flat (cnC x) ∧ cnW x := by
  obtain ⟨p, r, rfl, hp, k⟩ := fits_pf h
  obtain ⟨n4, r4, rfl, b4, k4⟩ := fits_uint rfl k
  obtain rfl := fits_nil k4
  refine ⟨(p, (n4 : Int)), by simp [flat_eq], hp, by dsimp only; omega, ?_⟩
  simp only [IntKind.bits] at b4
  dsimp only; omega
end
end Go.Proofs.Ytncgponcedkihaa
