/- What is done to flows, opened. -/
import Derived.Test.YtncgponcedkihaaOpL
import Derived.Test.YtncgponcedkihaaFc
namespace Go.Proofs.Ytncgponcedkihaa
open Go.ChangeShapes Go.WideShapes Go.ChangeAt Go.RowKit
set_option linter.unusedSimpArgs false
set_option linter.unusedVariables false
section
variable {H : Type} {enc : TypeId × Value → H} {P : Program} {W : World}
theorem fits_flow {ks : List (Option IntKind)} {vs : List Value} (h : Fits (adKinds ++ (adKinds ++ (some .u16 :: some .u16 :: some .u8 :: ks))) vs) : ∃ (x : Fl) (r : List Value), vs = flat (flc x) ++ r ∧ flW x ∧ Fits ks r := by
  obtain ⟨v1, v2, rfl, g1, g2⟩ := Fits.split h
  obtain ⟨a, rfl⟩ := fits_adr g1
  obtain ⟨v3, v4, rfl, g3, g4⟩ := Fits.split g2
  obtain ⟨b, rfl⟩ := fits_adr g3
  obtain ⟨n1, r1, rfl, b1, k1⟩ := fits_uint rfl g4
  obtain ⟨n2, r2, rfl, b2, k2⟩ := fits_uint rfl k1
  obtain ⟨c, r3, rfl, k3⟩ := fits_u8n k2
  exact ⟨⟨a, b, n1, n2, c⟩, r3, by simp [flat_eq], ⟨by simpa [IntKind.bits] using b1, by simpa [IntKind.bits] using b2⟩, k3⟩
def enW (a : En) : Prop := in64 a.sv ∧ in64 a.bk ∧ a.port < 65536 ∧ in64 a.st ∧ 0 ≤ a.til ∧ a.til < 18446744073709551616
theorem fits_entry {ks : List (Option IntKind)} {vs : List Value} (h : Fits (some .i64 :: some .i64 :: (adKinds ++ (some .u16 :: some .i64 :: some .u64 :: ks))) vs) : ∃ (x : En) (r : List Value), vs = flat (enC x) ++ r ∧ enW x ∧ Fits ks r := by
  obtain ⟨n1, r1, rfl, a1, b1, k1⟩ := fits_i64 h
  obtain ⟨n2, r2, rfl, a2, b2, k2⟩ := fits_i64 k1
  obtain ⟨v3, v4, rfl, g3, g4⟩ := Fits.split k2
  obtain ⟨b, rfl⟩ := fits_adr g3
  obtain ⟨n3, r3, rfl, b3, k3⟩ := fits_uint rfl g4
  obtain ⟨n4, r4, rfl, a4, b4, k4⟩ := fits_i64 k3
  obtain ⟨n5, r5, rfl, b5, k5⟩ := fits_uint rfl k4
  refine ⟨⟨n1, n2, b, n3, n4, n5⟩, r5, by simp [flat_eq], ⟨⟨a1, b1⟩, ⟨a2, b2⟩, by simpa [IntKind.bits] using b3, ⟨a4, b4⟩, by dsimp only; omega, ?_⟩, k5⟩
  simp only [IntKind.bits] at b5
  dsimp only; omega
def fcW (x : Fc) : Prop := in64 x.k ∧ flW x.f ∧ enW x.a ∧ 0 ≤ x.now ∧ x.now < 18446744073709551616
def fcKinds : List (Option IntKind) := some .i64 :: (adKinds ++ (adKinds ++ (some .u16 :: some .u16 :: some .u8 :: (some .i64 :: some .i64 :: (adKinds ++ (some .u16 :: some .i64 :: some .u64 :: [some .u64])))))) 
theorem fits_fc {es : List Value} (h : Fits fcKinds es) : ∃ x : Fc, es = flat (fcC x) ∧ fcW x := by
  obtain ⟨n1, r1, rfl, a1, b1, k1⟩ := fits_i64 h
  obtain ⟨f, r2, rfl, hf, k2⟩ := fits_flow k1
  obtain ⟨a, r3, rfl, ha, k3⟩ := fits_entry k2
  obtain ⟨n4, r4, rfl, b4, k4⟩ := fits_uint rfl k3
  obtain rfl := fits_nil k4
  refine ⟨⟨n1, f, a, n4⟩, by simp [flat_eq], ⟨a1, b1⟩, hf, ha, by dsimp only; omega, ?_⟩
  simp only [IntKind.bits] at b4
  dsimp only; omega
theorem open_fc {v : Value} {d : DataW H} {p : List MemPlace} {base : Nat} {t : TypeId} {fs : Array Field} (ht : P.underlying t = some (.struct fs)) (hk : flatK P 6 t = some fcKinds) (hval : Value.okWide P W .any base t v)
    (h : DataW.Trod enc P W 0 (fun _ => true) true t v d p) : ∃ x : Fc, v = ag (fcC x) ∧ fcW x := by
  obtain ⟨cs, rfl⟩ := agg_of_struct ht hval
  obtain ⟨x, hx, h1⟩ := fits_fc (open_flat 6 hk h)
  exact ⟨x, ag_of (show cs.toList = _ from hx), h1⟩
end
end Go.Proofs.Ytncgponcedkihaa
