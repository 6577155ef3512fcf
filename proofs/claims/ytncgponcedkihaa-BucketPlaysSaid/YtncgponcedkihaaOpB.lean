/- What is asked of buckets, opened. -/
import Derived.Test.YtncgponcedkihaaOpP
import Derived.Test.YtncgponcedkihaaBa
namespace Go.Proofs.Ytncgponcedkihaa
open Go.ChangeShapes Go.WideShapes Go.ChangeAt Go.RowKit
set_option linter.unusedSimpArgs false
set_option linter.unusedVariables false
section
variable {H : Type} {enc : TypeId × Value → H} {P : Program} {W : World}
theorem fits_act {es : List Value} (h : Fits (some .i64 :: (adKinds ++ (some .i64 :: [some .i64, some .u64]))) es) : ∃ a : Ac, es = flat (acC a) ∧ acOk a := by
  obtain ⟨n1, r1, rfl, a1, b1, k1⟩ := fits_i64 h
  obtain ⟨p, r2, rfl, hp, k2⟩ := fits_pf k1
  obtain ⟨n3, r3, rfl, a3, b3, k3⟩ := fits_i64 k2
  obtain ⟨n4, r4, rfl, b4, k4⟩ := fits_uint rfl k3
  obtain rfl := fits_nil k4
  refine ⟨⟨n1, p, n3, n4⟩, by simp [flat_eq], ⟨a1, b1⟩, hp, ⟨a3, b3⟩, by dsimp only; omega, ?_⟩
  simp only [IntKind.bits] at b4
  dsimp only; omega
theorem open_act {v : Value} {d : DataW H} {p : List MemPlace} {base : Nat} {t : TypeId} {fs : Array Field} (ht : P.underlying t = some (.struct fs)) (hk : flatK P 6 t = some (some .i64 :: (adKinds ++ (some .i64 :: [some .i64, some .u64])))) (hval : Value.okWide P W .any base t v)
    (h : DataW.Trod enc P W 0 (fun _ => true) true t v d p) : ∃ a : Ac, v = ag (acC a) ∧ acOk a := by
  obtain ⟨cs, rfl⟩ := agg_of_struct ht hval
  obtain ⟨a, hx, h1⟩ := fits_act (open_flat 6 hk h)
  exact ⟨a, ag_of (show cs.toList = _ from hx), h1⟩
theorem open_rate {v : Value} {d : DataW H} {p : List MemPlace} {base : Nat} {t : TypeId} {fs : Array Field} (ht : P.underlying t = some (.struct fs)) (hk : flatK P 6 t = some [some .i64, some .i64, some .i64]) (hval : Value.okWide P W .any base t v)
    (h : DataW.Trod enc P W 0 (fun _ => true) true t v d p) : ∃ a b c : Int, v = ag (rtc a b c) ∧ in64 a ∧ in64 b ∧ in64 c := by
  obtain ⟨cs, rfl⟩ := agg_of_struct ht hval
  obtain ⟨x, hx, h1, h2, h3⟩ := fits_rep (open_flat 6 hk h)
  exact ⟨x.1, x.2.1, x.2.2, ag_of (show cs.toList = _ from hx), h1, h2, h3⟩
end
end Go.Proofs.Ytncgponcedkihaa
