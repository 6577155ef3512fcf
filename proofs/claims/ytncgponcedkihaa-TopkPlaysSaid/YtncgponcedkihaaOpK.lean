/- What is asked of counts, opened. -/
import Derived.Test.YtncgponcedkihaaOpL
namespace Go.Proofs.Ytncgponcedkihaa
open Go.ChangeShapes Go.WideShapes Go.ChangeAt Go.RowKit
set_option linter.unusedSimpArgs false
set_option linter.unusedVariables false
section
variable {H : Type} {enc : TypeId × Value → H} {P : Program} {W : World}
theorem fits_ask {es : List Value} (h : Fits [some .i64, some .u64] es) : ∃ x : Int × Int, es = flat ([(1, [.int .i64 x.1]), (1, [.int .u64 x.2])] : Ch) ∧ in64 x.1 ∧ 0 ≤ x.2 ∧ x.2 < 18446744073709551616 := by
  obtain ⟨n1, r1, rfl, a1, b1, k1⟩ := fits_i64 h
  obtain ⟨n2, r2, rfl, b2, k2⟩ := fits_uint rfl k1
  obtain rfl := fits_nil k2
  refine ⟨(n1, n2), rfl, ⟨a1, b1⟩, by dsimp only; omega, ?_⟩
  simp only [IntKind.bits] at b2
  dsimp only; omega
theorem open_ask {v : Value} {d : DataW H} {p : List MemPlace} {base : Nat} {t : TypeId} {fs : Array Field} (ht : P.underlying t = some (.struct fs)) (hk : flatK P 6 t = some [some .i64, some .u64]) (hval : Value.okWide P W .any base t v)
    (h : DataW.Trod enc P W 0 (fun _ => true) true t v d p) : ∃ a b : Int, v = ag [(1, [.int .i64 a]), (1, [.int .u64 b])] ∧ in64 a ∧ 0 ≤ b ∧ b < 18446744073709551616 := by
  obtain ⟨cs, rfl⟩ := agg_of_struct ht hval
  obtain ⟨x, hx, h1, h2, h3⟩ := fits_ask (open_flat 6 hk h)
  exact ⟨x.1, x.2, ag_of (show cs.toList = _ from hx), h1, h2, h3⟩
end
end Go.Proofs.Ytncgponcedkihaa
