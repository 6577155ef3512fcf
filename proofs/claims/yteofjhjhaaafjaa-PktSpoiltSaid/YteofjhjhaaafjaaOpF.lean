/- Flows, what packets are built of, pairs that came in, opened. -/
import Derived.Test.YteofjhjhaaafjaaOp
import Derived.Test.YteofjhjhaaafjaaPk
namespace Go.Proofs.Yteofjhjhaaafjaa
open Go.ChangeShapes Go.WideShapes Go.ChangeAt Go.RowKit
set_option linter.unusedSimpArgs false
set_option linter.unusedVariables false
section
variable {H : Type} {enc : TypeId × Value → H} {P : Program} {W : World}
theorem fits_fl {ks : List (Option IntKind)} {vs : List Value} (h : Fits (adKinds ++ (adKinds ++ (some .u16 :: some .u16 :: some .u8 :: ks))) vs) : ∃ (x : Fl) (r : List Value), vs = flat (flc x) ++ r ∧ x.sp < 65536 ∧ x.dp < 65536 ∧ Fits ks r := by
  obtain ⟨v1, v2, rfl, g1, g2⟩ := Fits.split h
  obtain ⟨a, rfl⟩ := fits_adr g1
  obtain ⟨v3, v4, rfl, g3, g4⟩ := Fits.split g2
  obtain ⟨b, rfl⟩ := fits_adr g3
  obtain ⟨n1, r1, rfl, b1, k1⟩ := fits_uint rfl g4
  obtain ⟨n2, r2, rfl, b2, k2⟩ := fits_uint rfl k1
  obtain ⟨c, r3, rfl, k3⟩ := fits_u8n k2
  exact ⟨⟨a, b, n1, n2, c⟩, r3, by simp [flat_eq], by simpa [IntKind.bits] using b1, by simpa [IntKind.bits] using b2, k3⟩
theorem open_fl {v : Value} {d : DataW H} {p : List MemPlace} {base : Nat} {t : TypeId} {fs : Array Field} (ht : P.underlying t = some (.struct fs)) (hk : flatK P 6 t = some (adKinds ++ (adKinds ++ (some .u16 :: some .u16 :: some .u8 :: [])))) (hval : Value.okWide P W .any base t v)
    (h : DataW.Trod enc P W 0 (fun _ => true) true t v d p) : ∃ x : Fl, v = ag (flc x) ∧ x.sp < 65536 ∧ x.dp < 65536 := by
  obtain ⟨cs, rfl⟩ := agg_of_struct ht hval
  obtain ⟨x, r, hx, h1, h2, hr⟩ := fits_fl (open_flat 6 hk h)
  obtain rfl := fits_nil hr
  exact ⟨x, ag_of (by rw [show cs.toList = _ from hx, List.append_nil]), h1, h2⟩
theorem open_built {v : Value} {d : DataW H} {p : List MemPlace} {base : Nat} {t : TypeId} {fs : Array Field} (ht : P.underlying t = some (.struct fs)) (hk : flatK P 6 t = some (adKinds ++ (adKinds ++ (some .u16 :: some .u16 :: some .u8 :: [some .u8, some .u8])))) (hval : Value.okWide P W .any base t v)
    (h : DataW.Trod enc P W 0 (fun _ => true) true t v d p) : ∃ (x : Fl) (c e : UInt8), v = ag (flc x ++ [(1, [.int .u8 ((c.toNat : Nat) : Int)]), (1, [.int .u8 ((e.toNat : Nat) : Int)])]) ∧ x.sp < 65536 ∧ x.dp < 65536 := by
  obtain ⟨cs, rfl⟩ := agg_of_struct ht hval
  obtain ⟨x, r, hx, h1, h2, hr⟩ := fits_fl (open_flat 6 hk h)
  obtain ⟨c, r1, rfl, k1⟩ := fits_u8n hr
  obtain ⟨e, r2, rfl, k2⟩ := fits_u8n k1
  obtain rfl := fits_nil k2
  exact ⟨x, c, e, ag_of (by rw [show cs.toList = _ from hx]; simp [flat_eq]), h1, h2⟩
theorem open_two16 {v : Value} {d : DataW H} {p : List MemPlace} {base : Nat} {t e : TypeId} (ht : P.underlying t = some (.array 2 e)) (hk : flatK P 3 t = some [some .u16, some .u16]) (hval : Value.okWide P W .any base t v)
    (h : DataW.Trod enc P W 0 (fun _ => true) true t v d p) : ∃ m n : Nat, v = ag [(1, [.int .u16 (m : Int)]), (1, [.int .u16 (n : Int)])] ∧ m < 65536 ∧ n < 65536 := by
  obtain ⟨cs, rfl⟩ := agg_of_array ht hval
  have hf : Fits [some .u16, some .u16] cs.toList := open_flat 3 hk h
  obtain ⟨n1, r1, e1, b1, k1⟩ := fits_uint rfl hf
  obtain ⟨n2, r2, rfl, b2, k2⟩ := fits_uint rfl k1
  obtain rfl := fits_nil k2
  exact ⟨n1, n2, ag_of (by rw [e1]; simp [flat_eq]), by simpa [IntKind.bits] using b1, by simpa [IntKind.bits] using b2⟩
end
end Go.Proofs.Yteofjhjhaaafjaa
