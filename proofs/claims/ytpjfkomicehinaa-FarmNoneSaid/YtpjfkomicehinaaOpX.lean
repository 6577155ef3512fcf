/- What is done to a farm, opened. -/
import Derived.Test.YtpjfkomicehinaaOpW
import Derived.Test.YtpjfkomicehinaaGn
namespace Go.Proofs.Ytpjfkomicehinaa
open Go.ChangeShapes Go.WideShapes Go.ChangeAt Go.RowKit
set_option linter.unusedSimpArgs false
set_option linter.unusedVariables false
def bkKs : List (Option IntKind) := some .i64 :: (adKinds ++ [some .u16, some .i64, none])
def shKs : List (Option IntKind) := some .i64 :: (adKinds ++ [some .u16, some .u8, some .i64, some .u64])
def faKs : List KW := (some .i64 :: some .i64 :: some .i64 :: some .i64 :: shKs).map KW.k ++ KW.r (bkKs.map KW.k) :: bkKs.map KW.k
def bkW (b : Bk) : Prop := in64 b.id ∧ b.port < 65536 ∧ in64 b.wt
section
variable {H : Type} {enc : TypeId × Value → H} {P : Program} {W : World}
theorem fits_bk {vs : List Value} (h : Fits bkKs vs) : ∃ b : Bk, vs = flat (bkC b) ∧ bkW b := by
  obtain ⟨n1, r1, rfl, a1, b1, k1⟩ := fits_i64 h
  obtain ⟨v3, v4, rfl, g3, g4⟩ := Fits.split k1
  obtain ⟨a, rfl⟩ := fits_adr g3
  obtain ⟨n3, r3, rfl, b3, k3⟩ := fits_uint rfl g4
  obtain ⟨n4, r4, rfl, a4, b4, k4⟩ := fits_i64 k3
  obtain ⟨d, r5, rfl, k5⟩ := fits_bool k4
  obtain rfl := fits_nil k5
  exact ⟨⟨n1, a, n3, n4, d⟩, by simp [flat_eq], ⟨a1, b1⟩, by simpa [IntKind.bits] using b3, a4, b4⟩
theorem fits_sh {vs : List Value} (h : Fits shKs vs) : ∃ s : Sh, vs = .int .i64 s.id :: .bool s.ad.six :: (u8s s.ad.b ++ [.int .u16 (s.port : Int), .int .u8 ((s.proto.toNat : Nat) : Int), .int .i64 s.bits, .int .u64 s.lasts]) ∧ shW s := by
  obtain ⟨n1, r1, rfl, a1, b1, k1⟩ := fits_i64 h
  obtain ⟨v3, v4, rfl, g3, g4⟩ := Fits.split k1
  obtain ⟨a, rfl⟩ := fits_adr g3
  obtain ⟨n3, r3, rfl, b3, k3⟩ := fits_uint rfl g4
  obtain ⟨c, r4, rfl, k4⟩ := fits_u8n k3
  obtain ⟨n5, r5, rfl, a5, b5, k5⟩ := fits_i64 k4
  obtain ⟨n6, r6, rfl, b6, k6⟩ := fits_uint rfl k5
  obtain rfl := fits_nil k6
  exact ⟨⟨n1, a, n3, c, n5, n6⟩, by simp [flat_eq], ⟨a1, b1⟩, by simpa [IntKind.bits] using b3⟩
theorem fits_fa {es : List Value} (h : FitsW W faKs es) : ∃ x : FA, es = flat (faC x) ∧ faW x ∧ (rdN x.v x.l.length (bks x.l)).holds W := by
  obtain ⟨v1, v2, rfl, h1, h2⟩ := FitsW.split h
  obtain ⟨n1, r1, rfl, a1, b1, k1⟩ := fits_i64 h1
  obtain ⟨n2, r2, rfl, a2, b2, k2⟩ := fits_i64 k1
  obtain ⟨n3, r3, rfl, a3, b3, k3⟩ := fits_i64 k2
  obtain ⟨n4, r4, rfl, a4, b4, k4⟩ := fits_i64 k3
  obtain ⟨s, rfl, hs⟩ := fits_sh k4
  obtain ⟨v, r, ess, rfl, hr, he, h3⟩ := FitsW.row h2
  obtain ⟨c, rfl, hc1, hc2, hc3⟩ := fits_bk h3.flat
  obtain ⟨l, rfl, hl⟩ := list_of (c := fun b => flat (bkC b)) (p := bkW) fun es hes => fits_bk (he es hes).flat
  refine ⟨⟨n1, n2, n3, n4, s, v, l, c⟩, by simp [flat_eq], ⟨⟨a1, b1⟩, ⟨a2, b2⟩, ⟨a3, b3⟩, ⟨a4, b4⟩, hs, readsW_one hr, hc2, hc1, hc3⟩, ?_⟩
  show (rdN v l.length (l.map fun b => flat (bkC b)).flatten).holds W
  rwa [List.length_map] at hr
theorem open_fa {v : Value} {d : DataW H} {p : List MemPlace} {base : Nat} {t : TypeId} {fs : Array Field} (ht : P.underlying t = some (.struct fs)) (hk : flatW P 8 t = some faKs) (hval : Value.okWide P W .any base t v)
    (h : DataW.Trod enc P W 0 (fun _ => true) true t v d p) : ∃ x : FA, v = ag (faC x) ∧ faW x ∧ (rdN x.v x.l.length (bks x.l)).holds W := by
  obtain ⟨cs, rfl⟩ := agg_of_struct ht hval
  obtain ⟨x, hx, h1⟩ := fits_fa (open_flatW 8 hk h)
  exact ⟨x, ag_of (show cs.toList = _ from hx), h1⟩
def fas (l : List FA) : List Value := (l.map fun x => flat (faC x)).flatten
theorem open_fas {v : Value} {d : DataW H} {p : List MemPlace} {base : Nat} {t e : TypeId} (ht : P.underlying t = some (.slice e)) (hk : flatW P 8 e = some faKs) (hc : P.cellsOf e = 48)
    (hval : Value.okWide P W .any base t v) (h : DataW.Trod enc P W 0 (fun _ => true) true t v d p) : ∃ l : List FA, (rdN v l.length (fas l)).holds W ∧ (∀ x ∈ l, (rdN x.v x.l.length (bks x.l)).holds W) ∧ ∀ x ∈ l, faW x := by
  obtain ⟨l, h1, h2⟩ := open_listW (q := fun x : FA => faW x ∧ (rdN x.v x.l.length (bks x.l)).holds W) faC (fun es he => fits_fa he) 8 ht hk hc (by decide) hval h
  exact ⟨l, h1, fun x hx => (h2 x hx).2, fun x hx => (h2 x hx).1⟩
end
end Go.Proofs.Ytpjfkomicehinaa
