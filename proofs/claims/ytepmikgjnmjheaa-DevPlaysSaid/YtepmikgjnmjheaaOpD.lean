/- What is done to a device, opened. -/
import Derived.Test.YtepmikgjnmjheaaOpV
import Derived.Test.YtepmikgjnmjheaaDa
namespace Go.Proofs.Ytepmikgjnmjheaa
open Go.ChangeShapes Go.WideShapes Go.ChangeAt Go.RowKit
set_option linter.unusedSimpArgs false
set_option linter.unusedVariables false
section
variable {H : Type} {enc : TypeId × Value → H} {P : Program} {W : World}
theorem reads_one {v : Value} {n : Nat} {xs : List Value} {w : World} (h : (rdN v n xs).holds w) : v.oneCell' = true := by
  rcases h with ⟨rfl, _⟩ | ⟨a, c, rfl, _⟩ <;> rfl
theorem fitsV_i64 {ks : List KV} : ∀ {vs : List Value}, FitsV W (.k (some .i64) :: ks) vs → ∃ (n : Int) (r : List Value), vs = .int .i64 n :: r ∧ in64 n ∧ FitsV W ks r
  | v :: r, h => by
    obtain ⟨⟨n, rfl, hw⟩, h⟩ := h
    have := bounds_i64 hw
    exact ⟨n, r, rfl, ⟨by omega, by omega⟩, h⟩
theorem fitsV_u8 {ks : List KV} : ∀ {vs : List Value}, FitsV W (.k (some .u8) :: ks) vs → ∃ (b : UInt8) (r : List Value), (vs = .int .u8 ((b.toNat : Nat) : Int) :: r) ∧ FitsV W ks r
  | v :: r, h => by
    obtain ⟨⟨n, rfl, hw⟩, h⟩ := h
    have := bounds_u8 hw
    have hb : (((UInt8.ofNat n.toNat).toNat : Nat) : Int) = n := by
      have h3 : (UInt8.ofNat n.toNat).toNat = n.toNat % 256 := by simp
      rw [h3]
      omega
    exact ⟨UInt8.ofNat n.toNat, r, by rw [hb], h⟩
theorem fitsV_s {k : IntKind} {ks : List KV} : ∀ {vs : List Value}, FitsV W (.s k :: ks) vs → ∃ (v : Value) (r : List Value), vs = v :: r ∧ ∃ xs : List Int, (rdN v xs.length (xs.map (Value.int k))).holds W ∧ (∀ n ∈ xs, (Lit.int k n).wf = true) ∧ FitsV W ks r
  | v :: r, h => by
    obtain ⟨⟨xs, h1, h2⟩, h⟩ := h
    exact ⟨v, r, rfl, xs, h1, h2, h⟩
theorem fitsV_nil : ∀ {vs : List Value}, FitsV W [] vs → vs = []
  | [], _ => rfl
theorem fits_da {es : List Value} (h : FitsV W [.k (some .i64), .k (some .i64), .k (some .i64), .k (some .u8), .s .i64] es) : ∃ x : DA, es = flat (daC x) ∧ daW x ∧ (rdN x.lv (intsV x.l).length (intsV x.l)).holds W := by
  obtain ⟨k, r1, rfl, b1, i1⟩ := fitsV_i64 h
  obtain ⟨s, r2, rfl, b2, i2⟩ := fitsV_i64 i1
  obtain ⟨a, r3, rfl, b3, i3⟩ := fitsV_i64 i2
  obtain ⟨b, r4, rfl, i4⟩ := fitsV_u8 i3
  obtain ⟨lv, r5, rfl, xs, h5, h6, i5⟩ := fitsV_s i4
  obtain rfl := fitsV_nil i5
  refine ⟨⟨k, s, a, b, lv, xs⟩, rfl, ⟨b1, b2, b3, fun y hy => ?_, reads_one h5⟩, ?_⟩
  · have := bounds_i64 (h6 y hy)
    exact ⟨by omega, by omega⟩
  · show (rdN lv (intsV xs).length (xs.map (Value.int .i64))).holds W
    rw [intsV_len]
    exact h5
theorem open_da {v : Value} {d : DataW H} {p : List MemPlace} {base : Nat} {t : TypeId} {fs : Array Field} (ht : P.underlying t = some (.struct fs)) (hk : flatV P 6 t = some [.k (some .i64), .k (some .i64), .k (some .i64), .k (some .u8), .s .i64]) (hval : Value.okWide P W .any base t v)
    (h : DataW.Trod enc P W 0 (fun _ => true) true t v d p) : ∃ x : DA, v = ag (daC x) ∧ daW x := by
  obtain ⟨cs, rfl⟩ := agg_of_struct ht hval
  obtain ⟨x, hx, h1, _⟩ := fits_da (open_flatV 6 hk h)
  exact ⟨x, ag_of (show cs.toList = _ from hx), h1⟩
theorem rds_of {l : List DA} (h : ∀ x ∈ l, daW x ∧ (rdN x.lv (intsV x.l).length (intsV x.l)).holds W) : (rds (dals l)).holds W := by
  intro r hr
  obtain ⟨x, hx, rfl⟩ := List.mem_map.1 hr
  exact (h x hx).2
theorem open_das {v : Value} {d : DataW H} {p : List MemPlace} {base : Nat} {t e : TypeId} (ht : P.underlying t = some (.slice e)) (hk : flatV P 6 e = some [.k (some .i64), .k (some .i64), .k (some .i64), .k (some .u8), .s .i64]) (hc : P.cellsOf e = 5)
    (hval : Value.okWide P W .any base t v) (h : DataW.Trod enc P W 0 (fun _ => true) true t v d p) : ∃ l : List DA, (rdN v l.length (das l)).holds W ∧ (rds (dals l)).holds W ∧ ∀ x ∈ l, daW x := by
  obtain ⟨l, h1, h2⟩ := open_listV (q := fun x : DA => daW x ∧ (rdN x.lv (intsV x.l).length (intsV x.l)).holds W) daC (fun es he => fits_da he) 6 ht hk hc (by decide) hval h
  exact ⟨l, h1, rds_of h2, fun x hx => (h2 x hx).1⟩
theorem open_bts {v : Value} {d : DataW H} {p : List MemPlace} {base : Nat} {t e : TypeId} (ht : P.underlying t = some (.slice e)) (he : P.underlying e = some (.int .u8)) (hc : P.cellsOf e = 1) (hval : Value.okWide P W .any base t v)
    (h : DataW.Trod enc P W 0 (fun _ => true) true t v d p) : ∃ l : List UInt8, (rb v l).holds W := by
  obtain ⟨f2, hf⟩ := h
  obtain ⟨a0, len0, cap0, rfl⟩ := okWide_slice ht hval
  obtain ⟨v2, hv2, xs, h1, h2⟩ := flatV_ints ht he hc hf
  have hv : v2 = .slice a0 len0 cap0 := by simpa [Value.cells] using hv2.symm
  subst hv
  refine ⟨xs.map fun n => UInt8.ofNat n.toNat, ?_⟩
  have e1 : u8s (xs.map fun n => UInt8.ofNat n.toNat) = xs.map (Value.int .u8) := by
    unfold u8s
    rw [List.map_map]
    refine List.map_congr_left fun n hn => ?_
    have := bounds_u8 (h2 n hn)
    show Value.int .u8 (((UInt8.ofNat n.toNat).toNat : Nat) : Int) = _
    have h3 : (UInt8.ofNat n.toNat).toNat = n.toNat % 256 := by simp
    rw [h3]
    congr 1
    omega
  show (rdN _ (xs.map fun n => UInt8.ofNat n.toNat).length _).holds W
  rw [e1, List.length_map]
  exact h1
end
end Go.Proofs.Ytepmikgjnmjheaa
