/- What came in, opened: an argument's reading gives its shape (as separation tells it). -/
import Derived.Test.YteofjhjhaaafjaaLib
import Derived.Test.YteofjhjhaaafjaaAr
import Derived.ProofKit
import Derived.OpenShut
import Derived.ShutString
import Derived.ChangeOld
namespace Go.Proofs.Yteofjhjhaaafjaa
open Go.ChangeShapes Go.WideShapes Go.ChangeAt Go.RowKit
set_option linter.unusedSimpArgs false
set_option linter.unusedVariables false

theorem Try.own : ownKnob Try.prog.godebug = none := by kernel_rfl
theorem Try.laidOut : laidOutB Try.prog = true := by kernel_rfl

section
variable {H : Type} {enc : TypeId × Value → H} {P : Program} {W : World} {base : Nat} {v : Value} {d : DataW H} {p : List MemPlace} {t : TypeId}

theorem open_nat {k : IntKind} (ht : P.underlying t = some (.int k)) (hk : k.signed = false) (hval : Value.okWide P W .any base t v) (h : DataW.Trod enc P W 0 (fun _ => true) true t v d p) :
    ∃ n : Nat, v = .int k n ∧ n < 2 ^ k.bits := by
  obtain ⟨n, rfl, _, _, hw⟩ := open_int ht hval h
  cases k <;> simp [IntKind.signed] at hk
  · have := bounds_u8 hw; exact ⟨n.toNat, by rw [Int.toNat_of_nonneg (by omega)], by simp [IntKind.bits]; omega⟩
  · have := bounds_u16 hw; exact ⟨n.toNat, by rw [Int.toNat_of_nonneg (by omega)], by simp [IntKind.bits]; omega⟩
  · have := bounds_u32 hw; exact ⟨n.toNat, by rw [Int.toNat_of_nonneg (by omega)], by simp [IntKind.bits]; omega⟩
  · have := bounds_u64 hw; exact ⟨n.toNat, by rw [Int.toNat_of_nonneg (by omega)], by simp [IntKind.bits]; omega⟩

theorem open_i64 (ht : P.underlying t = some (.int .i64)) (hval : Value.okWide P W .any base t v) (h : DataW.Trod enc P W 0 (fun _ => true) true t v d p) :
    ∃ n : Int, v = .int .i64 n ∧ -9223372036854775808 ≤ n ∧ n ≤ 9223372036854775807 := by
  obtain ⟨n, rfl, _, _, hw⟩ := open_int ht hval h
  have := bounds_i64 hw
  exact ⟨n, rfl, by omega, by omega⟩

theorem open_boolv (ht : P.underlying t = some .bool) (hval : Value.okWide P W .any base t v) (h : DataW.Trod enc P W 0 (fun _ => true) true t v d p) : ∃ b : Bool, v = .bool b := by
  obtain ⟨b, rfl, _, _⟩ := open_bool ht hval h
  exact ⟨b, rfl⟩

theorem spot_none {w : World} {x : Addr} {u : Value} (h0 : w.cell? (x.add 0) = some u) : x.spot = none := by
  cases hs : x.spot with
  | none => rfl
  | some s =>
    simp only [Addr.add, if_true] at h0
    unfold World.cell? at h0
    split at h0
    · simp [hs] at h0
    · cases h0

theorem add_spot {x : Addr} (hsp : x.spot = none) (i : Nat) : x.add i = ⟨x.block, x.off + i, none⟩ := by
  cases x with
  | mk b o s =>
    simp only at hsp
    subst hsp
    unfold Addr.add
    split
    · rename_i h; subst h; rfl
    · rfl

theorem addr_eta {x : Addr} (hsp : x.spot = none) : x = ⟨x.block, x.off, none⟩ := by
  cases x with
  | mk b o s => simp only at hsp; subst hsp; rfl

/-- Bytes, out of a reading. -/
theorem bytes_of_trod {e : TypeId} (ht : P.underlying t = some (.slice e)) (he : P.underlying e = some (.int .u8)) (hc : P.cellsOf e = 1) {spare : Nat → Bool} (hsp : ∀ b, spare b = true) {b0 : Nat} {fuel : Nat} {cs : List Value} {x : DataW H × List MemPlace}
    (hf : DataW.trod enc P W b0 spare true fuel t cs = some x) : ∃ v l, cs = [v] ∧ SlW W v l ∧ (∀ x ∈ l, x < 256) := by
  rcases open_ints ht he hc hf with ⟨hcs, _⟩ | ⟨x, ln, c, zs, hcs, _, hl, hm, hz, _, hcell, hwz⟩
  · exact ⟨_, [], hcs, .inl (.inl ⟨rfl, rfl⟩), by simp⟩
  · rw [hsp, if_pos rfl] at hz
    have hlt : ∀ n ∈ zs, 0 ≤ n ∧ n ≤ 255 := fun n hn => by have := bounds_u8 (hwz n hn); omega
    refine ⟨_, (zs.take ln).map Int.toNat, hcs, ?_, ?_⟩
    · have hlen : ((zs.take ln).map Int.toNat).length = ln := by simp; omega
      by_cases hcap : c = 0
      · refine .inr ⟨x, ?_, List.length_eq_zero_iff.1 (by omega)⟩
        rw [hcap, show ln = 0 by omega]
      · left; right
        have hsp := spot_none (hcell 0 (by omega))
        refine ⟨x.block, x.off, c, ?_, by omega, hm, fun i hi => ?_⟩
        · rw [hlen, ← addr_eta hsp]
        · rw [hlen] at hi
          have hi' := hcell i (by omega)
          rw [← add_spot hsp, hi']
          have hiz : i < zs.length := by omega
          have := hlt zs[i] (List.getElem_mem hiz)
          simp only [Option.some.injEq, Value.int.injEq, true_and]
          rw [List.getD_eq_getElem?_getD, List.getD_eq_getElem?_getD, List.getElem?_map, List.getElem?_take, if_pos hi, List.getElem?_eq_getElem hiz]
          simp only [Option.map_some, Option.getD_some]
          omega
    · intro n hn
      rw [List.mem_map] at hn
      obtain ⟨z, hz', rfl⟩ := hn
      have := hlt z (List.mem_of_mem_take hz')
      omega

/-- Bytes that came in. -/
theorem open_bytes {e : TypeId} (ht : P.underlying t = some (.slice e)) (he : P.underlying e = some (.int .u8)) (hc : P.cellsOf e = 1)
    (hval : Value.okWide P W .any base t v) (h : DataW.Trod enc P W 0 (fun _ => true) true t v d p) : ∃ l : List Nat, SlW W v l ∧ (∀ x ∈ l, x < 256) := by
  obtain ⟨a0, len0, cap0, rfl⟩ := okWide_slice ht hval
  obtain ⟨fuel, hf⟩ := h
  obtain ⟨v', l, hcs, h1, h2⟩ := bytes_of_trod ht he hc (fun _ => rfl) hf
  simp [Value.cells] at hcs
  subst hcs
  exact ⟨l, h1, h2⟩

/-- Elements of one cell, out of a reading. -/
theorem elems_one {e : TypeId} (hc : P.cellsOf e = 1) {n : Nat} {a : Addr} {len cap : Nat} {elems : List (DataW H × List MemPlace)} {spare : Nat → Bool} {b0 : Nat} (hel : elems.length = len)
    (h : ∀ i, i < len → (W.cells? b0 (a.add (i * P.cellsOf e)) (P.cellsOf e)).bind (DataW.trod enc P W b0 spare true n e) = elems[i]?) :
    ∀ i, i < len → ∃ u y, W.cell? (a.add i) = some u ∧ DataW.trod enc P W b0 spare true n e [u] = some y := by
  intro i hi
  have h1 := h i hi
  rw [hc, Nat.mul_one, List.getElem?_eq_getElem (by omega)] at h1
  rw [Option.bind_eq_some_iff] at h1
  obtain ⟨cs, h2, h3⟩ := h1
  unfold World.cells? at h2
  split at h2
  · simp only [List.range_one, List.mapM_cons, List.mapM_nil] at h2
    cases hcell : W.cell? ((a.add i).add 0) with
    | none => rw [hcell] at h2; cases h2
    | some u =>
      rw [hcell] at h2
      cases h2
      refine ⟨u, _, ?_, h3⟩
      simpa [Addr.add] using hcell
  · cases h2

theorem open_bytes2 {e e2 : TypeId} (ht : P.underlying t = some (.slice e)) (he : P.underlying e = some (.slice e2)) (he2 : P.underlying e2 = some (.int .u8)) (hc : P.cellsOf e = 1) (hc2 : P.cellsOf e2 = 1)
    (hval : Value.okWide P W .any base t v) (h : DataW.Trod enc P W 0 (fun _ => true) true t v d p) :
    ∃ ls : List (List Nat), ∃ a n cap, v = .slice a n cap ∧ n = ls.length ∧ n ≤ cap ∧ cap ≤ maxLen ∧ (n = 0 ∨ ∃ b o, a = some ⟨b, o, none⟩ ∧ ∀ k, k < n → ∃ u, W.cell? ⟨b, o + k, none⟩ = some u ∧ SlW W u (ls.getD k [])) := by
  obtain ⟨a0, len0, cap0, rfl⟩ := okWide_slice ht hval
  obtain ⟨fuel, hf⟩ := h
  rcases DataW.trod_slice ht hf with ⟨hcs, _⟩ | ⟨a, len, cap, elems, rest, n, _, hcs, _, hb, hl, hm, hlen, hel, _⟩
  · simp [Value.cells] at hcs
    obtain ⟨rfl, rfl, rfl⟩ := hcs
    exact ⟨[], none, 0, 0, rfl, rfl, by omega, by unfold maxLen; omega, .inl rfl⟩
  · simp [Value.cells] at hcs
    obtain ⟨rfl, rfl, rfl⟩ := hcs
    have hone := elems_one (cap := cap0) hc hlen hel
    have hex : ∀ i, i < len0 → ∃ u l, W.cell? (a.add i) = some u ∧ SlW W u l := by
      intro i hi
      obtain ⟨u, y, h1, h2⟩ := hone i hi
      obtain ⟨u', l, h3, h4, _⟩ := bytes_of_trod he he2 hc2 (fun _ => rfl) h2
      cases h3
      exact ⟨u, l, h1, h4⟩
    by_cases h0 : len0 = 0
    · subst h0
      exact ⟨[], some a, 0, cap0, rfl, rfl, hl, hm, .inl rfl⟩
    · have hsp : a.spot = none := by
        obtain ⟨u, l, h1, _⟩ := hex 0 (by omega)
        exact spot_none h1
      refine ⟨(List.range len0).map fun i => if hi : i < len0 then (hex i hi).choose_spec.choose else [], some a, len0, cap0, rfl, by simp, hl, hm, .inr ⟨a.block, a.off, by rw [← addr_eta hsp], fun k hk => ?_⟩⟩
      have hsp2 := (hex k hk).choose_spec.choose_spec
      refine ⟨(hex k hk).choose, ?_, ?_⟩
      · rw [← add_spot hsp]; exact hsp2.1
      · have e1 : ((List.range len0).map fun i => if hi : i < len0 then (hex i hi).choose_spec.choose else []).getD k [] = (hex k hk).choose_spec.choose := by simp [hk]
        rw [e1]
        exact hsp2.2

end

/-! ### Values that hold integers and bools alone -/

/-- Cells of given kinds (none: a bool). -/
def Fits : List (Option IntKind) → List Value → Prop
  | [], [] => True
  | none :: ks, v :: vs => (∃ b, v = .bool b) ∧ Fits ks vs
  | some k :: ks, v :: vs => (∃ n, v = .int k n ∧ (Lit.int k n).wf = true) ∧ Fits ks vs
  | _, _ => False

theorem Fits.append : ∀ {ks ks' : List (Option IntKind)} {vs vs' : List Value}, Fits ks vs → Fits ks' vs' → Fits (ks ++ ks') (vs ++ vs')
  | [], _, [], _, _, h => h
  | none :: _, _, _ :: _, _, h, h' => ⟨h.1, Fits.append h.2 h'⟩
  | some _ :: _, _, _ :: _, _, h, h' => ⟨h.1, Fits.append h.2 h'⟩
  | [], _, _ :: _, _, h, _ => h.elim
  | none :: _, _, [], _, h, _ => h.elim
  | some _ :: _, _, [], _, h, _ => h.elim

theorem Fits.length : ∀ {ks : List (Option IntKind)} {vs : List Value}, Fits ks vs → vs.length = ks.length
  | [], [], _ => rfl
  | none :: _, _ :: _, h => by simp [Fits.length h.2]
  | some _ :: _, _ :: _, h => by simp [Fits.length h.2]
  | [], _ :: _, h => h.elim
  | none :: _, [], h => h.elim
  | some _ :: _, [], h => h.elim

/-- The kinds of a type's cells, where it holds integers and bools alone. -/
def flatK (P : Program) : Nat → TypeId → Option (List (Option IntKind))
  | 0, _ => none
  | fuel + 1, t =>
    match P.underlying t with
    | some .bool => some [none]
    | some (.int k) => some [some k]
    | some (.struct fs) => (fs.toList.foldr (fun f acc => fun off => if f.offset = off then (flatK P fuel f.type).bind fun ks => if P.cellsOf f.type = ks.length then (acc (off + ks.length)).map (ks ++ ·) else none else none) (fun off => if P.cellsOf t = off then some [] else none)) 0
    | some (.array n e) => (flatK P fuel e).bind fun ks => if P.cellsOf e = ks.length ∧ P.cellsOf t = n * ks.length then some (List.replicate n ks).flatten else none
    | _ => none

theorem mapM_each {α β : Type} {f : α → Option β} : ∀ {l : List α} {r : List β}, l.mapM f = some r → ∀ x ∈ l, ∃ y, f x = some y
  | [], _, _, _, h => nomatch h
  | a :: l, r, h, x, hx => by
    rw [List.mapM_cons] at h
    cases ha : f a with
    | none => rw [ha] at h; cases h
    | some y =>
      rw [ha] at h
      cases hl : l.mapM f with
      | none => rw [hl] at h; cases h
      | some ys =>
        rcases List.mem_cons.1 hx with rfl | hx
        · exact ⟨y, ha⟩
        · exact mapM_each hl x hx

section
variable {H : Type} {enc : TypeId × Value → H} {P : Program} {W : World}

theorem flat_fields {spare : Nat → Bool} {held : Bool} {base fuel f2 : Nat} (ih : ∀ t ks cs x, flatK P fuel t = some ks → DataW.trod enc P W base spare held f2 t cs = some x → Fits ks cs) (tot : Nat) (cs : List Value) :
    ∀ (fs : List Field) (off : Nat) (ks : List (Option IntKind)),
      (fs.foldr (fun f acc => fun off => if f.offset = off then (flatK P fuel f.type).bind fun ks => if P.cellsOf f.type = ks.length then (acc (off + ks.length)).map (ks ++ ·) else none else none) (fun off => if tot = off then some [] else none)) off = some ks →
      (∀ f ∈ fs, ∃ y, DataW.trod enc P W base spare held f2 f.type ((cs.drop f.offset).take (P.cellsOf f.type)) = some y) → cs.length = tot → Fits ks (cs.drop off)
  | [], off, ks, h, _, hl => by
    simp only [List.foldr_nil] at h
    split at h
    · cases h
      rw [List.drop_eq_nil_of_le (by omega)]
      trivial
    · cases h
  | f :: fs, off, ks, h, hall, hl => by
    simp only [List.foldr_cons] at h
    split at h
    · rename_i hoff
      cases hk : flatK P fuel f.type with
      | none => rw [hk] at h; cases h
      | some k1 =>
        rw [hk] at h
        simp only [Option.bind_some] at h
        split at h
        · rename_i hc
          rw [Option.map_eq_some_iff] at h
          obtain ⟨k2, h2, rfl⟩ := h
          obtain ⟨y, hy⟩ := hall f (List.mem_cons_self ..)
          have f1 := ih _ _ _ _ hk hy
          have r := flat_fields ih tot cs fs (off + k1.length) k2 h2 (fun g hg => hall g (List.mem_cons_of_mem _ hg)) hl
          rw [hoff, hc] at f1
          have e : cs.drop off = (cs.drop off).take k1.length ++ cs.drop (off + k1.length) := by
            rw [← List.drop_drop, List.take_append_drop]
          rw [e]
          exact f1.append r
        · cases h
    · cases h

theorem flat_cells {spare : Nat → Bool} {held : Bool} {base : Nat} : ∀ (fuel : Nat) (f2 : Nat) (t : TypeId) (ks : List (Option IntKind)) (cs : List Value) (x : DataW H × List MemPlace),
    flatK P fuel t = some ks → DataW.trod enc P W base spare held f2 t cs = some x → Fits ks cs
  | 0, _, _, _, _, _, h, _ => nomatch h
  | fuel + 1, 0, _, _, _, _, _, h => nomatch h
  | fuel + 1, f2 + 1, t, ks, cs, x, h, hx => by
    unfold flatK at h
    cases ht : P.underlying t with
    | none => rw [ht] at h; cases h
    | some d =>
      rw [ht] at h
      cases d with
      | bool =>
        cases h
        unfold DataW.trod at hx
        rw [ht] at hx
        split at hx <;> simp_all [Fits]
      | int k =>
        cases h
        obtain ⟨n, hc, _, hw⟩ := DataW.trod_int ht hx
        subst hc
        exact ⟨⟨n, rfl, hw⟩, trivial⟩
      | struct fs =>
        simp only at h
        unfold DataW.trod at hx
        rw [ht] at hx
        simp only at hx
        split at hx
        · rename_i hlen
          rw [Option.map_eq_some_iff] at hx
          obtain ⟨ys, hys, _⟩ := hx
          have := flat_fields (fun t ks cs x => flat_cells fuel f2 t ks cs x) (P.cellsOf t) cs fs.toList 0 ks h (fun f hf => mapM_each hys f hf) hlen
          simpa using this
        · cases hx
      | array n e =>
        simp only at h
        unfold DataW.trod at hx
        rw [ht] at hx
        simp only at hx
        split at hx
        · rename_i hlen
          rw [Option.map_eq_some_iff] at hx
          obtain ⟨ys, hys, _⟩ := hx
          cases hk : flatK P fuel e with
          | none => rw [hk] at h; cases h
          | some k1 =>
            rw [hk] at h
            simp only [Option.bind_some] at h
            split at h
            · rename_i hc
              cases h
              rw [hc.2] at hlen
              rw [hc.1] at hys
              have each : ∀ i, i < n → Fits k1 ((cs.drop (i * k1.length)).take k1.length) := by
                intro i hi
                obtain ⟨y, hy⟩ := mapM_each hys i (by simpa using hi)
                exact flat_cells fuel f2 _ _ _ _ hk hy
              have all : ∀ m, m ≤ n → Fits (List.replicate m k1).flatten (cs.take (m * k1.length)) := by
                intro m
                induction m with
                | zero => intro _; simp [Fits]
                | succ m ihm =>
                  intro hm
                  rw [List.replicate_succ', List.flatten_append, Nat.succ_mul, List.take_add]
                  refine (ihm (by omega)).append ?_
                  simpa using each m (by omega)
              have := all n (Nat.le_refl _)
              rwa [List.take_of_length_le (by omega)] at this
            · cases h
        · cases hx
      | _ => cases h

/-- A value of integers and bools alone that came in. -/
theorem open_flat {v : Value} {d : DataW H} {p : List MemPlace} {t : TypeId} {ks : List (Option IntKind)} (fuel : Nat) (hk : flatK P fuel t = some ks)
    (h : DataW.Trod enc P W 0 (fun _ => true) true t v d p) : Fits ks v.cells.toList := by
  obtain ⟨f2, hf⟩ := h
  exact flat_cells fuel f2 t ks _ _ hk hf

theorem agg_of_array {v : Value} {base : Nat} {t e : TypeId} {n : Nat} (ht : P.underlying t = some (.array n e)) (hval : Value.okWide P W .any base t v) : ∃ cs, v = .agg cs := by
  unfold Value.okWide at hval
  rw [ht] at hval
  obtain ⟨cs, h, _⟩ := hval
  exact ⟨cs, h⟩
theorem agg_of_struct {v : Value} {base : Nat} {t : TypeId} {fs : Array Field} (ht : P.underlying t = some (.struct fs)) (hval : Value.okWide P W .any base t v) : ∃ cs, v = .agg cs := by
  unfold Value.okWide at hval
  rw [ht] at hval
  obtain ⟨cs, h, _⟩ := hval
  exact ⟨cs, h⟩

theorem fits_u8 : ∀ {n : Nat} {vs : List Value}, Fits (List.replicate n (some .u8)) vs → ∃ l : List Nat, vs = bvs l ∧ l.length = n ∧ ∀ x ∈ l, x < 256
  | 0, [], _ => ⟨[], rfl, rfl, by simp⟩
  | 0, _ :: _, h => h.elim
  | n + 1, [], h => h.elim
  | n + 1, v :: vs, h => by
    obtain ⟨⟨m, rfl, hw⟩, h2⟩ := h
    obtain ⟨l, rfl, hl, hb⟩ := fits_u8 h2
    have := bounds_u8 hw
    refine ⟨m.toNat :: l, ?_, by simp [hl], ?_⟩
    · simp only [bvs, List.map_cons]
      rw [Int.toNat_of_nonneg (by omega)]
    · intro x hx
      rcases List.mem_cons.1 hx with rfl | hx
      · omega
      · exact hb x hx

theorem open_a2u8 {v : Value} {d : DataW H} {p : List MemPlace} {base : Nat} {t e : TypeId} (ht : P.underlying t = some (.array 2 e)) (hk : flatK P 3 t = some (List.replicate 2 (some .u8))) (hval : Value.okWide P W .any base t v)
    (h : DataW.Trod enc P W 0 (fun _ => true) true t v d p) : ∃ x y : Nat, v = .agg #[.int .u8 x, .int .u8 y] ∧ x < 256 ∧ y < 256 := by
  obtain ⟨cs, rfl⟩ := agg_of_array ht hval
  obtain ⟨l, hl, hn, hb⟩ := fits_u8 (open_flat 3 hk h)
  match l, hn with
  | [x, y], _ =>
    refine ⟨x, y, ?_, hb x (by simp), hb y (by simp)⟩
    have : cs.toList = [.int .u8 (x : Int), .int .u8 (y : Int)] := hl
    rw [← Array.toArray_toList (xs := cs), this]

theorem Fits.split : ∀ {ks ks' : List (Option IntKind)} {vs : List Value}, Fits (ks ++ ks') vs → ∃ v1 v2, vs = v1 ++ v2 ∧ Fits ks v1 ∧ Fits ks' v2
  | [], _, vs, h => ⟨[], vs, rfl, trivial, h⟩
  | none :: ks, ks', v :: vs, h => by
    obtain ⟨v1, v2, rfl, h1, h2⟩ := Fits.split h.2
    exact ⟨v :: v1, v2, rfl, ⟨h.1, h1⟩, h2⟩
  | some k :: ks, ks', v :: vs, h => by
    obtain ⟨v1, v2, rfl, h1, h2⟩ := Fits.split h.2
    exact ⟨v :: v1, v2, rfl, ⟨h.1, h1⟩, h2⟩
  | none :: _, _, [], h => h.elim
  | some _ :: _, _, [], h => h.elim

theorem fits_int {k : IntKind} : ∀ {vs : List Value}, Fits [some k] vs → ∃ n, vs = [.int k n] ∧ (Lit.int k n).wf = true
  | [_], ⟨⟨n, rfl, hw⟩, _⟩ => ⟨n, rfl, hw⟩

/-- The kinds of an address's cells. -/
def adKinds : List (Option IntKind) := none :: List.replicate 16 (some .u8)
theorem fits_uint {k : IntKind} (hk : k.signed = false) {ks : List (Option IntKind)} : ∀ {vs : List Value}, Fits (some k :: ks) vs → ∃ (n : Nat) (r : List Value), vs = .int k (n : Int) :: r ∧ n < 2 ^ k.bits ∧ Fits ks r
  | v :: r, h => by
    obtain ⟨⟨n, rfl, hw⟩, h⟩ := h
    cases k <;> simp [IntKind.signed] at hk
    · have := bounds_u8 hw; exact ⟨n.toNat, r, by rw [Int.toNat_of_nonneg (by omega)], by simp [IntKind.bits]; omega, h⟩
    · have := bounds_u16 hw; exact ⟨n.toNat, r, by rw [Int.toNat_of_nonneg (by omega)], by simp [IntKind.bits]; omega, h⟩
    · have := bounds_u32 hw; exact ⟨n.toNat, r, by rw [Int.toNat_of_nonneg (by omega)], by simp [IntKind.bits]; omega, h⟩
    · have := bounds_u64 hw; exact ⟨n.toNat, r, by rw [Int.toNat_of_nonneg (by omega)], by simp [IntKind.bits]; omega, h⟩

theorem fits_nil : ∀ {vs : List Value}, Fits [] vs → vs = []
  | [], _ => rfl

/-- The kinds of a flow's cells. -/
def flKinds : List (Option IntKind) := adKinds ++ (adKinds ++ [some .u16, some .u16, some .u8])

theorem fits_bytes {n : Nat} {vs : List Value} (h : Fits (List.replicate n (some .u8)) vs) : ∃ l : List UInt8, vs = u8s l ∧ l.length = n := by
  obtain ⟨l, rfl, hl, hb⟩ := fits_u8 h
  refine ⟨l.map UInt8.ofNat, ?_, by simp [hl]⟩
  simp only [bvs, u8s, List.map_map]
  apply List.map_congr_left
  intro x hx
  have := hb x hx
  simp only [Function.comp, u8_of]
  rw [Nat.mod_eq_of_lt this]
theorem fits_adr {vs : List Value} (h : Fits adKinds vs) : ∃ a : Adr, vs = flat (adc a) := by
  cases vs with
  | nil => exact h.elim
  | cons v vs =>
    obtain ⟨⟨b, rfl⟩, h2⟩ := h
    obtain ⟨l, rfl, hl⟩ := fits_bytes h2
    exact ⟨⟨b, l, hl⟩, by simp [flat_eq]⟩
theorem fits_i64 {ks : List (Option IntKind)} : ∀ {vs : List Value}, Fits (some .i64 :: ks) vs → ∃ (n : Int) (r : List Value), vs = .int .i64 n :: r ∧ -9223372036854775808 ≤ n ∧ n ≤ 9223372036854775807 ∧ Fits ks r
  | v :: r, h => by
    obtain ⟨⟨n, rfl, hw⟩, h⟩ := h
    have := bounds_i64 hw
    exact ⟨n, r, rfl, by omega, by omega, h⟩
theorem fits_bool {ks : List (Option IntKind)} : ∀ {vs : List Value}, Fits (none :: ks) vs → ∃ (b : Bool) (r : List Value), vs = .bool b :: r ∧ Fits ks r
  | v :: r, h => by
    obtain ⟨⟨b, rfl⟩, h⟩ := h
    exact ⟨b, r, rfl, h⟩
theorem open_rb {v : Value} {d : DataW H} {p : List MemPlace} {base : Nat} {t : TypeId} {e : TypeId} (ht : P.underlying t = some (.slice e)) (he : P.underlying e = some (.int .u8)) (hc : P.cellsOf e = 1)
    (hval : Value.okWide P W .any base t v) (h : DataW.Trod enc P W 0 (fun _ => true) true t v d p) : ∃ l : List UInt8, (rb v l).holds W := by
  obtain ⟨l, h1, h2⟩ := open_bytes ht he hc hval h
  refine ⟨l.map UInt8.ofNat, ?_⟩
  have hu : ∀ i, i < l.length → (u8s (l.map UInt8.ofNat))[i]? = some (.int .u8 (l.getD i 0 : Nat)) := fun i hi => by
    rw [u8s_get (by simpa using hi)]
    have := h2 (l.getD i 0) (by rw [List.getD_eq_getElem?_getD, List.getElem?_eq_getElem hi]; exact List.getElem_mem hi)
    simp only [List.getD_eq_getElem?_getD, List.getElem?_map, List.getElem?_eq_getElem hi, Option.map_some, Option.getD_some] at this ⊢
    rw [u8_of, Nat.mod_eq_of_lt this]
  show Reads W v _ _
  rcases h1 with (⟨rfl, rfl⟩ | ⟨b, o, cap, rfl, g1, g2, g3⟩) | ⟨ad, rfl, rfl⟩
  · exact .inl ⟨rfl, rfl, rfl⟩
  · refine .inr ⟨⟨b, o, none⟩, cap, by rw [List.length_map], by simpa using g1, g2, fun i u hi => ?_⟩
    have hlt : i < l.length := by have := (List.getElem?_eq_some_iff.1 hi).1; simpa using this
    rw [hu i hlt] at hi
    cases hi
    rw [add_mk]
    exact g3 i hlt
  · exact .inr ⟨ad, 0, rfl, by simp, by simp [maxLen], fun i u hi => by simp [u8s] at hi⟩
theorem ag_of {cs : Array Value} {c : Ch} (h : cs.toList = flat c) : Value.agg cs = ag c := by
  unfold ag; rw [← h, Array.toArray_toList]
/-- A law, out of its contract. -/
theorem law_of {f : FuncId} {args : Array Value} {c : Value} {Γ : List Asn} (h : Triple P f args Γ (RVal c)) (ho : ∀ A, A ∈ Γ → A.own = false) (hw : Holds Γ W) : Calls P f args W fun e W' => e = .returned c ∧ Ext W W' := by
  refine (h W hw ?_).mono ?_
  · clear hw h
    induction Γ with
    | nil => exact .nil
    | cons A Γ ih =>
      refine .cons (fun B hB hor => ?_) (ih fun B hB => ho B (List.mem_cons_of_mem _ hB))
      rw [ho A (List.mem_cons_self ..), ho B (List.mem_cons_of_mem _ hB)] at hor
      simp at hor
  · rintro e W' ⟨v, Γ', rfl, ⟨rfl, rfl⟩, hp⟩
    refine ⟨rfl, hp.mod.os, hp.mod.tape, hp.mod.output, hp.mod.size, fun g hg => hp.mod.block g hg ?_⟩
    rintro ⟨A, hA, hao, _⟩
    rw [ho A hA] at hao
    cases hao
theorem hold0 : Holds [] W := fun _ h => by cases h
theorem hold1 {A : Asn} {Γ : List Asn} (h : A.holds W) (k : Holds Γ W) : Holds (A :: Γ) W := fun B hB => by
  rcases List.mem_cons.1 hB with rfl | hB
  · exact h
  · exact k B hB

theorem open_adr {v : Value} {d : DataW H} {p : List MemPlace} {base : Nat} {t : TypeId} {fs : Array Field} (ht : P.underlying t = some (.struct fs)) (hk : flatK P 6 t = some adKinds) (hval : Value.okWide P W .any base t v)
    (h : DataW.Trod enc P W 0 (fun _ => true) true t v d p) : ∃ a : Adr, v = ag (adc a) := by
  obtain ⟨cs, rfl⟩ := agg_of_struct ht hval
  obtain ⟨a, ha⟩ := fits_adr (open_flat 6 hk h)
  exact ⟨a, ag_of ha⟩

theorem open_u8 {v : Value} {d : DataW H} {p : List MemPlace} {base : Nat} {t : TypeId} (ht : P.underlying t = some (.int .u8)) (hval : Value.okWide P W .any base t v) (h : DataW.Trod enc P W 0 (fun _ => true) true t v d p) : ∃ c : UInt8, v = .int .u8 ((c.toNat : Nat) : Int) := by
  obtain ⟨n, rfl, hn⟩ := open_nat ht rfl hval h
  refine ⟨UInt8.ofNat n, ?_⟩
  rw [u8_of, Nat.mod_eq_of_lt (by simpa [IntKind.bits] using hn)]
theorem fits_u8n {ks : List (Option IntKind)} {vs : List Value} (h : Fits (some .u8 :: ks) vs) : ∃ (c : UInt8) (r : List Value), vs = .int .u8 ((c.toNat : Nat) : Int) :: r ∧ Fits ks r := by
  obtain ⟨n, r, rfl, hn, h⟩ := fits_uint rfl h
  exact ⟨UInt8.ofNat n, r, by rw [u8_of, Nat.mod_eq_of_lt (by simpa [IntKind.bits] using hn)], h⟩

end

end Go.Proofs.Yteofjhjhaaafjaa
