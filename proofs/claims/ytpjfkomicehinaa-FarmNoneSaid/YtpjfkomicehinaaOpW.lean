/- What came in and holds slices of anything within, opened. -/
import Derived.Test.YtpjfkomicehinaaOpL
namespace Go.Proofs.Ytpjfkomicehinaa
open Go.ChangeShapes Go.WideShapes Go.ChangeAt Go.RowKit
set_option linter.unusedSimpArgs false
set_option linter.unusedVariables false
/-- The kind of a cell: a bool, an integer, or a slice. -/
inductive KW where
  | k (o : Option IntKind)
  | r (ks : List KW)
inductive FitsW (W : World) : List KW → List Value → Prop
  | nil : FitsW W [] []
  | b {ks : List KW} {vs : List Value} (b : Bool) (h : FitsW W ks vs) : FitsW W (.k none :: ks) (.bool b :: vs)
  | i {k : IntKind} {n : Int} {ks : List KW} {vs : List Value} (hn : (Lit.int k n).wf = true) (h : FitsW W ks vs) : FitsW W (.k (some k) :: ks) (.int k n :: vs)
  | r {v : Value} {ks' ks : List KW} {vs : List Value} {ess : List (List Value)} (hr : (rdN v ess.length ess.flatten).holds W) (he : ∀ es ∈ ess, FitsW W ks' es) (h : FitsW W ks vs) : FitsW W (.r ks' :: ks) (v :: vs)
theorem FitsW.append {W : World} {ks ks' : List KW} {vs vs' : List Value} (h : FitsW W ks vs) (h' : FitsW W ks' vs') : FitsW W (ks ++ ks') (vs ++ vs') := by
  induction h with
  | nil => exact h'
  | b b _ ih => exact .b b ih
  | i hn _ ih => exact .i hn ih
  | r hr he _ _ ih => exact .r hr he ih
theorem FitsW.length {W : World} {ks : List KW} {vs : List Value} (h : FitsW W ks vs) : vs.length = ks.length := by
  induction h with
  | nil => rfl
  | b b _ ih => simp [ih]
  | i hn _ ih => simp [ih]
  | r hr he _ _ ih => simp [ih]
theorem FitsW.of {W : World} : ∀ {ks : List (Option IntKind)} {vs : List Value}, Fits ks vs → FitsW W (ks.map KW.k) vs
  | [], [], _ => .nil
  | none :: _, _ :: _, h => by
    obtain ⟨⟨b, rfl⟩, h⟩ := h
    exact .b b (FitsW.of h)
  | some _ :: _, _ :: _, h => by
    obtain ⟨⟨n, rfl, hn⟩, h⟩ := h
    exact .i hn (FitsW.of h)
  | [], _ :: _, h => h.elim
  | none :: _, [], h => h.elim
  | some _ :: _, [], h => h.elim
/-- The flat cells ahead. -/
theorem FitsW.split {W : World} : ∀ {ks : List (Option IntKind)} {ks' : List KW} {vs : List Value}, FitsW W (ks.map KW.k ++ ks') vs → ∃ v1 v2, vs = v1 ++ v2 ∧ Fits ks v1 ∧ FitsW W ks' v2
  | [], ks', vs, h => ⟨[], vs, rfl, trivial, h⟩
  | none :: ks, ks', vs, h => by
    cases h with
    | b b h =>
      obtain ⟨v1, v2, rfl, h1, h2⟩ := FitsW.split h
      exact ⟨_ :: v1, v2, rfl, ⟨⟨b, rfl⟩, h1⟩, h2⟩
  | some k :: ks, ks', vs, h => by
    cases h with
    | i hn h =>
      obtain ⟨v1, v2, rfl, h1, h2⟩ := FitsW.split h
      exact ⟨_ :: v1, v2, rfl, ⟨⟨_, rfl, hn⟩, h1⟩, h2⟩
theorem FitsW.row {W : World} {ks' ks : List KW} {vs : List Value} (h : FitsW W (.r ks' :: ks) vs) : ∃ (v : Value) (r : List Value) (ess : List (List Value)), vs = v :: r ∧ (rdN v ess.length ess.flatten).holds W ∧ (∀ es ∈ ess, FitsW W ks' es) ∧ FitsW W ks r := by
  cases h with
  | r hr he h => exact ⟨_, _, _, rfl, hr, he, h⟩
theorem FitsW.flat {W : World} {ks : List (Option IntKind)} {vs : List Value} (h : FitsW W (ks.map KW.k) vs) : Fits ks vs := by
  obtain ⟨v1, v2, rfl, h1, h2⟩ := FitsW.split (ks' := []) (by rwa [List.append_nil])
  cases h2
  rwa [List.append_nil]
def flatW (P : Program) : Nat → TypeId → Option (List KW)
  | 0, _ => none
  | fuel + 1, t =>
    match P.underlying t with
    | some (.struct fs) => (fs.toList.foldr (fun f acc => fun off => if f.offset = off then (flatW P fuel f.type).bind fun ks => if P.cellsOf f.type = ks.length then (acc (off + ks.length)).map (ks ++ ·) else none else none) (fun off => if P.cellsOf t = off then some [] else none)) 0
    | some (.slice e) => (flatW P fuel e).bind fun ks => if P.cellsOf e = ks.length ∧ 0 < ks.length then some [.r ks] else none
    | _ => (flatK P (fuel + 1) t).map (List.map KW.k)
section
variable {H : Type} {enc : TypeId × Value → H} {P : Program} {W : World}
theorem flatW_fields {spare : Nat → Bool} {held : Bool} {base fuel f2 : Nat} (ih : ∀ t ks cs x, flatW P fuel t = some ks → DataW.trod enc P W base spare held f2 t cs = some x → FitsW W ks cs) (tot : Nat) (cs : List Value) :
    ∀ (fs : List Field) (off : Nat) (ks : List KW),
      (fs.foldr (fun f acc => fun off => if f.offset = off then (flatW P fuel f.type).bind fun ks => if P.cellsOf f.type = ks.length then (acc (off + ks.length)).map (ks ++ ·) else none else none) (fun off => if tot = off then some [] else none)) off = some ks →
      (∀ f ∈ fs, ∃ y, DataW.trod enc P W base spare held f2 f.type ((cs.drop f.offset).take (P.cellsOf f.type)) = some y) → cs.length = tot → FitsW W ks (cs.drop off)
  | [], off, ks, h, _, hl => by
    simp only [List.foldr_nil] at h
    split at h
    · cases h
      rw [List.drop_eq_nil_of_le (by omega)]
      exact .nil
    · cases h
  | f :: fs, off, ks, h, hall, hl => by
    simp only [List.foldr_cons] at h
    split at h
    · rename_i hoff
      cases hk : flatW P fuel f.type with
      | none => rw [hk] at h; cases h
      | some k1 =>
        rw [hk] at h
        simp only [Option.bind_some] at h
        split at h
        · rename_i hc
          rw [Option.map_eq_some_iff] at h
          obtain ⟨k2, h2, rfl⟩ := h
          obtain ⟨y, hy⟩ := hall f (List.mem_cons_self ..)
          have f1 := ih _ _ _ _ hk hy
          have r := flatW_fields ih tot cs fs (off + k1.length) k2 h2 (fun g hg => hall g (List.mem_cons_of_mem _ hg)) hl
          rw [hoff, hc] at f1
          have e : cs.drop off = (cs.drop off).take k1.length ++ cs.drop (off + k1.length) := by
            rw [← List.drop_drop, List.take_append_drop]
          rw [e]
          exact f1.append r
        · cases h
    · cases h
theorem flatW_slice {spare : Nat → Bool} {held : Bool} {fuel f2 : Nat} {t e : TypeId} {ks : List KW} {cs : List Value} {x : DataW H × List MemPlace} (ht : P.underlying t = some (.slice e)) (hk : flatW P fuel e = some ks) (hc : P.cellsOf e = ks.length) (h0 : 0 < ks.length)
    (ih : ∀ n ks cs x, flatW P fuel e = some ks → DataW.trod enc P W 0 spare held n e cs = some x → FitsW W ks cs) (h : DataW.trod enc P W 0 spare held (f2 + 1) t cs = some x) :
    ∃ v, cs = [v] ∧ ∃ ess : List (List Value), (rdN v ess.length ess.flatten).holds W ∧ ∀ es ∈ ess, FitsW W ks es := by
  rcases DataW.trod_slice ht h with ⟨rfl, _⟩ | ⟨a, len, cap, elems, rest, n, _, rfl, _, hb, hl, hm, hlen, hel, _⟩
  · exact ⟨_, rfl, [], .inl ⟨rfl, rfl, rfl⟩, by simp⟩
  · have hex : ∀ i, i < len → ∃ cs, W.cells? 0 (a.add (i * ks.length)) ks.length = some cs ∧ FitsW W ks cs := by
      intro i hi
      have h1 := hel i hi
      rw [hc, List.getElem?_eq_getElem (by omega), Option.bind_eq_some_iff] at h1
      obtain ⟨cs, h2, h3⟩ := h1
      exact ⟨cs, h2, ih n ks cs _ hk h3⟩
    obtain ⟨ess, h1, h2⟩ : ∃ ess : List (List Value), ess.length = len ∧ ∀ i, i < len → ∃ cs, ess[i]? = some cs ∧ W.cells? 0 (a.add (i * ks.length)) ks.length = some cs ∧ FitsW W ks cs := by
      refine ⟨(List.range len).map fun i => if hi : i < len then (hex i hi).choose else [], by simp, fun i hi => ⟨(hex i hi).choose, ?_, (hex i hi).choose_spec⟩⟩
      simp [hi]
    have hfit : ∀ es ∈ ess, FitsW W ks es := by
      intro es hes
      obtain ⟨i, hi⟩ := List.getElem?_of_mem hes
      obtain ⟨cs, g1, g2, g3⟩ := h2 i (by have := (List.getElem?_eq_some_iff.1 hi).1; omega)
      rw [hi] at g1
      cases g1
      exact g3
    refine ⟨_, rfl, ess, .inr ⟨a, cap, by rw [h1], by omega, hm, fun j u hj => ?_⟩, hfit⟩
    have hfl := flatten_len fun x hx => (hfit x hx).length
    have hj' : j < ess.length * ks.length := by have := (List.getElem?_eq_some_iff.1 hj).1; omega
    have hi : j / ks.length < len := by rw [← h1]; exact (Nat.div_lt_iff_lt_mul h0).2 hj'
    have ho := Nat.mod_lt j h0
    have hjj : j / ks.length * ks.length + j % ks.length = j := by rw [Nat.mul_comm]; exact Nat.div_add_mod ..
    obtain ⟨cs, g1, g2, g3⟩ := h2 _ hi
    rw [← hjj, flatten_at (fun x hx => (hfit x hx).length) ho, g1] at hj
    have := (cells_get g2).2 _ ho
    rw [add_add, hjj] at this
    rw [this]
    exact hj
theorem flatW_cells {spare : Nat → Bool} {held : Bool} : ∀ (fuel : Nat) (f2 : Nat) (t : TypeId) (ks : List KW) (cs : List Value) (x : DataW H × List MemPlace),
    flatW P fuel t = some ks → DataW.trod enc P W 0 spare held f2 t cs = some x → FitsW W ks cs
  | 0, _, _, _, _, _, h, _ => (by cases h)
  | fuel + 1, 0, _, _, _, _, _, h => (by cases h)
  | fuel + 1, f2 + 1, t, ks, cs, x, h, hx => by
    have hflat : (flatK P (fuel + 1) t).map (List.map KW.k) = some ks → FitsW W ks cs := fun h => by
      rw [Option.map_eq_some_iff] at h
      obtain ⟨k1, h1, rfl⟩ := h
      exact .of (flat_cells _ _ _ _ _ _ h1 hx)
    unfold flatW at h
    cases ht : P.underlying t with
    | none => rw [ht] at h; exact hflat h
    | some d =>
      rw [ht] at h
      cases d with
      | struct fs =>
        simp only at h
        unfold DataW.trod at hx
        rw [ht] at hx
        simp only at hx
        split at hx
        · rename_i hlen
          rw [Option.map_eq_some_iff] at hx
          obtain ⟨ys, hys, _⟩ := hx
          have := flatW_fields (fun t ks cs x => flatW_cells fuel f2 t ks cs x) (P.cellsOf t) cs fs.toList 0 ks h (fun f hf => mapM_each hys f hf) hlen
          simpa using this
        · cases hx
      | slice e =>
        simp only at h
        cases hk : flatW P fuel e with
        | none => rw [hk] at h; cases h
        | some ks1 =>
          rw [hk] at h
          simp only [Option.bind_some] at h
          split at h
          · rename_i hc
            cases h
            obtain ⟨v, rfl, ess, h1, h2⟩ := flatW_slice ht hk hc.1 hc.2 (fun n ks cs x hh hx => flatW_cells fuel n e ks cs x hh hx) hx
            exact .r h1 h2 .nil
          · cases h
      | _ => exact hflat h
theorem open_flatW {v : Value} {d : DataW H} {p : List MemPlace} {t : TypeId} {ks : List KW} (fuel : Nat) (hk : flatW P fuel t = some ks)
    (h : DataW.Trod enc P W 0 (fun _ => true) true t v d p) : FitsW W ks v.cells.toList := by
  obtain ⟨f2, hf⟩ := h
  exact flatW_cells fuel f2 t ks _ _ hk hf
theorem open_rowsW {v : Value} {d : DataW H} {p : List MemPlace} {base : Nat} {t e : TypeId} {ks : List KW} (fuel : Nat) (ht : P.underlying t = some (.slice e)) (hk : flatW P fuel e = some ks) (hc : P.cellsOf e = ks.length) (h0 : 0 < ks.length)
    (hval : Value.okWide P W .any base t v) (h : DataW.Trod enc P W 0 (fun _ => true) true t v d p) : ∃ ess : List (List Value), (rdN v ess.length ess.flatten).holds W ∧ ∀ es ∈ ess, FitsW W ks es := by
  obtain ⟨a0, len0, cap0, rfl⟩ := okWide_slice ht hval
  obtain ⟨f2, hf⟩ := h
  rcases DataW.trod_slice ht hf with ⟨hcs, _⟩ | ⟨a, len, cap, elems, rest, n, _, hcs, _, hb, hl, hm, hlen, hel, _⟩
  · simp [Value.cells] at hcs
    obtain ⟨rfl, rfl, rfl⟩ := hcs
    exact ⟨[], .inl ⟨rfl, rfl, rfl⟩, by simp⟩
  · simp [Value.cells] at hcs
    obtain ⟨rfl, rfl, rfl⟩ := hcs
    have hex : ∀ i, i < len0 → ∃ cs, W.cells? 0 (a.add (i * ks.length)) ks.length = some cs ∧ FitsW W ks cs := by
      intro i hi
      have h1 := hel i hi
      rw [hc, List.getElem?_eq_getElem (by omega), Option.bind_eq_some_iff] at h1
      obtain ⟨cs, h2, h3⟩ := h1
      exact ⟨cs, h2, flatW_cells fuel n e ks cs _ hk h3⟩
    obtain ⟨ess, h1, h2⟩ : ∃ ess : List (List Value), ess.length = len0 ∧ ∀ i, i < len0 → ∃ cs, ess[i]? = some cs ∧ W.cells? 0 (a.add (i * ks.length)) ks.length = some cs ∧ FitsW W ks cs := by
      refine ⟨(List.range len0).map fun i => if hi : i < len0 then (hex i hi).choose else [], by simp, fun i hi => ⟨(hex i hi).choose, ?_, (hex i hi).choose_spec⟩⟩
      simp [hi]
    have hfit : ∀ es ∈ ess, FitsW W ks es := by
      intro es hes
      obtain ⟨i, hi⟩ := List.getElem?_of_mem hes
      obtain ⟨cs, g1, g2, g3⟩ := h2 i (by have := (List.getElem?_eq_some_iff.1 hi).1; omega)
      rw [hi] at g1
      cases g1
      exact g3
    refine ⟨ess, .inr ⟨a, cap0, by rw [h1], by omega, hm, fun j u hj => ?_⟩, hfit⟩
    have hfl := flatten_len fun x hx => (hfit x hx).length
    have hj' : j < ess.length * ks.length := by have := (List.getElem?_eq_some_iff.1 hj).1; omega
    have hi : j / ks.length < len0 := by rw [← h1]; exact (Nat.div_lt_iff_lt_mul h0).2 hj'
    have ho := Nat.mod_lt j h0
    have hjj : j / ks.length * ks.length + j % ks.length = j := by rw [Nat.mul_comm]; exact Nat.div_add_mod ..
    obtain ⟨cs, g1, g2, g3⟩ := h2 _ hi
    rw [← hjj, flatten_at (fun x hx => (hfit x hx).length) ho, g1] at hj
    have := (cells_get g2).2 _ ho
    rw [add_add, hjj] at this
    rw [this]
    exact hj
theorem open_listW {α : Type} {v : Value} {d : DataW H} {p : List MemPlace} {base : Nat} {t e : TypeId} {ks : List KW} (c : α → Ch) (q : α → Prop) (hq : ∀ es, FitsW W ks es → ∃ x, es = flat (c x) ∧ q x) (fuel : Nat) (ht : P.underlying t = some (.slice e)) (hk : flatW P fuel e = some ks) (hc : P.cellsOf e = ks.length) (h0 : 0 < ks.length)
    (hval : Value.okWide P W .any base t v) (h : DataW.Trod enc P W 0 (fun _ => true) true t v d p) : ∃ l : List α, (rdN v l.length (l.map fun x => flat (c x)).flatten).holds W ∧ ∀ x ∈ l, q x := by
  obtain ⟨ess, h1, h2⟩ := open_rowsW fuel ht hk hc h0 hval h
  obtain ⟨r, rfl, hr⟩ := list_of (c := fun x => flat (c x)) (p := q) fun es hes => hq es (h2 es hes)
  exact ⟨r, by simpa using h1, hr⟩
theorem readsW_one {v : Value} {n : Nat} {xs : List Value} {w : World} (h : (rdN v n xs).holds w) : v.oneCell' = true := by
  rcases h with ⟨rfl, _⟩ | ⟨a, c, rfl, _⟩ <;> rfl
end
end Go.Proofs.Ytpjfkomicehinaa
