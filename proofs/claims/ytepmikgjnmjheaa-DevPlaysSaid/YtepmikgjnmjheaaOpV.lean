/- What came in and holds slices of integers within, opened. -/
import Derived.Test.YtepmikgjnmjheaaOpL
namespace Go.Proofs.Ytepmikgjnmjheaa
open Go.ChangeShapes Go.WideShapes Go.ChangeAt Go.RowKit
set_option linter.unusedSimpArgs false
set_option linter.unusedVariables false
/-- The kind of a cell: a bool, an integer, or a slice of integers. -/
inductive KV where
  | k (o : Option IntKind)
  | s (k : IntKind)
def FitsV (W : World) : List KV → List Value → Prop
  | [], [] => True
  | .k none :: ks, v :: vs => (∃ b, v = .bool b) ∧ FitsV W ks vs
  | .k (some k) :: ks, v :: vs => (∃ n, v = .int k n ∧ (Lit.int k n).wf = true) ∧ FitsV W ks vs
  | .s k :: ks, v :: vs => (∃ xs : List Int, (rdN v xs.length (xs.map (Value.int k))).holds W ∧ ∀ n ∈ xs, (Lit.int k n).wf = true) ∧ FitsV W ks vs
  | _, _ => False
theorem FitsV.append {W : World} : ∀ {ks ks' : List KV} {vs vs' : List Value}, FitsV W ks vs → FitsV W ks' vs' → FitsV W (ks ++ ks') (vs ++ vs')
  | [], _, [], _, _, h => h
  | .k none :: _, _, _ :: _, _, h, h' => ⟨h.1, FitsV.append h.2 h'⟩
  | .k (some _) :: _, _, _ :: _, _, h, h' => ⟨h.1, FitsV.append h.2 h'⟩
  | .s _ :: _, _, _ :: _, _, h, h' => ⟨h.1, FitsV.append h.2 h'⟩
  | [], _, _ :: _, _, h, _ => h.elim
  | .k none :: _, _, [], _, h, _ => h.elim
  | .k (some _) :: _, _, [], _, h, _ => h.elim
  | .s _ :: _, _, [], _, h, _ => h.elim
theorem FitsV.length {W : World} : ∀ {ks : List KV} {vs : List Value}, FitsV W ks vs → vs.length = ks.length
  | [], [], _ => rfl
  | .k none :: _, _ :: _, h => by simp [FitsV.length h.2]
  | .k (some _) :: _, _ :: _, h => by simp [FitsV.length h.2]
  | .s _ :: _, _ :: _, h => by simp [FitsV.length h.2]
  | [], _ :: _, h => h.elim
  | .k none :: _, [], h => h.elim
  | .k (some _) :: _, [], h => h.elim
  | .s _ :: _, [], h => h.elim
theorem FitsV.of {W : World} : ∀ {ks : List (Option IntKind)} {vs : List Value}, Fits ks vs → FitsV W (ks.map KV.k) vs
  | [], [], _ => trivial
  | none :: _, _ :: _, h => ⟨h.1, FitsV.of h.2⟩
  | some _ :: _, _ :: _, h => ⟨h.1, FitsV.of h.2⟩
  | [], _ :: _, h => h.elim
  | none :: _, [], h => h.elim
  | some _ :: _, [], h => h.elim
def flatV (P : Program) : Nat → TypeId → Option (List KV)
  | 0, _ => none
  | fuel + 1, t =>
    match P.underlying t with
    | some (.struct fs) => (fs.toList.foldr (fun f acc => fun off => if f.offset = off then (flatV P fuel f.type).bind fun ks => if P.cellsOf f.type = ks.length then (acc (off + ks.length)).map (ks ++ ·) else none else none) (fun off => if P.cellsOf t = off then some [] else none)) 0
    | some (.slice e) => match P.underlying e with
      | some (.int k) => if P.cellsOf e = 1 then some [.s k] else none
      | _ => none
    | _ => (flatK P (fuel + 1) t).map (List.map KV.k)
section
variable {H : Type} {enc : TypeId × Value → H} {P : Program} {W : World}
theorem flatV_fields {spare : Nat → Bool} {held : Bool} {base fuel f2 : Nat} (ih : ∀ t ks cs x, flatV P fuel t = some ks → DataW.trod enc P W base spare held f2 t cs = some x → FitsV W ks cs) (tot : Nat) (cs : List Value) :
    ∀ (fs : List Field) (off : Nat) (ks : List KV),
      (fs.foldr (fun f acc => fun off => if f.offset = off then (flatV P fuel f.type).bind fun ks => if P.cellsOf f.type = ks.length then (acc (off + ks.length)).map (ks ++ ·) else none else none) (fun off => if tot = off then some [] else none)) off = some ks →
      (∀ f ∈ fs, ∃ y, DataW.trod enc P W base spare held f2 f.type ((cs.drop f.offset).take (P.cellsOf f.type)) = some y) → cs.length = tot → FitsV W ks (cs.drop off)
  | [], off, ks, h, _, hl => by
    simp only [List.foldr_nil] at h
    split at h
    · cases h
      rw [List.drop_eq_nil_of_le (by omega)]
      trivial
    · cases h
  | f :: fs, off, ks, h, hall, hl => by
    simp only [List.foldr_cons] at h
    split at h
    · rename_i hoff
      cases hk : flatV P fuel f.type with
      | none => rw [hk] at h; cases h
      | some k1 =>
        rw [hk] at h
        simp only [Option.bind_some] at h
        split at h
        · rename_i hc
          rw [Option.map_eq_some_iff] at h
          obtain ⟨k2, h2, rfl⟩ := h
          obtain ⟨y, hy⟩ := hall f (List.mem_cons_self ..)
          have f1 := ih _ _ _ _ hk hy
          have r := flatV_fields ih tot cs fs (off + k1.length) k2 h2 (fun g hg => hall g (List.mem_cons_of_mem _ hg)) hl
          rw [hoff, hc] at f1
          have e : cs.drop off = (cs.drop off).take k1.length ++ cs.drop (off + k1.length) := by
            rw [← List.drop_drop, List.take_append_drop]
          rw [e]
          exact f1.append r
        · cases h
    · cases h
theorem flatV_ints {spare : Nat → Bool} {held : Bool} {f2 : Nat} {t e : TypeId} {k : IntKind} {cs : List Value} {x : DataW H × List MemPlace} (ht : P.underlying t = some (.slice e)) (he : P.underlying e = some (.int k)) (hc : P.cellsOf e = 1) (h : DataW.trod enc P W 0 spare held f2 t cs = some x) :
    ∃ v, cs = [v] ∧ ∃ xs : List Int, (rdN v xs.length (xs.map (Value.int k))).holds W ∧ ∀ n ∈ xs, (Lit.int k n).wf = true := by
  rcases DataW.trod_slice ht h with ⟨rfl, _⟩ | ⟨a, len, cap, elems, rest, n, _, rfl, _, hb, hl, hm, hlen, hel, _⟩
  · exact ⟨_, rfl, [], .inl ⟨rfl, rfl, rfl⟩, by simp⟩
  · have hex : ∀ i, i < len → ∃ m : Int, W.cell? (a.add i) = some (.int k m) ∧ (Lit.int k m).wf = true := by
      intro i hi
      have h1 := hel i hi
      rw [hc, Nat.mul_one, List.getElem?_eq_getElem (by omega), Option.bind_eq_some_iff] at h1
      obtain ⟨cs, h2, h3⟩ := h1
      obtain ⟨m, hm2, _, hw⟩ := DataW.trod_int he h3
      subst hm2
      have h4 := (cells_get h2).2 0 (by omega)
      rw [add_add, Nat.add_zero] at h4
      exact ⟨m, h4, hw⟩
    obtain ⟨xs, h1, h2⟩ : ∃ xs : List Int, xs.length = len ∧ ∀ i, i < len → ∃ m, xs[i]? = some m ∧ W.cell? (a.add i) = some (.int k m) ∧ (Lit.int k m).wf = true := by
      refine ⟨(List.range len).map fun i => if hi : i < len then (hex i hi).choose else 0, by simp, fun i hi => ⟨(hex i hi).choose, ?_, (hex i hi).choose_spec⟩⟩
      simp [hi]
    refine ⟨_, rfl, xs, .inr ⟨a, cap, by rw [h1], by omega, hm, fun j u hj => ?_⟩, fun m hm => ?_⟩
    · have hj' : j < len := by have := (List.getElem?_eq_some_iff.1 hj).1; simpa [h1] using this
      obtain ⟨m, g1, g2, _⟩ := h2 j hj'
      rw [List.getElem?_map, g1] at hj
      cases hj
      exact g2
    · obtain ⟨i, hi⟩ := List.getElem?_of_mem hm
      obtain ⟨m', g1, _, g3⟩ := h2 i (by have := (List.getElem?_eq_some_iff.1 hi).1; omega)
      rw [hi] at g1
      cases g1
      exact g3
theorem flatV_cells {spare : Nat → Bool} {held : Bool} : ∀ (fuel : Nat) (f2 : Nat) (t : TypeId) (ks : List KV) (cs : List Value) (x : DataW H × List MemPlace),
    flatV P fuel t = some ks → DataW.trod enc P W 0 spare held f2 t cs = some x → FitsV W ks cs
  | 0, _, _, _, _, _, h, _ => (by cases h)
  | fuel + 1, 0, _, _, _, _, _, h => (by cases h)
  | fuel + 1, f2 + 1, t, ks, cs, x, h, hx => by
    have hflat : (flatK P (fuel + 1) t).map (List.map KV.k) = some ks → FitsV W ks cs := fun h => by
      rw [Option.map_eq_some_iff] at h
      obtain ⟨k1, h1, rfl⟩ := h
      exact .of (flat_cells _ _ _ _ _ _ h1 hx)
    unfold flatV at h
    cases ht : P.underlying t with
    | none => rw [ht] at h; exact hflat h
    | some d =>
      rw [ht] at h
      cases d with
      | struct fs =>
        simp only at h
        unfold DataW.trod at hx
        rw [ht] at hx
        simp only at hx
        split at hx
        · rename_i hlen
          rw [Option.map_eq_some_iff] at hx
          obtain ⟨ys, hys, _⟩ := hx
          have := flatV_fields (fun t ks cs x => flatV_cells fuel f2 t ks cs x) (P.cellsOf t) cs fs.toList 0 ks h (fun f hf => mapM_each hys f hf) hlen
          simpa using this
        · cases hx
      | slice e =>
        simp only at h
        split at h
        · rename_i k he
          split at h
          · rename_i hc
            cases h
            obtain ⟨v, rfl, hv⟩ := flatV_ints ht he hc hx
            exact ⟨hv, trivial⟩
          · cases h
        · cases h
      | _ => exact hflat h
theorem open_flatV {v : Value} {d : DataW H} {p : List MemPlace} {t : TypeId} {ks : List KV} (fuel : Nat) (hk : flatV P fuel t = some ks)
    (h : DataW.Trod enc P W 0 (fun _ => true) true t v d p) : FitsV W ks v.cells.toList := by
  obtain ⟨f2, hf⟩ := h
  exact flatV_cells fuel f2 t ks _ _ hk hf
theorem open_rowsV {v : Value} {d : DataW H} {p : List MemPlace} {base : Nat} {t e : TypeId} {ks : List KV} (fuel : Nat) (ht : P.underlying t = some (.slice e)) (hk : flatV P fuel e = some ks) (hc : P.cellsOf e = ks.length) (h0 : 0 < ks.length)
    (hval : Value.okWide P W .any base t v) (h : DataW.Trod enc P W 0 (fun _ => true) true t v d p) : ∃ ess : List (List Value), (rdN v ess.length ess.flatten).holds W ∧ ∀ es ∈ ess, FitsV W ks es := by
  obtain ⟨a0, len0, cap0, rfl⟩ := okWide_slice ht hval
  obtain ⟨f2, hf⟩ := h
  rcases DataW.trod_slice ht hf with ⟨hcs, _⟩ | ⟨a, len, cap, elems, rest, n, _, hcs, _, hb, hl, hm, hlen, hel, _⟩
  · simp [Value.cells] at hcs
    obtain ⟨rfl, rfl, rfl⟩ := hcs
    exact ⟨[], .inl ⟨rfl, rfl, rfl⟩, by simp⟩
  · simp [Value.cells] at hcs
    obtain ⟨rfl, rfl, rfl⟩ := hcs
    have hex : ∀ i, i < len0 → ∃ cs, W.cells? 0 (a.add (i * ks.length)) ks.length = some cs ∧ FitsV W ks cs := by
      intro i hi
      have h1 := hel i hi
      rw [hc, List.getElem?_eq_getElem (by omega), Option.bind_eq_some_iff] at h1
      obtain ⟨cs, h2, h3⟩ := h1
      exact ⟨cs, h2, flatV_cells fuel n e ks cs _ hk h3⟩
    obtain ⟨ess, h1, h2⟩ : ∃ ess : List (List Value), ess.length = len0 ∧ ∀ i, i < len0 → ∃ cs, ess[i]? = some cs ∧ W.cells? 0 (a.add (i * ks.length)) ks.length = some cs ∧ FitsV W ks cs := by
      refine ⟨(List.range len0).map fun i => if hi : i < len0 then (hex i hi).choose else [], by simp, fun i hi => ⟨(hex i hi).choose, ?_, (hex i hi).choose_spec⟩⟩
      simp [hi]
    have hfit : ∀ es ∈ ess, FitsV W ks es := by
      intro es hes
      obtain ⟨i, hi⟩ := List.getElem?_of_mem hes
      obtain ⟨cs, g1, g2, g3⟩ := h2 i (by have := (List.getElem?_eq_some_iff.1 hi).1; omega)
      rw [hi] at g1
      cases g1
      exact g3
    refine ⟨ess, .inr ⟨a, cap0, by rw [h1], by omega, hm, fun j u hj => ?_⟩, hfit⟩
    have hfl := flatten_len fun x hx => (hfit x hx).length
    have hj' : j < ess.length * ks.length := by have := (List.getElem?_eq_some_iff.1 hj).1; omega
    have hi : j / ks.length < len0 := by rw [← h1]; exact (Nat.div_lt_iff_lt_mul h0).2 hj'
    have ho := Nat.mod_lt j h0
    have hjj : j / ks.length * ks.length + j % ks.length = j := by rw [Nat.mul_comm]; exact Nat.div_add_mod ..
    obtain ⟨cs, g1, g2, g3⟩ := h2 _ hi
    rw [← hjj, flatten_at (fun x hx => (hfit x hx).length) ho, g1] at hj
    have := (cells_get g2).2 _ ho
    rw [add_add, hjj] at this
    rw [this]
    exact hj
theorem open_listV {α : Type} {v : Value} {d : DataW H} {p : List MemPlace} {base : Nat} {t e : TypeId} {ks : List KV} (c : α → Ch) (q : α → Prop) (hq : ∀ es, FitsV W ks es → ∃ x, es = flat (c x) ∧ q x) (fuel : Nat) (ht : P.underlying t = some (.slice e)) (hk : flatV P fuel e = some ks) (hc : P.cellsOf e = ks.length) (h0 : 0 < ks.length)
    (hval : Value.okWide P W .any base t v) (h : DataW.Trod enc P W 0 (fun _ => true) true t v d p) : ∃ l : List α, (rdN v l.length (l.map fun x => flat (c x)).flatten).holds W ∧ ∀ x ∈ l, q x := by
  obtain ⟨ess, h1, h2⟩ := open_rowsV fuel ht hk hc h0 hval h
  obtain ⟨r, rfl, hr⟩ := list_of (c := fun x => flat (c x)) (p := q) fun es hes => hq es (h2 es hes)
  exact ⟨r, by simpa using h1, hr⟩
/-- A slice of ints. -/
theorem open_ints {v : Value} {d : DataW H} {p : List MemPlace} {base : Nat} {t e : TypeId} (ht : P.underlying t = some (.slice e)) (he : P.underlying e = some (.int .i64)) (hc : P.cellsOf e = 1) (hval : Value.okWide P W .any base t v)
    (h : DataW.Trod enc P W 0 (fun _ => true) true t v d p) : ∃ l : List Int, (rdN v l.length (l.map (Value.int .i64))).holds W ∧ ∀ x ∈ l, in64 x := by
  obtain ⟨f2, hf⟩ := h
  obtain ⟨a0, len0, cap0, rfl⟩ := okWide_slice ht hval
  obtain ⟨v2, hv2, xs, h1, h2⟩ := flatV_ints ht he hc hf
  have : v2 = .slice a0 len0 cap0 := by simpa [Value.cells] using hv2.symm
  subst this
  exact ⟨xs, h1, fun x hx => by have := bounds_i64 (h2 x hx); unfold in64; omega⟩
end
end Go.Proofs.Ytepmikgjnmjheaa
