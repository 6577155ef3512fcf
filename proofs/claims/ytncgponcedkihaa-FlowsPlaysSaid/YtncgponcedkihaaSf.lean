/- Sorted by Go's library: slices.SortFunc at structs, slices.Sort at ints, in separation's words. -/
import Derived.Test.YtncgponcedkihaaMi
import Derived.Shelf.SlSortCmp.NoneTotal
import Derived.Shelf.Sort.Plain
namespace Go.Proofs.Ytncgponcedkihaa
open Go.RowKit Go.Sort Go.Lib Go.Shelf
set_option linter.unusedSimpArgs false
set_option linter.unusedVariables false
set_option linter.unusedSectionVars false

theorem grown_of_mod {T : Nat → Prop} {w w' : World} (hT : ∀ g, ¬ T g) (h : Mod T w w') : ∃ q os, w' = Sort.grow (w.drewN q) os := by
  refine ⟨w'.drawn - w.drawn, w'.heap.extract w.heap.size w'.heap.size, ?_⟩
  have h1 : w'.heap = w.heap ++ w'.heap.extract w.heap.size w'.heap.size := by
    apply Array.ext_getElem?
    intro i
    by_cases hi : i < w.heap.size
    · rw [Array.getElem?_append_left hi]
      exact h.block i hi (hT i)
    · rw [Array.getElem?_append_right (by omega), Array.getElem?_extract]
      split
      · congr 1; omega
      · rw [Array.getElem?_eq_none (by omega)]
  have h2 := h.drawn
  have h3 := h.os
  have h4 := h.tape
  have h5 := h.output
  unfold Sort.grow World.drewN
  cases w with
  | mk a1 a2 a3 a4 a5 =>
    cases w' with
    | mk b1 b2 b3 b4 b5 =>
      simp only at h1 h2 h3 h4 h5 ⊢
      subst h3 h4 h5
      simp only [World.mk.injEq, and_self, and_true, true_and]
      exact ⟨h1, by omega⟩

section
variable {α : Type} [Inhabited α] {enc : α → List Value} {k : Nat}
theorem flen (hk : ∀ x, (enc x).length = k) (l : List α) : (l.map enc).flatten.length = l.length * k := by
  induction l with
  | nil => simp
  | cons a l ih => rw [List.map_cons, List.flatten_cons, List.length_append, ih, hk, List.length_cons, Nat.succ_mul, Nat.add_comm]
theorem flat_get (hk : ∀ x, (enc x).length = k) : ∀ (l : List α) (t : Nat), t < l.length * k → (l.map enc).flatten[t]? = (enc l[t / k]!)[t % k]?
  | [], t, h => by simp at h
  | a :: l, t, h => by
    have k0 : 0 < k := by rcases Nat.eq_zero_or_pos k with h0 | h0; · subst h0; simp at h
                          · exact h0
    rw [List.map_cons, List.flatten_cons]
    by_cases ht : t < k
    · rw [List.getElem?_append_left (by rw [hk]; exact ht), Nat.div_eq_of_lt ht, Nat.mod_eq_of_lt ht]; rfl
    · obtain ⟨s, rfl⟩ : ∃ s, t = s + k := ⟨t - k, by omega⟩
      rw [List.getElem?_append_right (by rw [hk]; omega), hk, Nat.add_sub_cancel, flat_get hk l s (by rw [List.length_cons, Nat.succ_mul] at h; omega), Nat.add_div_right _ k0, Nat.add_mod_right]
      rfl
theorem flatK_eq (hk : ∀ x, (enc x).length = k) (l : List α) : flatK enc k l.toArray = (l.map enc).flatten.toArray := by
  have hl : (l.map enc).flatten.length = l.length * k := flen hk l
  apply ext_get!
  · rw [size_flatK]; simp only [List.size_toArray]; exact hl.symm
  · intro t ht
    rw [size_flatK] at ht
    simp only [List.size_toArray] at ht
    rw [get_flatK enc k _ t (by simpa using ht)]
    have h1 := flat_get hk l t ht
    have h2 : (l.map enc).flatten.toArray[t]! = (l.map enc).flatten[t]! := by simp
    have k0 : 0 < k := by rcases Nat.eq_zero_or_pos k with h0 | h0; · subst h0; simp at ht
                          · exact h0
    have hm : t % k < (enc l[t / k]!).length := by rw [hk]; exact Nat.mod_lt _ k0
    rw [h2, show l.toArray[t / k]! = l[t / k]! by simp]
    generalize enc l[t / k]! = A at h1
    generalize (l.map enc).flatten = B at h1
    rw [List.getElem!_eq_getElem?_getD, List.getElem!_eq_getElem?_getD, h1]

/-- How a row of one's own lies, as the sort's laws ask it. -/
theorem row_holds {w : World} {g k : Nat} {cur : Array Value} {T : TypeId} {xs : List Value} (hb : w.heap[g]? = some (.cells cur T (0, 0))) (ht : cur.toList.take xs.length = xs) : Sort.Holds id w g 0 xs.toArray := by
  intro j hj
  have hj' : j < xs.length := by simpa using hj
  refine ⟨?_, by simp [World.frozen?, hb]⟩
  have h1 : (cur.toList.take xs.length)[j]? = xs[j]? := by rw [ht]
  rw [List.getElem?_take_of_lt hj'] at h1
  simp only [World.cell?, hb, Nat.zero_add]
  simp only [Option.isSome_none, Bool.false_eq_true, if_false]
  rw [← Array.getElem?_toList, h1]
  simp [hj']
theorem row_put {w : World} {g n : Nat} {os : Array Obj} {cur : Array Value} {T : TypeId} {k cap m : Nat} {ys : List Value} (hb : w.heap[g]? = some (.cells cur T (0, 0))) (h1 : m ≤ cap) (h2 : cap ≤ maxLen) (h3 : cur.size = cap * k) (hl : ys.length = m * k) (Q : Nat → Prop) (hQ : Q g) :
    (rowN T k (.slice (some ⟨g, 0, none⟩) m cap) m ys).holds (Sort.grow (putRow id (Sort.ahead w n) g 0 ys.toArray) os) ∧ Mod Q w (Sort.grow (putRow id (Sort.ahead w n) g 0 ys.toArray) os) := by
  have hg : g < w.heap.size := (Array.getElem?_eq_some_iff.1 hb).1
  have hle : m * k ≤ cap * k := Nat.mul_le_mul_right k h1
  constructor
  · refine ⟨hl, .inr ⟨g, cap, putCells id 0 ys.toArray cur, rfl, Nat.zero_le _, ?_, h1, h2, by simp [putCells, h3], ?_⟩⟩
    · rw [heap_grow_old _ _ (by simpa using hg)]
      simp [putRow, mapBlock, Sort.ahead, Array.getElem?_modify, hb, onCells]
    · apply List.ext_getElem?
      intro j
      by_cases hj : j < m * k
      · rw [List.getElem?_take_of_lt hj, Array.getElem?_toList]
        simp [putCells, hl, hj, show j < cur.size by omega, show j < ys.length by omega]
      · rw [List.getElem?_take_eq_none (by omega), List.getElem?_eq_none (by omega)]
  · refine ⟨rfl, rfl, rfl, by simp, Nat.le_add_right _ _, fun j hj hn => ?_⟩
    rw [heap_grow_old _ _ (by simpa using hj)]
    have : g ≠ j := fun e => hn (e ▸ hQ)
    simp [putRow, mapBlock, Sort.ahead, Array.getElem?_modify, this]
end
section
variable {P : Program} {ρ : Ren} {α : Type} [Inhabited α]
theorem enters_isCode {g : FuncId} (hc : isCode P g = true) (args : Array Value) (w : World) : (callFunc g args).run P w = .ok (.enter g args) w := by
  unfold isCode at hc
  cases hf : P.funcs[g]? with
  | none => rw [hf] at hc; cases hc
  | some fn =>
    rw [hf] at hc
    simp only [Bool.and_eq_true, decide_eq_true_eq] at hc
    obtain ⟨h1, h2⟩ := hc
    obtain ⟨b, hb⟩ := Option.isSome_iff_exists.1 h2
    simp [callFunc, Sem.run_bind, hf, h1, hb, go_sem]
theorem not_own {g : Nat} : ¬ ownFp [] g := by rintro ⟨A, hA, _⟩; cases hA
/-- slices.SortFunc: what it sorts by tells any two apart. -/
theorem sortF_t (L : SlLaysF0.n6 P ρ) {k : Nat} (aE : ∀ w, (isAgg (ρ.t 24)).run P w = .ok true w) (zE : ∀ w, (Go.sizeOf (ρ.t 24)).run P w = .ok k w) (enc : α → List Value) (hk : ∀ x, (enc x).length = k) (h1 : ∀ x, ∀ v ∈ enc x, v.oneCell' = true) (cf : α → α → Int) (hO : SWO (ltOf cf)) (hT : ∀ x y, (ltOf cf) x y = false → (ltOf cf) y x = false → x = y)
    (g : FuncId) (hc : isCode P g = true) (hcl : ∀ x y, Triple P g #[.agg (enc x).toArray, .agg (enc y).toArray] [] (RVal (.int .i64 (cf x y)))) {T : TypeId} (v : Value) (l : List α) (hl : l.length < 4611686018427387904) :
    Triple P (ρ.f 6) #[v, .func (.func g) #[] #[]] [rowN T k v l.length (l.map enc).flatten] (RTurns (.tuple #[]) [rowN T k v l.length ((l.mergeSort fun x y => !(ltOf cf) y x).map enc).flatten]) := by
  intro w hw ha
  have hrow := hw _ (List.mem_cons_self ..)
  have hlen : (l.map enc).flatten.length = l.length * k := flen hk l
  rcases hrow.2 with ⟨hv, h0⟩ | ⟨g0, cap, cur, hv, hB, hb, hnc, hcm, hcs, ht⟩
  · subst hv
    have : l = [] := List.eq_nil_of_length_eq_zero h0
    subst this
    refine (AnyF.slices_SortFunc_none { L with } none 0 _ w).mono ?_
    rintro e w' ⟨rfl, rfl⟩
    exact ⟨_, _, rfl, ⟨rfl, rfl⟩, .one (Mod.refl _ _) (by simpa using hrow) fun g hg => by cases hg⟩
  · subst hv
    have hblk : g0 < w.heap.size := (Array.getElem?_eq_some_iff.1 hb).1
    have hH : HoldsK enc k w g0 0 l.toArray := by
      unfold HoldsK
      rw [flatK_eq hk]
      exact row_holds (k := k) hb (by rw [hlen]; exact ht)
    have hcmp : CmpLays P g #[] enc k cf g0 0 l.toArray.size w := fun m os dk _ x y => by
      refine (hcl x y _ (fun A hA => by cases hA) .nil).mono ?_
      rintro e w' ⟨v, Γ', rfl, ⟨rfl, rfl⟩, hp⟩
      exact ⟨rfl, grown_of_mod (fun _ => not_own) hp.mod⟩
    have h := AnyQ.slices_SortFunc_total L k aE zE enc hk h1 cf hO g #[] g0 0 cap l.toArray w (fun args w => enters_isCode hc args w) hcmp hH hblk (by simpa using hl) hT
    refine Calls.mono (by simpa using h) ?_
    rintro e w' ⟨rfl, n, os, rfl⟩
    have hsl : ((l.mergeSort fun x y => !(ltOf cf) y x).map enc).flatten.length = l.length * k := by rw [flen hk, List.length_mergeSort]
    have hfin := row_put (n := n) (os := os) (ys := ((l.mergeSort fun x y => !(ltOf cf) y x).map enc).flatten) hb hnc hcm hcs hsl (ownFp [rowN T k (.slice (some ⟨g0, 0, none⟩) l.length cap) l.length (l.map enc).flatten]) ⟨_, List.mem_singleton.2 rfl, rfl, rfl⟩
    unfold sortWorldK putRowK
    rw [flatK_eq hk]
    exact ⟨_, _, rfl, ⟨rfl, rfl⟩, .one hfin.2 hfin.1 fun g' hg' => .inr (by cases hg'; exact ⟨_, List.mem_singleton.2 rfl, rfl, rfl⟩)⟩
def intsV (l : List Int) : List Value := l.map (Value.int .i64)
theorem sortI_t (L : Lays.n189 P ρ) {T : TypeId} (hnone : Triple P (ρ.f 189) #[.slice none 0 0] [] (RVal (.tuple #[]))) (v : Value) (l : List Int) (hl : l.length < 4611686018427387904) :
    Triple P (ρ.f 189) #[v] [rowN T 1 v l.length (intsV l)] (RTurns (.tuple #[]) [rowN T 1 v l.length (intsV (l.mergeSort fun x y => decide (x ≤ y)))]) := by
  intro w hw ha
  have hrow := hw _ (List.mem_cons_self ..)
  have hlen : (intsV l).length = l.length * 1 := by simp [intsV]
  rcases hrow.2 with ⟨hv, h0⟩ | ⟨g0, cap, cur, hv, hB, hb, hnc, hcm, hcs, ht⟩
  · subst hv
    have : l = [] := List.eq_nil_of_length_eq_zero h0
    subst this
    refine (hnone w (fun A hA => by cases hA) .nil).mono ?_
    rintro e w' ⟨v, Γ', rfl, ⟨rfl, rfl⟩, hp⟩
    exact ⟨_, _, rfl, ⟨rfl, rfl⟩, .one (hp.mod.weaken fun g _ h => (not_own h).elim) ⟨by simp [intsV], .inl ⟨rfl, rfl⟩⟩ fun g hg => by cases hg⟩
  · subst hv
    have hblk : g0 < w.heap.size := (Array.getElem?_eq_some_iff.1 hb).1
    have hid : ∀ zs : List Int, ∀ w2 : World, putRow (Value.int .i64) w2 g0 0 zs.toArray = putRow id w2 g0 0 (intsV zs).toArray := fun zs w2 => by
      unfold putRow putCells
      congr 1
      funext c
      apply Array.ext
      · simp
      · intro i h1 h2
        simp [intsV]
        split
        · rename_i h9; simp [List.getElem?_eq_getElem h9]
        · rfl
    have hH : Sort.Holds (Value.int .i64) w g0 0 l.toArray := by
      have h2 := row_holds (k := 1) hb (by rw [hlen]; exact ht)
      intro j hj
      have hj' : j < (intsV l).toArray.size := by simpa [intsV] using hj
      have h3 := h2 j hj'
      refine ⟨?_, h3.2⟩
      have h4 := h3.1
      have hjl : j < l.length := by simpa using hj
      simpa [intsV, hjl] using h4
    have h := Any.slices_Sort_int L g0 0 cap l w hH hblk hl
    refine Calls.mono h ?_
    rintro e w' ⟨rfl, n, os, rfl⟩
    rw [hid]
    have hsl : (intsV (l.mergeSort fun x y => decide (x ≤ y))).length = l.length * 1 := by simp [intsV]
    have hfin := row_put (n := n) (os := os) hb hnc hcm hcs hsl (ownFp [rowN T 1 (.slice (some ⟨g0, 0, none⟩) l.length cap) l.length (intsV l)]) ⟨_, List.mem_singleton.2 rfl, rfl, rfl⟩
    exact ⟨_, _, rfl, ⟨rfl, rfl⟩, .one hfin.2 hfin.1 fun g' hg' => .inr (by cases hg'; exact ⟨_, List.mem_singleton.2 rfl, rfl, rfl⟩)⟩
end
end Go.Proofs.Ytncgponcedkihaa
