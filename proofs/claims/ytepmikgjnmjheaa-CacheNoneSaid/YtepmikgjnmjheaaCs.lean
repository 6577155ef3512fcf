/- slices.Sort at ints (as in XSf, without what sorts structs). -/
import Derived.Test.YtepmikgjnmjheaaCi
namespace Go.Proofs.Ytepmikgjnmjheaa
section
open Go.RowKit Go.Sort Go.Lib Go.Shelf
set_option linter.unusedSimpArgs false
set_option linter.unusedVariables false
set_option linter.unusedSectionVars false
/-- How a row of one's own lies, as the sort's laws ask it. -/
theorem row_holds {w : World} {g k : Nat} {cur : Array Value} {T : TypeId} {xs : List Value} (hb : w.heap[g]? = some (.cells cur T (0, 0))) (ht : cur.toList.take xs.length = xs) : Sort.Holds id w g 0 xs.toArray := by
  intro j hj
  have hj' : j < xs.length := by simpa using hj
  refine ⟨?_, by simp [World.frozen?, hb]⟩
  have h1 : (cur.toList.take xs.length)[j]? = xs[j]? := by rw [ht]
  rw [List.getElem?_take_of_lt hj'] at h1
  simp only [World.cell?, hb, Nat.zero_add]
  simp only [Option.isSome_none, Bool.false_eq_true, if_false]
  rw [← Array.getElem?_toList, h1]
  simp [hj']
theorem row_put {w : World} {g n : Nat} {os : Array Obj} {cur : Array Value} {T : TypeId} {k cap m : Nat} {ys : List Value} (hb : w.heap[g]? = some (.cells cur T (0, 0))) (h1 : m ≤ cap) (h2 : cap ≤ maxLen) (h3 : cur.size = cap * k) (hl : ys.length = m * k) (Q : Nat → Prop) (hQ : Q g) :
    (rowN T k (.slice (some ⟨g, 0, none⟩) m cap) m ys).holds (Sort.grow (putRow id (Sort.ahead w n) g 0 ys.toArray) os) ∧ Mod Q w (Sort.grow (putRow id (Sort.ahead w n) g 0 ys.toArray) os) := by
  have hg : g < w.heap.size := (Array.getElem?_eq_some_iff.1 hb).1
  have hle : m * k ≤ cap * k := Nat.mul_le_mul_right k h1
  constructor
  · refine ⟨hl, .inr ⟨g, cap, putCells id 0 ys.toArray cur, rfl, Nat.zero_le _, ?_, h1, h2, by simp [putCells, h3], ?_⟩⟩
    · rw [heap_grow_old _ _ (by simpa using hg)]
      simp [putRow, mapBlock, Sort.ahead, Array.getElem?_modify, hb, onCells]
    · apply List.ext_getElem?
      intro j
      by_cases hj : j < m * k
      · rw [List.getElem?_take_of_lt hj, Array.getElem?_toList]
        simp [putCells, hl, hj, show j < cur.size by omega, show j < ys.length by omega]
      · rw [List.getElem?_take_eq_none (by omega), List.getElem?_eq_none (by omega)]
  · refine ⟨rfl, rfl, rfl, by simp, by simp, fun j hj hn => ?_⟩
    rw [heap_grow_old _ _ (by simpa using hj)]
    have : g ≠ j := fun e => hn (e ▸ hQ)
    simp [putRow, mapBlock, Sort.ahead, Array.getElem?_modify, this]
theorem not_own {g : Nat} : ¬ ownFp [] g := by rintro ⟨A, hA, _⟩; cases hA
section
variable {P : Program} {ρ : Ren}
theorem sortI_t (L : Lays.n189 P ρ) {T : TypeId} (hnone : Triple P (ρ.f 189) #[.slice none 0 0] [] (RVal (.tuple #[]))) (v : Value) (l : List Int) (hl : l.length < 4611686018427387904) :
    Triple P (ρ.f 189) #[v] [rowN T 1 v l.length (intsV l)] (RTurns (.tuple #[]) [rowN T 1 v l.length (intsV (l.mergeSort fun x y => decide (x ≤ y)))]) := by
  intro w hw ha
  have hrow := hw _ (List.mem_cons_self ..)
  have hlen : (intsV l).length = l.length * 1 := by simp [intsV]
  rcases hrow.2 with ⟨hv, h0⟩ | ⟨g0, cap, cur, hv, hB, hb, hnc, hcm, hcs, ht⟩
  · subst hv
    have : l = [] := List.eq_nil_of_length_eq_zero h0
    subst this
    refine (hnone w (fun A hA => by cases hA) .nil).mono ?_
    rintro e w' ⟨v, Γ', rfl, ⟨rfl, rfl⟩, hp⟩
    exact ⟨_, _, rfl, ⟨rfl, rfl⟩, .one (hp.mod.weaken fun g _ h => (not_own h).elim) ⟨by simp [intsV], .inl ⟨rfl, rfl⟩⟩ fun g hg => by cases hg⟩
  · subst hv
    have hblk : g0 < w.heap.size := (Array.getElem?_eq_some_iff.1 hb).1
    have hid : ∀ zs : List Int, ∀ w2 : World, putRow (Value.int .i64) w2 g0 0 zs.toArray = putRow id w2 g0 0 (intsV zs).toArray := fun zs w2 => by
      unfold putRow putCells
      congr 1
      funext c
      apply Array.ext
      · simp
      · intro i h1 h2
        simp [intsV]
        split
        · rename_i h9; simp [List.getElem?_eq_getElem h9]
        · rfl
    have hH : Sort.Holds (Value.int .i64) w g0 0 l.toArray := by
      have h2 := row_holds (k := 1) hb (by rw [hlen]; exact ht)
      intro j hj
      have hj' : j < (intsV l).toArray.size := by simpa [intsV] using hj
      have h3 := h2 j hj'
      refine ⟨?_, h3.2⟩
      have h4 := h3.1
      have hjl : j < l.length := by simpa using hj
      simpa [intsV, hjl] using h4
    have h := Any.slices_Sort_int L g0 0 cap l w hH hblk hl
    refine Calls.mono h ?_
    rintro e w' ⟨rfl, n, os, rfl⟩
    rw [hid]
    have hsl : (intsV (l.mergeSort fun x y => decide (x ≤ y))).length = l.length * 1 := by simp [intsV]
    have hfin := row_put (n := n) (os := os) hb hnc hcm hcs hsl (ownFp [rowN T 1 (.slice (some ⟨g0, 0, none⟩) l.length cap) l.length (intsV l)]) ⟨_, List.mem_singleton.2 rfl, rfl, rfl⟩
    exact ⟨_, _, rfl, ⟨rfl, rfl⟩, .one hfin.2 hfin.1 fun g' hg' => .inr (by cases hg'; exact ⟨_, List.mem_singleton.2 rfl, rfl, rfl⟩)⟩
end
theorem sort0_t : Triple Try.prog 75 #[.slice none 0 0] [] (RVal (.tuple #[])) := by
  intro w hw ha
  refine (Any.slices_Sort_int_none Try.sortI none 0 w).mono ?_
  rintro e w' ⟨rfl, rfl⟩
  exact ⟨_, _, rfl, ⟨rfl, rfl⟩, .nil (Mod.refl _ _)⟩
theorem sortInts_t (v : Value) (l : List Int) (hl : l.length < 4611686018427387904) :
    Triple Try.prog 75 #[v] [rowN 3 1 v l.length (intsV l)] (RTurns (.tuple #[]) [rowN 3 1 v l.length (intsV (l.mergeSort fun x y => decide (x ≤ y)))]) :=
  sortI_t Try.sortI sort0_t v l hl
end
end Go.Proofs.Ytepmikgjnmjheaa
