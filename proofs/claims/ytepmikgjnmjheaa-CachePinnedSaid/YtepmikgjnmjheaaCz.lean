/- CachePinned: the plain facts. -/
import Derived.Test.YtepmikgjnmjheaaCacheThrough
namespace Go.Proofs.Ytepmikgjnmjheaa
set_option linter.unusedSimpArgs false
set_option linter.unusedVariables false
def npin (A : List (Option Fq)) : Nat := (A.filter fun x => decide (0 < qpins x)).length
theorem npin_set {A : List (Option Fq)} : ∀ {i : Nat} {y : Option Fq}, npin (A.set i y) ≤ npin A + if 0 < qpins y then 1 else 0 := by
  unfold npin
  induction A with
  | nil => intro i y; simp
  | cons a l ih =>
    intro i y
    cases i with
    | zero =>
      rw [List.set_cons_zero, List.filter_cons, List.filter_cons]
      by_cases h1 : 0 < qpins y
      · rw [if_pos (by simpa using h1), if_pos h1]
        split
        · simp
        · simp
      · rw [if_neg (by simpa using h1), if_neg h1]
        split
        · simp
        · simp
    | succ i =>
      have := ih (i := i) (y := y)
      rw [List.set_cons_succ, List.filter_cons, List.filter_cons]
      split
      · simp only [List.length_cons]; omega
      · exact this
theorem npin_set1 {A : List (Option Fq)} {i : Nat} {y : Option Fq} : npin (A.set i y) ≤ npin A + 1 := by
  have := npin_set (A := A) (i := i) (y := y)
  split at this <;> omega
theorem npin_set0 {A : List (Option Fq)} {i : Nat} {y : Option Fq} (hy : ¬ 0 < qpins y) : npin (A.set i y) ≤ npin A := by
  have := npin_set (A := A) (i := i) (y := y)
  rw [if_neg hy] at this
  exact this
theorem npin_all {A : List (Option Fq)} (h : ∀ (i : Nat) (x : Option Fq), A[i]? = some x → 0 < qpins x) : npin A = A.length := by
  unfold npin
  rw [List.filter_eq_self.2 fun x hx => ?_]
  obtain ⟨i, hi⟩ := List.getElem?_of_mem hx
  exact decide_eq_true (h i x hi)
/-- What is pinned. -/
structure PinI (A : List (Option Fq)) (held : List Int) : Prop where
  here : ∀ no ∈ held, ∃ (i : Nat) (f : Fq), A[i]? = some (some f) ∧ f.no = no ∧ 0 < f.pins
  few : npin A ≤ held.length
theorem PinI.new {A : List (Option Fq)} {held : List Int} {i : Nat} {x : Option Fq} {y : Fq} (h : PinI A held) (hx : A[i]? = some x) (hp : ¬ 0 < qpins x) (hy : y.pins = 0) : PinI (A.set i (some y)) held := by
  refine ⟨fun no hno => ?_, Nat.le_trans (npin_set0 (by show ¬ 0 < y.pins; omega)) h.few⟩
  obtain ⟨k, f, hk, h1, h2⟩ := h.here no hno
  have hki : i ≠ k := by
    rintro rfl
    rw [hx] at hk
    cases hk
    exact hp h2
  exact ⟨k, f, by rw [List.getElem?_set_ne hki]; exact hk, h1, h2⟩
theorem PinI.pin {A : List (Option Fq)} {held : List Int} {i : Nat} {f : Fq} (h : PinI A held) (hf : A[i]? = some (some f)) (h0 : 0 ≤ f.pins) : PinI (A.set i (some ⟨f.no, f.pins + 1, f.dirty, f.s⟩)) (held ++ [f.no]) := by
  have hi : i < A.length := (List.getElem?_eq_some_iff.1 hf).1
  refine ⟨fun no hno => ?_, by have := npin_set1 (A := A) (i := i) (y := some ⟨f.no, f.pins + 1, f.dirty, f.s⟩); have := h.few; rw [List.length_append]; show _ ≤ _ + 1; omega⟩
  rcases List.mem_append.1 hno with hno | hno
  · obtain ⟨k, g, hk, h1, h2⟩ := h.here no hno
    by_cases hki : i = k
    · subst hki
      rw [hf] at hk
      cases hk
      exact ⟨i, _, List.getElem?_set_self hi, h1, by show 0 < f.pins + 1; omega⟩
    · exact ⟨k, g, by rw [List.getElem?_set_ne hki]; exact hk, h1, h2⟩
  · rw [List.mem_singleton.1 hno]
    exact ⟨i, _, List.getElem?_set_self hi, rfl, by show 0 < f.pins + 1; omega⟩
/-- Get, whatever is pinned. -/
theorem KI.getAny {C : Cv} {D : Dv} {has : Nat → Sec} {n j : Nat} {held : List Int} (h : KI C.abs D has n) (hm : 0 < C.fs.length) (hh : C.hand < C.fs.length) (hj : j < n) (hp : PinI C.abs held) :
    KI (C.get D j).1.abs (C.get D j).2.1 has n ∧ PinI (C.get D j).1.abs held ∧ (((C.get D j).2.2.2 = 0 ∧ ∃ (i : Nat) (f : Fq), (C.get D j).1.abs[i]? = some (some f) ∧ f.no = (j : Int)) ∨ ((C.get D j).2.2.2 = 11 ∧ C.fs.length ≤ held.length)) := by
  by_cases hr : C.at (j : Int) = none ∧ ∀ (i : Nat) (x : Option Fq), C.abs[i]? = some x → 0 < qpins x
  · obtain ⟨hat, hall⟩ := hr
    rcases room_spec (C := C) (D := D) h.fu hm hh with ⟨i, x, h1, h2, _⟩ | ⟨_, h3, h4, h5⟩
    · exact absurd (hall i x h1) h2
    · have hget : C.get D j = ((C.room D).1, (C.room D).2.1, [], 11) := by
        unfold Cv.get
        rw [hat]
        dsimp only
        rw [show (C.room D).2.2.1 = none by rw [h3]]
        dsimp only
        rw [h3]
      rw [hget]
      dsimp only
      rw [h4, h5]
      refine ⟨h, hp, .inr ⟨rfl, ?_⟩⟩
      have := hp.few
      rw [npin_all hall] at this
      unfold Cv.abs at this
      rw [List.length_map] at this
      exact this
  · have hroom : C.at (j : Int) = none → ∃ (i : Nat) (x : Option Fq), C.abs[i]? = some x ∧ ¬ 0 < qpins x := by
      intro hat
      refine Classical.byContradiction fun hno => hr ⟨hat, fun i x hx => ?_⟩
      refine Classical.byContradiction fun hxp => hno ⟨i, x, hx, hxp⟩
    obtain ⟨q1, q2, q3, q4⟩ := h.get hm hh hj hroom
    refine ⟨q2, ?_, .inl ⟨by rw [q1], q4⟩⟩
    rcases q3 with e | ⟨i, x, s, hx, hxp, e⟩
    · rw [e]; exact hp
    · rw [e]; exact hp.new hx hxp rfl
theorem at_hits {C : Cv} {no : Int} (h : ∃ (i : Nat) (f : Fq), C.abs[i]? = some (some f) ∧ f.no = no) : ∃ (i : Nat) (g : Fp), C.at no = some i ∧ C.fs[i]? = some (some g) ∧ g.no = no := by
  cases hat : C.at no with
  | none =>
    obtain ⟨i, f, hf, hn⟩ := h
    exact absurd hn (at_none hat i f hf)
  | some i =>
    obtain ⟨g, hg, hgn⟩ := at_some hat
    exact ⟨i, g, rfl, hg, hgn⟩
theorem KI.pin {A : List (Option Fq)} {D : Dv} {has : Nat → Sec} {n i j : Nat} {f : Fq} (h : KI A D has n) (hi : A[i]? = some (some f)) (hfj : f.no = (j : Int)) (p : Int) : KI (A.set i (some ⟨f.no, p, f.dirty, f.s⟩)) D has n := by
  obtain ⟨j0, _, hj0, hs0, _⟩ := h.rng i f hi
  have hjj : j0 = j := by omega
  subst hjj
  have := h.hit hi hfj p f.dirty f.s (fun hd => ⟨hs0, hd⟩)
  rw [upd_same hs0] at this
  exact this
theorem mem_held {C : Cv} {no : Int} : no ∈ C.held ↔ ∃ (i : Nat) (f : Fq), C.abs[i]? = some (some f) ∧ f.no = no := by
  unfold Cv.held Cv.hnos
  rw [List.mem_mergeSort, List.mem_filterMap]
  constructor
  · rintro ⟨o, ho, h⟩
    cases o with
    | none => cases h
    | some g =>
      cases h
      obtain ⟨i, hi⟩ := List.getElem?_of_mem ho
      exact ⟨i, _, abs_get hi, rfl⟩
  · rintro ⟨i, f, hf, hn⟩
    obtain ⟨g, hg, rfl⟩ := abs_of hf
    exact ⟨some g, List.mem_of_getElem? hg, congrArg some hn⟩
theorem PinI.start {m : Nat} : PinI (Cv.mk (List.replicate m none) 0).abs [] := by
  refine ⟨(fun no hno => by cases hno), ?_⟩
  unfold npin
  rw [List.filter_eq_nil_iff.2 fun x hx => ?_]
  · exact Nat.le_refl _
  · unfold Cv.abs at hx
    rw [List.map_replicate] at hx
    rw [List.eq_of_mem_replicate hx]
    show ¬ decide ((0 : Int) < 0) = true
    simp
end Go.Proofs.Ytepmikgjnmjheaa
