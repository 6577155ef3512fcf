/- Layer 20 (farm): what a farm has, plain. -/
import Derived.Test.YtpjfkomicehinaaGd
namespace Go.Proofs.Ytpjfkomicehinaa
set_option linter.unusedSimpArgs false
set_option linter.unusedVariables false
def findS (L : List Sb) (id : Int) : Option Sb := L.find? fun x => decide (x.s.id = id)
def doorS (L : List Sb) (d : Dr) : Option Sb := L.find? fun x => decide (x.s.door = d)
def SrtL (L : List Sb) : Prop := L.Pairwise fun a b => a.s.id < b.s.id
/-- What is known of the services. -/
structure LInv (L : List Sb) : Prop where
  srt : SrtL L
  bsrt : ∀ x ∈ L, SrtB x.bs
  uniq : ∀ x ∈ L, ∀ y ∈ L, x.s.door = y.s.door → x = y
  len : L.length ≤ 8
  blen : ∀ x ∈ L, x.bs.length ≤ 16
  idr : ∀ x ∈ L, 0 ≤ x.s.id ∧ x.s.id ≤ 65535
  portr : ∀ x ∈ L, x.s.port < 65536
structure PInv (L : List Sb) (F : FM) : Prop extends LInv L where
  perm : (F.ps.map PS.sb).Perm L
  door : ∀ d, mfind F.ds d = (doorS L d).map (·.s.id)
  dnd : (F.ds.map (·.1)).Nodup
  one : ∀ x ∈ F.ps, x.v.oneCell' = true
theorem SrtL.nodup {L : List Sb} (h : SrtL L) : (L.map (·.s.id)).Nodup := by
  unfold List.Nodup
  rw [List.pairwise_map]
  exact h.imp fun h => by omega
theorem SrtL.uniq {L : List Sb} (h : SrtL L) {x y : Sb} (hx : x ∈ L) (hy : y ∈ L) (he : x.s.id = y.s.id) : x = y := by
  obtain ⟨i, hi⟩ := List.getElem?_of_mem hx
  obtain ⟨j, hj⟩ := List.getElem?_of_mem hy
  obtain ⟨hil, hie⟩ := List.getElem?_eq_some_iff.1 hi
  obtain ⟨hjl, hje⟩ := List.getElem?_eq_some_iff.1 hj
  rcases Nat.lt_trichotomy i j with h1 | h1 | h1
  · have := List.pairwise_iff_getElem.1 h i j hil hjl h1
    rw [hie, hje] at this; omega
  · subst h1; rw [hi] at hj; exact Option.some.inj hj
  · have := List.pairwise_iff_getElem.1 h j i hjl hil h1
    rw [hie, hje] at this; omega
theorem findS_some {L : List Sb} {id : Int} {y : Sb} (h : findS L id = some y) : y ∈ L ∧ y.s.id = id :=
  ⟨List.mem_of_find?_eq_some h, by have := List.find?_some h; simpa using this⟩
theorem findS_none {L : List Sb} {id : Int} (h : findS L id = none) : ∀ y ∈ L, y.s.id ≠ id := fun y hy => by
  have := List.find?_eq_none.1 h y hy
  simpa using this
theorem findS_mem {L : List Sb} (hs : SrtL L) {y : Sb} (hy : y ∈ L) : findS L y.s.id = some y := by
  cases h : findS L y.s.id with
  | none => exact absurd rfl (findS_none h y hy)
  | some z =>
    obtain ⟨h1, h2⟩ := findS_some h
    rw [hs.uniq h1 hy h2]
theorem doorS_some {L : List Sb} {d : Dr} {y : Sb} (h : doorS L d = some y) : y ∈ L ∧ y.s.door = d :=
  ⟨List.mem_of_find?_eq_some h, by have := List.find?_some h; simpa using this⟩
theorem doorS_none {L : List Sb} {d : Dr} (h : doorS L d = none) : ∀ y ∈ L, y.s.door ≠ d := fun y hy => by
  have := List.find?_eq_none.1 h y hy
  simpa using this
theorem LInv.doorMem {L : List Sb} (h : LInv L) {y : Sb} (hy : y ∈ L) : doorS L y.s.door = some y := by
  cases hd : doorS L y.s.door with
  | none => exact absurd rfl (doorS_none hd y hy)
  | some z =>
    obtain ⟨h1, h2⟩ := doorS_some hd
    rw [h.uniq z h1 y hy h2]
theorem ies_keys {ps : List PS} : (ies ps).map (·.1) = (ps.map PS.sb).map (·.s.id) := by
  unfold ies
  rw [List.map_map, List.map_map]
  rfl
theorem PInv.ids {L : List Sb} {F : FM} (h : PInv L F) : ((ies F.ps).map (·.1)).Nodup := by
  rw [ies_keys]
  exact ((h.perm.map _).nodup_iff).2 h.srt.nodup
theorem ies_at {ps : List PS} {i : Nat} {x : PS} (h : ps[i]? = some x) : (ies ps)[i]? = some (x.s.id, some x.g) := by
  unfold ies; rw [List.getElem?_map, h]; rfl
/-- A service that is there, in memory. -/
theorem PInv.at {L : List Sb} {F : FM} (h : PInv L F) {id : Int} {y : Sb} (hf : findS L id = some y) : ∃ (A B : List PS) (x : PS), F.ps = A ++ x :: B ∧ x.sb = y ∧ x.s.id = id ∧ mfind (ies F.ps) id = some (some x.g) := by
  obtain ⟨hy, hid⟩ := findS_some hf
  have hy2 := h.perm.mem_iff.2 hy
  obtain ⟨x, hx, rfl⟩ := List.mem_map.1 hy2
  obtain ⟨A, B, hAB⟩ := List.append_of_mem hx
  refine ⟨A, B, x, hAB, rfl, hid, ?_⟩
  obtain ⟨i, hi⟩ := List.getElem?_of_mem hx
  exact (mfind_some h.ids (ies_at hi) hid).1
theorem PInv.no {L : List Sb} {F : FM} (h : PInv L F) {id : Int} (hf : findS L id = none) : mfind (ies F.ps) id = none := by
  refine (mfind_none fun x hx => ?_).1
  obtain ⟨y, hy, rfl⟩ := List.mem_map.1 hx
  exact findS_none hf y.sb (h.perm.mem_iff.1 (List.mem_map.2 ⟨y, hy, rfl⟩))
theorem PInv.len' {L : List Sb} {F : FM} (h : PInv L F) : (ies F.ps).length = L.length := by
  have := h.perm.length_eq
  unfold ies
  rw [List.length_map] at this ⊢
  exact this
theorem ids_sorted {L : List Sb} {F : FM} (h : PInv L F) : ((ies F.ps).map (·.1)).mergeSort (fun x y => decide (x ≤ y)) = L.map (·.s.id) := by
  have hp : ((ies F.ps).map (·.1)).Perm (L.map (·.s.id)) := by rw [ies_keys]; exact h.perm.map _
  have h1 : (((ies F.ps).map (·.1)).mergeSort (fun x y => decide (x ≤ y))).Pairwise (fun a b => a ≤ b) := by
    have := List.pairwise_mergeSort (le := fun (x y : Int) => decide (x ≤ y)) (fun a b c h1 h2 => by simp only [decide_eq_true_eq] at *; omega) (fun a b => by simp only [Bool.or_eq_true, decide_eq_true_eq]; omega) ((ies F.ps).map (·.1))
    exact this.imp fun h => by simpa using h
  have h2 : (L.map (·.s.id)).Pairwise (fun a b => a ≤ b) := by
    rw [List.pairwise_map]
    exact h.srt.imp fun h => by omega
  exact List.Perm.eq_of_pairwise (le := fun a b => a ≤ b) (fun a b _ _ h1 h2 => by omega) h1 h2 ((List.mergeSort_perm _ _).trans hp)
end Go.Proofs.Ytpjfkomicehinaa
