/- Layer 33 (bucket): the ring as a list: contracts. -/
import Derived.Test.YtncgponcedkihaaBw
namespace Go.Proofs.Ytncgponcedkihaa
open Go.RowKit
set_option linter.unusedSimpArgs false
set_option linter.unusedVariables false
section
variable (gB m : Nat) (per burst cl : Int) (f : Nat → Option Ch)
theorem out_l (A B : List Nd) (c : Nd) (hl : lnk f none (A ++ c :: B) none) (hn : (A ++ c :: B).Pairwise (fun a b => a.1 ≠ b.1)) :
    ∃ f', Triple Try.prog 85 #[hP' gB, hP' c.1] [(bx gB 131 (bkc (hdO none (A ++ c :: B)) (lsO none (A ++ c :: B)) per burst cl m)), (pool 135 f)] (RTurns (resV []) [(bx gB 131 (bkc (hdO none (A ++ B)) (lsO none (A ++ B)) per burst cl m)), (pool 135 f')]) ∧ lnk f' none (A ++ B) none ∧ f' c.1 = some (clc c.2 none none) := by
  obtain ⟨n1, n2, n3⟩ := ne_of_pw hn rfl
  obtain ⟨l1, l2, l3⟩ := lnk_append.1 hl
  rcases Classical.em (A = []) with rfl | hA
  · cases B with
    | nil => exact ⟨_, out00 gB m per burst cl f c.1 c.2 _ _ l2, trivial, fset_same⟩
    | cons b B' =>
      obtain ⟨l4, l5⟩ := l3
      have hb : b.1 ≠ c.1 := n2 b (List.mem_cons_self ..)
      have hB : ∀ x ∈ B', x.1 ≠ b.1 := fun x hx => ((List.pairwise_cons.1 n3).1 x hx).symm
      have hC : ∀ x ∈ B', x.1 ≠ c.1 := fun x hx => n2 x (List.mem_cons_of_mem _ hx)
      refine ⟨_, out01 gB m per burst cl f c.1 b.1 c.2 b.2 _ _ _ _ hb l2 l4, ⟨?_, ?_⟩, fset_same⟩
      · rw [fset_ne hb, fset_ne hb, fset_same]
      · exact lnk_frame (fun x hx => by rw [fset_ne (hC x hx), fset_ne (hC x hx), fset_ne (hB x hx)]) l5
  · obtain ⟨A', a, rfl⟩ := snoc_of hA
    obtain ⟨l6, l7, _⟩ := lnk_append.1 l1
    rw [lsO_snoc] at l2
    have ha : a.1 ≠ c.1 := n1 a (by simp)
    have hAc : ∀ x ∈ A', x.1 ≠ c.1 := fun x hx => n1 x (List.mem_append_left _ hx)
    have hAa : ∀ x ∈ A', x.1 ≠ a.1 := fun x hx => (List.pairwise_append.1 (List.pairwise_append.1 n3).1).2.2 x hx a (List.mem_singleton.2 rfl)
    cases B with
    | nil =>
      have h := out10 gB m per burst cl f c.1 a.1 c.2 a.2 (hdO none (A' ++ [a] ++ [c])) (lsO none (A' ++ [a] ++ [c])) _ _ ha l2 l7
      rw [List.append_nil, show lsO none (A' ++ [a]) = some a.1 from lsO_snoc]
      have e : hdO none (A' ++ [a] ++ [c]) = hdO none (A' ++ [a]) := by cases A' <;> rfl
      refine ⟨_, by rw [e] at h; rw [e]; exact h, lnk_append.2 ⟨?_, ?_, trivial⟩, fset_same⟩
      · exact lnk_frame (fun x hx => by rw [fset_ne (hAc x hx), fset_ne (hAc x hx), fset_ne (hAa x hx)]) l6
      · rw [fset_ne ha, fset_ne ha, fset_same]; rfl
    | cons b B' =>
      obtain ⟨l4, l5⟩ := l3
      have hb : b.1 ≠ c.1 := n2 b (List.mem_cons_self ..)
      have hC : ∀ x ∈ B', x.1 ≠ c.1 := fun x hx => n2 x (List.mem_cons_of_mem _ hx)
      obtain ⟨m1, m2, m3⟩ := List.pairwise_append.1 n3
      have hab : a.1 ≠ b.1 := m3 a (by simp) b (List.mem_cons_self ..)
      have hBa : ∀ x ∈ B', x.1 ≠ a.1 := fun x hx => (m3 a (by simp) x (List.mem_cons_of_mem _ hx)).symm
      have hBb : ∀ x ∈ B', x.1 ≠ b.1 := fun x hx => ((List.pairwise_cons.1 m2).1 x hx).symm
      have hAb : ∀ x ∈ A', x.1 ≠ b.1 := fun x hx => m3 x (List.mem_append_left _ hx) b (List.mem_cons_self ..)
      have h := out11 gB m per burst cl f c.1 a.1 b.1 c.2 a.2 b.2 (hdO none (A' ++ [a] ++ c :: b :: B')) (lsO none (A' ++ [a] ++ c :: b :: B')) _ _ _ _ ha hb hab l2 l7 l4
      have e1 : hdO none (A' ++ [a] ++ c :: b :: B') = hdO none (A' ++ [a] ++ b :: B') := by cases A' <;> rfl
      have e2 : lsO none (A' ++ [a] ++ c :: b :: B') = lsO none (A' ++ [a] ++ b :: B') := by rw [lsO_append (A := A' ++ [a]), lsO_append (A := A' ++ [a])]; rfl
      refine ⟨_, by rw [e1, e2] at h; rw [e1, e2]; exact h, lnk_append.2 ⟨lnk_append.2 ⟨?_, ?_, trivial⟩, ?_, ?_⟩, fset_same⟩
      · exact lnk_frame (fun x hx => by rw [fset_ne (hAc x hx), fset_ne (hAc x hx), fset_ne (hAb x hx), fset_ne (hAa x hx)]) l6
      · rw [fset_ne ha, fset_ne ha, fset_ne hab, fset_same]; rfl
      · rw [lsO_snoc, fset_ne hb, fset_ne hb, fset_same]
      · exact lnk_frame (fun x hx => by rw [fset_ne (hC x hx), fset_ne (hC x hx), fset_ne (hBb x hx), fset_ne (hBa x hx)]) l5
theorem ahead_l (L : List Nd) (c : Nd) (hl : lnk f none L none) (hc : f c.1 = some (clc c.2 none none)) (hn : ∀ x ∈ L, x.1 ≠ c.1) (hp : L.Pairwise (fun a b => a.1 ≠ b.1)) :
    ∃ f', Triple Try.prog 86 #[hP' gB, hP' c.1] [(bx gB 131 (bkc (hdO none L) (lsO none L) per burst cl m)), (pool 135 f)] (RTurns (resV []) [(bx gB 131 (bkc (some c.1) (lsO none (c :: L)) per burst cl m)), (pool 135 f')]) ∧ lnk f' none (c :: L) none := by
  cases L with
  | nil => exact ⟨_, ahead0 gB m per burst cl f c.1 c.2 _ hc, fset_same, trivial⟩
  | cons d L' =>
    obtain ⟨l1, l2⟩ := hl
    have hd : d.1 ≠ c.1 := hn d (List.mem_cons_self ..)
    refine ⟨_, ahead1 gB m per burst cl f c.1 d.1 c.2 d.2 _ _ _ hd hc l1, ?_, fset_same, ?_⟩
    · rw [fset_ne (Ne.symm hd), fset_same]; rfl
    · exact lnk_frame (fun x hx => by rw [fset_ne ((List.pairwise_cons.1 hp).1 x hx).symm, fset_ne (hn x (List.mem_cons_of_mem _ hx))]) l2
end
end Go.Proofs.Ytncgponcedkihaa
