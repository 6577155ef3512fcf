/- Layer 3 (dev): what waits, and what is left behind a loss of power: the program, and the reference. -/
import Derived.Test.YtepmikgjnmjheaaEc
namespace Go.Proofs.Ytepmikgjnmjheaa
open Go.RowKit
set_option linter.unusedSimpArgs false
set_option linter.unusedVariables false
set_option maxRecDepth 20000
set_option maxHeartbeats 4000000
attribute [local irreducible] WPc WPl WPq ReadR OpT BinR HasS bx rdN rowN Take Takes Prov Triple ResF BuildP Done ag Int.decLt Int.decLe Int.instDecidableEq
attribute [local irreducible] mp rmp rg rgo bag vrow secs mput mget mfind mdel intsV skeys vault pickG fburn fb1 valsV zAt zB vers crashT
theorem Triple.know {P : Program} {f : FuncId} {args : Array Value} {Γ : List Asn} {R : Value → List Asn → Prop} {p : Prop} (hk : ∀ w, (∀ A, A ∈ Γ → A.holds w) → p) (h : p → Triple P f args Γ R) : Triple P f args Γ R := by
  with_unfolding_all exact fun w hw ha => h (hk w hw) w hw ha
theorem uniqI {α : Type} {r : α → α → Prop} (hr : ∀ a b, r a b → r b a → False) : ∀ {A B : List α}, A.Perm B → A.Pairwise r → B.Pairwise r → A = B
  | [], B, hp, _, _ => by rw [List.nil_perm.1 hp]
  | a :: A, [], hp, _, _ => by have := hp.length_eq; simp at this
  | a :: A, b :: B, hp, ha, hb => by
    rw [List.pairwise_cons] at ha hb
    have hab : a = b := by
      rcases List.mem_cons.1 (hp.mem_iff.1 (List.mem_cons_self ..)) with h | h
      · exact h
      · rcases List.mem_cons.1 (hp.mem_iff.2 (List.mem_cons_self (a := b) (l := B))) with h2 | h2
        · exact h2.symm
        · exact (hr _ _ (ha.1 b h2) (hb.1 a h)).elim
    subst hab
    rw [uniqI hr (List.Perm.cons_inv hp) ha.2 hb.2]
/-- The sectors for which something waits, in order. -/
def Dv.wset (D : Dv) : List Nat := (List.range D.ls.length).filter fun j => !(D.ws j).isEmpty
def intsN (l : List Nat) : List Int := l.map fun (j : Nat) => (j : Int)
theorem intsN_len {l : List Nat} : (intsN l).length = l.length := by unfold intsN; rw [List.length_map]
theorem intsN_at {l : List Nat} {i j : Nat} (h : l[i]? = some j) : (intsN l)[i]? = some (j : Int) := by unfold intsN; rw [List.getElem?_map, h]; rfl
def cr1 {α : Type} (get : Nat → List α) (d : α) (l : List Int) (cur : List α) (k : Nat) (i : Nat) : List α :=
  match l[k]? with
  | none => cur
  | some a => if a ≤ 0 then cur else cur.set i ((get i).getD ((min a (get i).length).toNat - 1) d)
def crT {α : Type} (get : Nat → List α) (d : α) (l : List Int) (w : List Nat) : Nat → List α → List α
  | 0, ls => ls
  | k + 1, ls => cr1 get d l (crT get d l w k ls) k (w.getD k 0)
def Dv.crash (D : Dv) (l : List Int) : Dv := ⟨f4, crT D.ws (secF 0) l D.wset D.wset.length D.ls, fun _ => [], D.cn⟩
theorem cr1_len {α : Type} {get : Nat → List α} {d : α} {l : List Int} {cur : List α} {k i : Nat} : (cr1 get d l cur k i).length = cur.length := by
  unfold cr1
  cases l[k]? with
  | none => rfl
  | some a => dsimp only; split <;> simp
theorem crT_len {α : Type} {get : Nat → List α} {d : α} {l : List Int} {w : List Nat} {k : Nat} {ls : List α} : (crT get d l w k ls).length = ls.length := by
  induction k with
  | zero => rfl
  | succ k ih => show (cr1 get d l (crT get d l w k ls) k (w.getD k 0)).length = _; rw [cr1_len, ih]
theorem cr1_map {α β : Type} {get : Nat → List α} {d : α} {l : List Int} {cur : List α} {k i : Nat} (f : α → β) : (cr1 get d l cur k i).map f = cr1 (fun j => (get j).map f) (f d) l (cur.map f) k i := by
  unfold cr1
  cases l[k]? with
  | none => rfl
  | some a =>
    dsimp only
    by_cases h : a ≤ 0
    · rw [if_pos h, if_pos h]
    · rw [if_neg h, if_neg h, List.map_set, List.length_map]
      congr 1
      rw [List.getD_eq_getElem?_getD, List.getD_eq_getElem?_getD, List.getElem?_map]
      cases (get i)[(min a ((get i).length : Int)).toNat - 1]? <;> rfl
theorem crT_map {α β : Type} {get : Nat → List α} {d : α} {l : List Int} {w : List Nat} {k : Nat} {ls : List α} (f : α → β) : (crT get d l w k ls).map f = crT (fun j => (get j).map f) (f d) l w k (ls.map f) := by
  induction k with
  | zero => rfl
  | succ k ih => show (cr1 get d l (crT get d l w k ls) k (w.getD k 0)).map f = cr1 _ _ l (crT _ _ l w k (ls.map f)) k (w.getD k 0); rw [cr1_map, ih]
theorem wset_mem {D : Dv} {j : Nat} : j ∈ D.wset ↔ j < D.ls.length ∧ D.ws j ≠ [] := by
  unfold Dv.wset
  rw [List.mem_filter, List.mem_range]
  simp
theorem skeys_wset {n k : Nat} {S : DS} (h : DInv n k S) (hnd : (S.es.map (·.1)).Nodup) : skeys S.es = intsN S.vw.wset := by
  have hws : ∀ j : Nat, S.vw.ws j = (mget secM S.es (j : Int)).ws := fun j => rfl
  refine uniqI (r := fun a b => a < b) (fun a b h1 h2 => by omega) ?_ ?_ ?_
  · refine (List.perm_ext_iff_of_nodup ?_ ?_).2 fun i => ?_
    · with_unfolding_all (unfold skeys; exact (List.mergeSort_perm _ _).nodup_iff.2 hnd)
    · unfold intsN Dv.wset
      refine List.Pairwise.map _ (fun a b (h : a ≠ b) => by omega) ?_
      exact (List.nodup_range).filter _
    · have h1 : i ∈ skeys S.es ↔ i ∈ S.es.map (·.1) := by with_unfolding_all (unfold skeys; exact List.mem_mergeSort)
      rw [h1]
      unfold intsN
      rw [List.mem_map, List.mem_map]
      constructor
      · rintro ⟨z, hz, rfl⟩
        obtain ⟨⟨j, hj, hjn⟩, hne, _⟩ := h.ok.key z hz
        refine ⟨j, wset_mem.2 ⟨by show j < S.ls.length; rw [h.nl]; exact hjn, ?_⟩, hj.symm⟩
        obtain ⟨zk, zv⟩ := z
        dsimp only at hj hne
        subst hj
        have hf : mfind S.es (j : Int) = some zv := mfind_at hnd hz
        show S.vw.ws j ≠ []
        rw [hws, mget_of_find hf]
        exact hne
      · rintro ⟨j, hj, rfl⟩
        have h2 := (wset_mem.1 hj).2
        rw [hws, mget_ws] at h2
        cases hf : mfind S.es (j : Int) with
        | none => rw [hf] at h2; exact (h2 rfl).elim
        | some y => exact ⟨_, mfind_mem hf, rfl⟩
  · have h1 : (skeys S.es).Pairwise (fun a b => a ≤ b) := by
      with_unfolding_all
        unfold skeys
        have := List.pairwise_mergeSort (le := fun (x y : Int) => decide (x ≤ y)) (fun a b c h1 h2 => by simp only [decide_eq_true_eq] at *; omega) (fun a b => by simp only [Bool.or_eq_true, decide_eq_true_eq]; omega) (S.es.map (·.1))
        exact this.imp fun h => by simpa using h
    have h2 : (skeys S.es).Nodup := by with_unfolding_all (unfold skeys; exact (List.mergeSort_perm _ _).nodup_iff.2 hnd)
    exact (h1.and h2).imp fun ⟨a, b⟩ => by omega
  · unfold intsN Dv.wset
    refine List.Pairwise.map _ (fun a b (h : a < b) => by omega) ?_
    exact (List.pairwise_lt_range).filter _
end Go.Proofs.Ytepmikgjnmjheaa
