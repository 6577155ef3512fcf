/- Drawn regions with calls that are told by a relation; stores of structs into rows. -/
import Derived.Test.YtpjfkomicehinaaJn
namespace Go.Proofs.Ytpjfkomicehinaa
open Go.RowKit
set_option linter.unusedSimpArgs false
set_option linter.unusedVariables false
theorem Take.app {A : Asn} {B Γ Γ' : List Asn} (h : Take Γ A Γ') : Take (B ++ Γ) A (B ++ Γ') := (List.Perm.append_left B h).trans List.perm_middle
/-- What a list of what is owned is told by. -/
noncomputable def pickG {σ : Type} [Inhabited σ] (G : σ → List Asn) (ok : σ → Prop) (Γ : List Asn) : σ := Classical.epsilon (fun x => Γ = G x ∧ ok x)
section
variable {P : Program} {n : Nat} {Γ : List Asn} {F : List (Nat × Value)} {ops : Array Oper} {eats : List (Nat × Nat)} {K : Prev → Prop} {j : Nat} {os : List Oper} {o : Oper} {D bad : List Nat} {Ds : List (List Nat × List Nat)} {prev : Prev}
/-- In a drawn region: a call that is told by a relation, its value known. -/
theorem RGl.rel {R : Value → List Asn → Prop} {c : Value} {Γ1 : Env → List Asn} (hv : ∀ v Γ', R v Γ' → v = c) (h : ∀ e, oksR D e prev → OpT P n (ensR eats D j e prev ++ Γ) (bndR D e prev ++ fcutR bad F) o (Γ1 e) R)
    (k : RGl P n Γ F ops eats K (j + 1) os Ds ((j, o.dst, ⟨fun _ _ => c, fun _ r => r.2, fun _ r => R c r.2⟩) :: prev)) (hs : ∀ e, ∀ A, A ∈ Γ1 e → A ∈ eaten1R eats j e prev := by intro e A hA; first | exact hA | simpa [eaten1R, psp, or_comm] using hA) (hw : ∀ e, wantG (bndR D e prev ++ fcutR bad F) ops o.guard = some true := by intro e; first | rfl | fail) :
    RGl P n Γ F ops eats K j (o :: os) ((D, bad) :: Ds) prev :=
  RGl.stepR (fun e he => .op (hw e) (h e he) (hs e) (by intro v Γ' hR; have h1 := hv v Γ' hR; subst h1; exact ⟨rfl, rfl, hR⟩)) (fun e _ => ⟨rfl, rfl, rfl⟩) k
/-- The same, told by a state. -/
theorem RGl.relG {σ : Type} [Inhabited σ] {R : Value → List Asn → Prop} (c : Value) (G : σ → List Asn) (ok : σ → Prop) {Γ1 : Env → List Asn} (hR : ∀ v Γ', R v Γ' → v = c ∧ ∃ x, Γ' = G x ∧ ok x) (h : ∀ e, oksR D e prev → OpT P n (ensR eats D j e prev ++ Γ) (bndR D e prev ++ fcutR bad F) o (Γ1 e) R)
    (k : RGl P n Γ F ops eats K (j + 1) os Ds ((j, o.dst, ⟨fun _ _ => c, fun _ r => G (pickG G ok r.2), fun _ r => ok (pickG G ok r.2)⟩) :: prev)) (hs : ∀ e, ∀ A, A ∈ Γ1 e → A ∈ eaten1R eats j e prev := by intro e A hA; first | exact hA | simpa [eaten1R, psp, or_comm] using hA) (hw : ∀ e, wantG (bndR D e prev ++ fcutR bad F) ops o.guard = some true := by intro e; first | rfl | fail) :
    RGl P n Γ F ops eats K j (o :: os) ((D, bad) :: Ds) prev :=
  RGl.stepR (fun e he => .op (hw e) (h e he) (hs e) (by intro v Γ' hr; obtain ⟨h1, hx⟩ := hR v Γ' hr; have h2 := Classical.epsilon_spec hx; exact ⟨h1, h2.1, h2.2⟩)) (fun e _ => ⟨rfl, rfl, rfl⟩) k
variable {d : Option Tmp} {ty : TypeId} {pos : String} {af : Array Edge} {gd : Option (Nat × Bool)}
/-- A store of a struct into a row. -/
theorem OpT.storeES {T e : TypeId} {sz k i m : Nat} {xs : List Value} {new : Ch} {a x : Operand} {s : Value} {Γf : List Asn} [hT : TyI P T true k] (ha : evF F a = some (.pointer (some (ela s i)))) (hx : evF F x = some (ag new)) (hp : Takes Γ [rowN e sz s m xs] Γf) (hn : FOk new) (ht : total new = k) (hi : i + k ≤ xs.length) (hk0 : 0 < k) :
    OpT P n Γ F ⟨d, .store T a x, ty, pos, af, gd⟩ [rowN e sz s m xs] (RLeave [rowN e sz s m (xs.take i ++ flat new ++ xs.drop (i + k))]) := fun ρ w hf hw _ => by
  have hb : (rowN e sz s m xs).holds w := hw _ (hp.mem_iff.2 (List.mem_cons_self ..))
  obtain ⟨h2, h3⟩ := hb
  have hm : m ≠ 0 := by rintro rfl; simp at h2; subst h2; simp at hi; omega
  have hl : (flat new).length = k := by rw [flat_length hn.len, ht]
  rcases h3 with ⟨_, h0⟩ | ⟨g, cap, cur, rfl, hB, hg, hnc, hcm, hcs, htk⟩
  · exact absurd h0 hm
  have e1 : xs.length = m * sz := h2
  have e2 : m * sz ≤ cap * sz := Nat.mul_le_mul_right sz hnc
  have hlt : i + k ≤ cur.size := by rw [hcs]; omega
  have hst := run_storeCells_at P g i e (flat new) 0 cur w hg (by omega) hn.one
  simp only [Nat.add_zero, hl] at hst
  have hag : (ag new).cells = (flat new).toArray := by unfold ag; rfl
  have hs' : ¬ (flat new).length ≠ k := by omega
  have : (execOp ρ.eval ⟨d, .store T a x, ty, pos, af, gd⟩).run P w = .ok .skip (w.setRow g (cur.toList.take i ++ flat new ++ cur.toList.drop (i + k)).toArray) := by
    simp [execOp, hf.eval ha, hf.eval hx, Instr.storeAt, Instr.sureAddr, Sem.run_bind, storeVar, hT.run_sizeOf, hag, hl, ela, add_mk, hst]
  unfold DoesW
  rw [this]
  have hg' : ownFp [rowN e sz (.slice (some ⟨g, 0, none⟩) m cap) m xs] g := ⟨_, List.mem_singleton.2 rfl, rfl, rfl⟩
  refine ⟨_, rfl, .one (Mod.setRow hg' _ _) ⟨by simp [hl]; omega, .inr ⟨g, cap, _, rfl, hB, setRow_heap w g _ _ e (0, 0) hg, hnc, hcm, by simp [hl]; omega, ?_⟩⟩ fun k hk => .inr (by cases hk; exact hg')⟩
  have hcl : cur.toList.length = cur.size := by simp
  have h5 : xs.length = (cur.toList.take (m * sz)).length := by rw [← htk]
  rw [List.length_take] at h5
  have e5 : cur.toList.take i = xs.take i := by rw [← htk, List.take_take]; congr 1; omega
  have e6 : (cur.toList.drop (i + k)).take (m * sz - (i + k)) = xs.drop (i + k) := by rw [← htk, List.drop_take]
  have hA : (cur.toList.take i).length = i := by rw [List.length_take]; omega
  have g1 : i ≤ m * sz := by omega
  have g2 : k ≤ m * sz - i := by omega
  rw [List.toList_toArray, List.append_assoc, List.take_append, List.take_of_length_le (l := cur.toList.take i) (by omega), List.take_append, hA, List.take_of_length_le (l := flat new) (by omega), hl, e5, List.append_assoc]
  congr 2
  rw [← e6]
  congr 1
  omega
end
end Go.Proofs.Ytpjfkomicehinaa
