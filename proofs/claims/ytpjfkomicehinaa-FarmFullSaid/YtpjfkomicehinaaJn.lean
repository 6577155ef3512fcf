/- Where ways meet; parts of what is read; stores into rows of structs. -/
import Derived.Test.YtpjfkomicehinaaMi
import Derived.Test.YtpjfkomicehinaaRw
namespace Go.Proofs.Ytpjfkomicehinaa
open Go.RowKit
set_option linter.unusedSimpArgs false
set_option linter.unusedVariables false
/-- A walk that waits. -/
structure Held (p : Prop) : Prop where
  it : p
section
variable {P : Program} {n : Nat} {W : World} {S : Nat → Prop} {Γ : List Asn} {F : List (Nat × Value)} {Q : Exit → Act → World → Prop} {ops : Array Oper} {os : List Oper}
variable {d : Option Tmp} {ty : TypeId} {pos : String} {af : Array Edge} {gd : Option (Nat × Bool)}
theorem wp_mono {c : Code} {Q Q' : Exit → Act → World → Prop} {a : Act} {w : World} (hq : ∀ e a w, Q e a w → Q' e a w) (h : c.wp P Q a w) : c.wp P Q' a w := fun b k cs => by
  obtain ⟨e, a', w', q, r⟩ := h b k cs
  exact ⟨e, a', w', hq _ _ _ q, r⟩
/-- Where ways meet: what is known there, over all s that are ok. -/
theorem WPc.join {σ : Type} {x y : Code} (ok : σ → Prop) (ΓI : σ → List Asn) (FI : σ → List (Nat × Value)) (h : WPc P n W S Γ F x (Exit.then (fun a w => ∃ s, ok s ∧ Fr n (FI s) a ∧ Good W S (ΓI s) w) Q)) (k : ∀ s, ok s → WPc P n W S (ΓI s) (FI s) y Q) : WPc P n W S Γ F (.seq x y) Q := fun a w hf hg =>
  wp_seq (wp_mono (fun e a w hq => by
    cases e with
    | normal => obtain ⟨s, h1, h2, h3⟩ := hq; exact k s h1 a w h2 h3
    | _ => exact hq) (h a w hf hg))
theorem WPq.join {σ : Type} {ok : σ → Prop} {ΓI : σ → List Asn} {FI : σ → List (Nat × Value)} {Γx : List Asn} (s : σ) (h0 : ok s) (hΓ : Takes Γ (ΓI s) Γx := by first | exact takesA | fail) (hF : FrSub F (FI s) := by first | exact frsA | fail) :
    WPq n W S Γ F (Exit.then (fun a w => ∃ s, ok s ∧ Fr n (FI s) a ∧ Good W S (ΓI s) w) Q) .normal :=
  fun a w hf hg => ⟨s, h0, hf.sub hF, (hg.perm hΓ).left⟩
theorem isSeqR (r : Nat) {ops : Array Oper} {b : Bool} {c y : Code} (h : WPc P n W S Γ F (.seq (.seq (.region r ops b) c) y) Q) : WPc P n W S Γ F (.seq (.seq (.region r ops b) c) y) Q := h
theorem isSeqB (id : Nat) {c y : Code} (h : WPc P n W S Γ F (.seq (.block id c) y) Q) : WPc P n W S Γ F (.seq (.block id c) y) Q := h
theorem isSeq1 (r : Nat) {ops : Array Oper} {b : Bool} {y : Code} (h : WPc P n W S Γ F (.seq (.region r ops b) y) Q) : WPc P n W S Γ F (.seq (.region r ops b) y) Q := h
/-- What follows of something that is only read, told beside it. -/
theorem Good.more {A B : Asn} {w : World} (hA : A ∈ Γ) (hAo : A.own = false) (hBo : B.own = false) (hfp : ∀ g, B.fp g → A.fp g) (hh : ∀ w, A.holds w → B.holds w) (h : Good W S Γ w) : Good W S (B :: Γ) w := by
  have h2 := h.dup hA hAo
  have ha := h2.apart
  rw [List.pairwise_cons] at ha
  refine ⟨h.mod, fun C hC => ?_, List.pairwise_cons.2 ⟨fun C hC hor g hg hg' => ?_, h.apart⟩, fun C hC => ?_⟩
  · rcases List.mem_cons.1 hC with rfl | hC
    · exact hh _ (h.all _ hA)
    · exact h.all C hC
  · refine ha.1 C hC ?_ g (hfp g hg) hg'
    rcases hor with hor | hor
    · rw [hBo] at hor; cases hor
    · exact .inr hor
  · rcases List.mem_cons.1 hC with rfl | hC
    · intro h'; rw [hBo] at h'; cases h'
    · exact h.mine C hC
theorem subv_block {sz : Nat} {v : Value} {k n : Nat} : ∀ g, (subv sz v k n).ownBlock = some g → v.ownBlock = some g := by
  intro g h
  unfold subv at h
  split at h
  · rename_i a m c
    simp only [Value.ownBlock, Option.map_some, Option.some.injEq] at h ⊢
    split at h <;> simpa [add_block] using h
  · exact h
/-- A part of what is read. -/
theorem WPc.subRd {c : Code} {v : Value} {m sz k j : Nat} {xs : List Value} (hm : rdN v m xs ∈ Γ) (hx : xs.length = m * sz) (hk : k + j ≤ m) (h : WPc P n W S (rdN (subv sz v k j) j ((xs.drop (k * sz)).take (j * sz)) :: Γ) F c Q) : WPc P n W S Γ F c Q := fun a w hf hg =>
  h a w hf (hg.more hm rfl rfl (fun g hg => ⟨fun e => hg.1 (by rw [e]; simp), subv_block g hg.2⟩) (fun w hw => Reads.sub hw hx hk))
theorem WPq.subRd {e : Exit} {v : Value} {m sz k j : Nat} {xs : List Value} (hm : rdN v m xs ∈ Γ) (hx : xs.length = m * sz) (hk : k + j ≤ m) (h : WPq n W S (rdN (subv sz v k j) j ((xs.drop (k * sz)).take (j * sz)) :: Γ) F Q e) : WPq n W S Γ F Q e := fun a w hf hg =>
  h a w hf (hg.more hm rfl rfl (fun g hg => ⟨fun e => hg.1 (by rw [e]; simp), subv_block g hg.2⟩) (fun w hw => Reads.sub hw hx hk))
/-! ### A store of one cell into a row of structs -/
theorem OpT.storeEN {T e : TypeId} {sz i m : Nat} {xs : List Value} {a x : Operand} {s v : Value} {Γf : List Asn} [hT : TyI P T false 1] (ha : evF F a = some (.pointer (some (ela s i)))) (hx : evF F x = some v) (hp : Takes Γ [rowN e sz s m xs] Γf) (h1 : v.oneCell' = true) (hi : i < xs.length) :
    OpT P n Γ F ⟨d, .store T a x, ty, pos, af, gd⟩ [rowN e sz s m xs] (RLeave [rowN e sz s m (xs.set i v)]) := fun ρ w hf hw _ => by
  have hb : (rowN e sz s m xs).holds w := hw _ (hp.mem_iff.2 (List.mem_cons_self ..))
  obtain ⟨h2, h3⟩ := hb
  have hm : m ≠ 0 := by rintro rfl; simp at h2; subst h2; simp at hi
  rcases h3 with ⟨_, h0⟩ | ⟨g, cap, cur, rfl, hB, hg, hnc, hcm, hcs, ht⟩
  · exact absurd h0 hm
  have hlt : i < cur.size := by
    rw [hcs]
    have e1 : xs.length = m * sz := h2
    have e2 : m * sz ≤ cap * sz := Nat.mul_le_mul_right sz hnc
    omega
  have hst := run_storeCells_at P g i e [v] 0 cur w hg (by simp; omega) (fun u hu => by rw [List.mem_singleton.1 hu]; exact h1)
  simp only [Nat.add_zero, List.length_singleton] at hst
  have e1 := List.set_eq_take_append_cons_drop (l := cur.toList) (i := i) (a := v)
  rw [if_pos (by simpa using hlt)] at e1
  rw [List.append_assoc, List.singleton_append, ← e1] at hst
  have : (execOp ρ.eval ⟨d, .store T a x, ty, pos, af, gd⟩).run P w = .ok .skip (w.setRow g (cur.toList.set i v).toArray) := by
    simp [execOp, hf.eval ha, hf.eval hx, Instr.storeAt, Instr.sureAddr, Sem.run_bind, storeVar, hT.run_sizeOf, cells_one h1, ela, add_mk, hst]
  unfold DoesW
  rw [this]
  have hg' : ownFp [rowN e sz (.slice (some ⟨g, 0, none⟩) m cap) m xs] g := ⟨_, List.mem_singleton.2 rfl, rfl, rfl⟩
  refine ⟨_, rfl, .one (Mod.setRow hg' _ _) ⟨by simpa using h2, .inr ⟨g, cap, _, rfl, hB, setRow_heap w g _ _ e (0, 0) hg, hnc, hcm, by simpa using hcs, ?_⟩⟩ fun k hk => .inr (by cases hk; exact hg')⟩
  rw [← ht]
  simp [List.take_set]
theorem WPl.stEN {T e : TypeId} {sz i m : Nat} {xs : List Value} {s v : Value} {a x : Operand} {Γf : List Asn} [hT : TyI P T false 1] (hi : i < xs.length) (k : WPl P n W S (rowN e sz s m (xs.set i v) :: Γf) F ops os Q)
    (ha : evF F a = some (.pointer (some (ela s i))) := by first | rfl | fail) (hx : evF F x = some v := by first | rfl | fail) (hp : Take Γ (rowN e sz s m xs) Γf := by first | exact takeA | fail) (h1 : v.oneCell' = true := by first | rfl | assumption | fail) (hw : wantG F ops gd = some true := by first | rfl | fail) :
    WPl P n W S Γ F ops (⟨none, .store T a x, ty, pos, af, gd⟩ :: os) Q := WPl.turn (.cons hp .nil) rfl hw (OpT.storeEN ha hx (.cons hp .nil) h1 hi) k
theorem rows_set {α : Type} {f : α → List Value} {sz : Nat} {x y : α} {o : Nat} {u : Value} (hf : ∀ x, (f x).length = sz) (hy : f y = (f x).set o u) (ho : o < sz) : ∀ {l : List α} {i : Nat}, l[i]? = some x → (l.map f).flatten.set (i * sz + o) u = ((l.set i y).map f).flatten
  | [], i, h => by simp at h
  | a :: l, 0, h => by
    simp only [List.getElem?_cons_zero, Option.some.injEq] at h
    subst h
    rw [Nat.zero_mul, Nat.zero_add, List.map_cons, List.flatten_cons, List.set_append_left _ _ (by rw [hf]; exact ho), ← hy]; rfl
  | a :: l, i + 1, h => by
    simp only [List.getElem?_cons_succ] at h
    rw [List.map_cons, List.flatten_cons, List.set_append_right _ _ (by rw [hf, Nat.succ_mul]; omega), hf, show (i + 1) * sz + o - sz = i * sz + o by rw [Nat.succ_mul]; omega, rows_set hf hy ho h]; rfl
theorem rows_sub {α : Type} {c : α → Ch} {sz : Nat} (hc : ∀ x, (flat (c x)).length = sz) : ∀ (l : List α) (k j : Nat), k + j ≤ l.length → ((l.map fun x => flat (c x)).flatten.drop (k * sz)).take (j * sz) = (((l.drop k).take j).map fun x => flat (c x)).flatten
  | l, 0, 0, _ => by simp
  | [], 0, j + 1, h => by simp at h
  | a :: l, 0, j + 1, h => by
    have ih := rows_sub hc l 0 j (by simp at h; omega)
    rw [Nat.zero_mul, List.drop_zero] at ih
    rw [Nat.zero_mul, List.drop_zero, List.drop_zero, List.take_succ_cons, List.map_cons, List.map_cons, List.flatten_cons, List.flatten_cons, Nat.succ_mul, Nat.add_comm, List.take_append, List.take_of_length_le (by rw [hc]; omega), hc, show sz + j * sz - sz = j * sz by omega, ih, List.drop_zero]
  | [], k + 1, j, h => by simp at h
  | a :: l, k + 1, j, h => by
    have ih := rows_sub hc l k j (by simp at h; omega)
    rw [List.map_cons, List.flatten_cons, Nat.succ_mul, Nat.add_comm, ← List.drop_drop, List.drop_left' (hc a), ih]
    rfl
end
end Go.Proofs.Ytpjfkomicehinaa
