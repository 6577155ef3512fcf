/- Separation: a pool, several blocks of one type as one assertion. -/
import Derived.Test.YtpjfkomicehinaaMr
namespace Go.Proofs.Ytpjfkomicehinaa
open Go.RowKit
set_option linter.unusedSimpArgs false
set_option linter.unusedVariables false

/-- These blocks are one's own, and hold these cells. -/
def pool (T : TypeId) (f : Nat → Option Ch) : Asn where
  own := true
  fp := fun g => ∃ cs, f g = some cs
  holds := fun w => ∀ g cs, f g = some cs → (bx g T cs).holds w
  lt := fun w h g hg => by
    obtain ⟨cs, hcs⟩ := hg
    exact (bx g T cs).lt w (h g cs hcs) g rfl
  loc := fun w w' h hl g cs hcs => (bx g T cs).loc w w' (h g cs hcs) fun g' hg' => hl g' (by rw [show g' = g from hg']; exact ⟨cs, hcs⟩)
theorem pool_own {T : TypeId} {f : Nat → Option Ch} : (pool T f).own = true := rfl
def fset (f : Nat → Option Ch) (g : Nat) (cs : Ch) : Nat → Option Ch := fun g' => if g' = g then some cs else f g'
theorem fset_same {f : Nat → Option Ch} {g : Nat} {cs : Ch} : fset f g cs g = some cs := if_pos rfl
theorem fset_ne {f : Nat → Option Ch} {g g' : Nat} {cs : Ch} (h : g' ≠ g) : fset f g cs g' = f g' := if_neg h
section
variable {P : Program} {n : Nat} {W : World} {S : Nat → Prop} {Γ : List Asn} {F : List (Nat × Value)} {Q : Exit → Act → World → Prop} {ops : Array Oper} {os : List Oper}
variable {d : Option Tmp} {ty : TypeId} {pos : String} {af : Array Edge} {gd : Option (Nat × Bool)} {T T' : TypeId} {f : Nat → Option Ch} {g off : Nat} {cs : Ch}
theorem ReadR.loadP [hT : TyI P T false 1] {x : Operand} {vd : Value} (hm : pool T' f ∈ Γ) (hf : f g = some cs) (hs : sel cs off 1 = some [(1, [vd])]) (hx : evF F x = some (.pointer (some ⟨g, off, none⟩))) :
    ReadR P n Γ F ⟨d, .load T x, ty, pos, af, gd⟩ vd := fun ρ w hff hw => by
  have hb := hw _ hm g cs hf
  have hc : w.cell? ⟨g, off, none⟩ = some vd := by
    rw [bx_cell hb]
    exact sel_cells hs hb.2.len 0 vd rfl
  simp [execOp, hff.eval hx, Instr.loadAt, Instr.sureAddr, run_load1 (T := T) hc]
theorem ReadR.loadPA {sz : Nat} [hT : TyI P T true sz] {x : Operand} {ds : Ch} (hm : pool T' f ∈ Γ) (hf : f g = some cs) (hs : sel cs off sz = some ds) (hx : evF F x = some (.pointer (some ⟨g, off, none⟩))) :
    ReadR P n Γ F ⟨d, .load T x, ty, pos, af, gd⟩ (ag ds) := fun ρ w hff hw => by
  simp [execOp, hff.eval hx, Instr.loadAt, Instr.sureAddr, run_loadA (T := T) hs (hw _ hm g cs hf)]
theorem OpT.storeP {ag : Bool} {sz : Nat} {cs' new : Ch} {a x : Operand} {vd : Value} {Γf : List Asn} [hT : TyI P T ag sz] (ha : evF F a = some (.pointer (some ⟨g, off, none⟩))) (hx : evF F x = some vd) (hp : Takes Γ [pool T' f] Γf) (hf : f g = some cs) (hv : vd.cells = (flat new).toArray) (hn : FOk new) (ht : total new = sz) (hu : upd new cs off sz = some cs') :
    OpT P n Γ F ⟨d, .store T a x, ty, pos, af, gd⟩ [pool T' f] (RLeave [pool T' (fset f g cs')]) := fun ρ w hff hw _ => by
  have hb0 : (pool T' f).holds w := hw _ (hp.mem_iff.2 (List.mem_cons_self ..))
  have hb := hb0 g cs hf
  obtain ⟨h1, h2⟩ := run_store_bx (P := P) (T := T) hb hv hn ht hu
  have : (execOp ρ.eval ⟨d, .store T a x, ty, pos, af, gd⟩).run P w = .ok .skip (w.setRow g (flat cs').toArray) := by
    simp [execOp, hff.eval ha, hff.eval hx, Instr.storeAt, Instr.sureAddr, Sem.run_bind, h1]
  unfold DoesW
  rw [this]
  have hg : ∀ g', (pool T' f).fp g' → ownFp [pool T' f] g' := fun g' h' => ⟨_, List.mem_singleton.2 rfl, rfl, h'⟩
  refine ⟨_, rfl, .one (Mod.setRow (hg g ⟨cs, hf⟩) _ _) (fun g' ds hds => ?_) fun g' hg' => .inr (hg g' ?_)⟩
  · unfold fset at hds
    split at hds
    · rename_i e
      subst e
      cases hds
      exact h2
    · rename_i e
      have h3 := hb0 g' ds hds
      exact ⟨by rw [setRow_other w g g' _ (fun hh => e hh)]; exact h3.1, h3.2⟩
  · obtain ⟨ds, hds⟩ := hg'
    unfold fset at hds
    split at hds
    · rename_i e
      subst e
      exact ⟨cs, hf⟩
    · exact ⟨ds, hds⟩
theorem OpT.storeP1 {cs' : Ch} {a x : Operand} {vd : Value} {Γf : List Asn} [hT : TyI P T false 1] (ha : evF F a = some (.pointer (some ⟨g, off, none⟩))) (hx : evF F x = some vd) (hp : Takes Γ [pool T' f] Γf) (hf : f g = some cs) (h1 : vd.oneCell' = true) (hu : upd [(1, [vd])] cs off 1 = some cs') :
    OpT P n Γ F ⟨d, .store T a x, ty, pos, af, gd⟩ [pool T' f] (RLeave [pool T' (fset f g cs')]) := OpT.storeP (new := [(1, [vd])]) ha hx hp hf (by rw [cells_one h1]; rfl) (.one1 h1 .nil) rfl hu
theorem WPl.stP {cs' : Ch} {a x : Operand} {vd : Value} {Γf : List Asn} [hT : TyI P T false 1] (hf : f g = some cs) (k : WPl P n W S (pool T' (fset f g cs') :: Γf) F ops os Q)
    (ha : evF F a = some (.pointer (some ⟨g, off, none⟩)) := by first | rfl | fail) (hx : evF F x = some vd := by first | rfl | fail) (hp : Take Γ (pool T' f) Γf := by first | exact takeA | fail) (h1 : vd.oneCell' = true := by first | rfl | assumption | fail) (hu : upd [(1, [vd])] cs off 1 = some cs' := by first | (dsimp only [sel, takeCh, upd, dropCh, appCh, setAt, chAt, Option.map_some, List.cons_append, List.nil_append, Nat.reduceSub, Nat.reduceAdd] <;> exact rfl) | fail) (hw : wantG F ops gd = some true := by first | rfl | fail) :
    WPl P n W S Γ F ops (⟨none, .store T a x, ty, pos, af, gd⟩ :: os) Q := WPl.turn (.cons hp .nil) rfl hw (OpT.storeP (new := [(1, [vd])]) ha hx (.cons hp .nil) hf (by rw [cells_one h1]; rfl) (.one1 h1 .nil) rfl hu) k
theorem ownsP {Γ : List Asn} (h : ∀ A, A ∈ Γ → A.own = true := by ((repeat' (first | exact own_nil | refine own_cons (by first | exact bx_own | exact rowN_own | exact mp_own | exact pool_own | exact star_own | exact rfl) ?_ | fail)) <;> fail)) : ∀ A, A ∈ Γ → A.own = true := h
theorem WPq.dTp {fn : Func} {rs : List ResultVar} {vs : List Value} {c : Value} {Γ1 Γx : List Asn} {e : Exit} (he : e = .ret ∨ e = .normal := by first | exact .inl rfl | exact .inr rfl | fail) (hr : fn.results = rs.toArray := by first | rfl | fail) (h : ResF P Γ F rs vs := by first | exact resA | fail) (hp : Takes Γ Γ1 Γx := by first | exact takesA | fail) (hc : resV vs = c := by first | rfl | fail) (ho : ∀ A, A ∈ Γ1 → A.own = true := by first | exact ownsP | fail) :
    WPq n W S Γ F (Done P fn W S (RTurns c Γ1)) e := WPq.done he hr h hp ho ⟨hc, rfl⟩
theorem ReadR.minT {x y : Operand} {ts : Array TypeId} {k : IntKind} {a b c : Int} (h : (if b < a then b else a) = c) (hx : evF F x = some (.int k a)) (hy : evF F y = some (.int k b)) :
    ReadR P n Γ F ⟨d, .call { callee := .builtin .min, args := #[x, y], argTypes := ts }, ty, pos, af, gd⟩ (.int k c) := h ▸ ReadR.min hx hy
theorem ReadR.maxT {x y : Operand} {ts : Array TypeId} {k : IntKind} {a b c : Int} (h : (if a < b then b else a) = c) (hx : evF F x = some (.int k a)) (hy : evF F y = some (.int k b)) :
    ReadR P n Γ F ⟨d, .call { callee := .builtin .max, args := #[x, y], argTypes := ts }, ty, pos, af, gd⟩ (.int k c) := h ▸ ReadR.max hx hy
/-- What a call leaves, told by a law of it. -/
theorem WPq.dX {fn : Func} {rs : List ResultVar} {vs : List Value} {R : Value → List Asn → Prop} (Γ1 : List Asn) {Γx : List Asn} {e : Exit} (hR : R (resV vs) Γ1) (he : e = .ret ∨ e = .normal := by first | exact .inl rfl | exact .inr rfl | fail) (hr : fn.results = rs.toArray := by first | rfl | fail) (h : ResF P Γ F rs vs := by first | exact resA | fail) (hp : Takes Γ Γ1 Γx := by first | exact takesA | fail) (ho : ∀ A, A ∈ Γ1 → A.own = true := by first | exact ownsP | fail) :
    WPq n W S Γ F (Done P fn W S R) e := WPq.done he hr h hp ho hR
/-- The state told in other words. -/
theorem Good.conv {Γ' : List Asn} {w : World} (h : Good W S Γ w) (hh : Holds Γ w → Holds Γ' w) (ha : Γ.Pairwise Apart → Γ'.Pairwise Apart) (hf : ∀ A, A ∈ Γ' → A.own = true → ∀ g, A.fp g → ∃ B, B ∈ Γ ∧ B.own = true ∧ B.fp g) : Good W S Γ' w :=
  ⟨h.mod, hh h.all, ha h.apart, fun A hA ho g hg => by
    obtain ⟨B, hB, h1, h2⟩ := hf A hA ho g hg
    exact h.mine B hB h1 g h2⟩
/-- A block joins a pool. -/
theorem Good.poolIn {Γf : List Asn} {w : World} (h : Good W S (bx g T cs :: pool T f :: Γf) w) : f g = none ∧ Good W S (pool T (fset f g cs) :: Γf) w := by
  have h1 := h.apart
  rw [List.pairwise_cons, List.pairwise_cons] at h1
  obtain ⟨a1, a2, a3⟩ := h1
  have hn : f g = none := by
    cases hfg : f g with
    | none => rfl
    | some ds => exact (a1 _ (List.mem_cons_self ..) (.inl rfl) g rfl ⟨ds, hfg⟩).elim
  have hsub : ∀ g', (pool T (fset f g cs)).fp g' → g' = g ∨ (pool T f).fp g' := fun g' ⟨ds, hds⟩ => by
    unfold fset at hds
    split at hds
    · rename_i e; exact .inl e
    · exact .inr ⟨ds, hds⟩
  refine ⟨hn, h.conv (fun hh A hA => ?_) (fun _ => List.pairwise_cons.2 ⟨fun B hB hor g' hg' hB' => ?_, a3⟩) (fun A hA ho g' hg' => ?_)⟩
  · rcases List.mem_cons.1 hA with rfl | hA
    · intro g' ds hds
      unfold fset at hds
      split at hds
      · rename_i e
        subst e
        cases hds
        exact hh _ (List.mem_cons_self ..)
      · exact hh (pool T f) (List.mem_cons_of_mem _ (List.mem_cons_self ..)) g' ds hds
    · exact hh A (List.mem_cons_of_mem _ (List.mem_cons_of_mem _ hA))
  · rcases hsub g' hg' with h2 | h2
    · exact a1 B (List.mem_cons_of_mem _ hB) (.inl rfl) g' h2 hB'
    · exact a2 B hB (.inl rfl) g' h2 hB'
  · rcases List.mem_cons.1 hA with rfl | hA
    · rcases hsub g' hg' with h2 | h2
      · exact ⟨_, List.mem_cons_self .., rfl, h2⟩
      · exact ⟨pool T f, List.mem_cons_of_mem _ (List.mem_cons_self ..), rfl, h2⟩
    · exact ⟨A, List.mem_cons_of_mem _ (List.mem_cons_of_mem _ hA), ho, hg'⟩
theorem WPl.poolIn {Γf : List Asn} (k : f g = none → WPl P n W S (pool T (fset f g cs) :: Γf) F ops os Q) (hp : Takes Γ [bx g T cs, pool T f] Γf := by first | exact takesA | fail) : WPl P n W S Γ F ops os Q := fun a w hf hg =>
  let h := Good.poolIn (hg.perm hp)
  k h.1 a w hf h.2
theorem WPc.poolIn {c : Code} {Γf : List Asn} (k : f g = none → WPc P n W S (pool T (fset f g cs) :: Γf) F c Q) (hp : Takes Γ [bx g T cs, pool T f] Γf := by first | exact takesA | fail) : WPc P n W S Γ F c Q := fun a w hf hg =>
  let h := Good.poolIn (hg.perm hp)
  k h.1 a w hf h.2
theorem Good.pool0 {w : World} (T : TypeId) (h : Good W S Γ w) : Good W S (pool T (fun _ => none) :: Γ) w :=
  ⟨h.mod, fun A hA => by
    rcases List.mem_cons.1 hA with rfl | hA
    · intro g cs hcs; cases hcs
    · exact h.all A hA, List.pairwise_cons.2 ⟨fun B _ _ g ⟨cs, hcs⟩ _ => (by cases hcs), h.apart⟩, fun A hA ho g hg => by
    rcases List.mem_cons.1 hA with rfl | hA
    · obtain ⟨cs, hcs⟩ := hg; cases hcs
    · exact h.mine A hA ho g hg⟩
theorem WPc.pool0 {c : Code} (T : TypeId) (k : WPc P n W S (pool T (fun _ => none) :: Γ) F c Q) : WPc P n W S Γ F c Q := fun a w hf hg => k a w hf (hg.pool0 T)
theorem WPl.pool0 (T : TypeId) (k : WPl P n W S (pool T (fun _ => none) :: Γ) F ops os Q) : WPl P n W S Γ F ops os Q := fun a w hf hg => k a w hf (hg.pool0 T)
/-- Opened, closed: several assertions as one. -/
theorem Good.open' {Γ1 Γf : List Asn} {w : World} (ho : ∀ A, A ∈ Γ1 → A.own = true) (h : Good W S (star Γ1 :: Γf) w) : Good W S (Γ1 ++ Γf) w := by
  have h1 := h.apart
  rw [List.pairwise_cons] at h1
  have hs := h.all _ (List.mem_cons_self ..)
  refine h.conv (fun hh A hA => ?_) (fun _ => List.pairwise_append.2 ⟨hs.2, h1.2, fun A hA B hB hor g' hg' hB' => ?_⟩) (fun A hA ho' g' hg' => ?_)
  · rcases List.mem_append.1 hA with hA | hA
    · exact hs.1 A hA
    · exact hh A (List.mem_cons_of_mem _ hA)
  · exact h1.1 B hB (.inl rfl) g' ⟨A, hA, hg'⟩ hB'
  · rcases List.mem_append.1 hA with hA | hA
    · exact ⟨_, List.mem_cons_self .., rfl, A, hA, hg'⟩
    · exact ⟨A, List.mem_cons_of_mem _ hA, ho', hg'⟩
theorem Good.close {Γ1 Γf : List Asn} {w : World} (ho : ∀ A, A ∈ Γ1 → A.own = true) (h : Good W S (Γ1 ++ Γf) w) : Good W S (star Γ1 :: Γf) w := by
  obtain ⟨a1, a2, a3⟩ := List.pairwise_append.1 h.apart
  refine h.conv (fun hh A hA => ?_) (fun _ => List.pairwise_cons.2 ⟨fun B hB hor g' hg' hB' => ?_, a2⟩) (fun A hA ho' g' hg' => ?_)
  · rcases List.mem_cons.1 hA with rfl | hA
    · exact ⟨fun B hB => hh B (List.mem_append_left _ hB), a1⟩
    · exact hh A (List.mem_append_right _ hA)
  · obtain ⟨A, hA, hg'⟩ := hg'
    exact a3 A hA B hB (.inl (ho A hA)) g' hg' hB'
  · rcases List.mem_cons.1 hA with rfl | hA
    · obtain ⟨B, hB, hg'⟩ := hg'
      exact ⟨B, List.mem_append_left _ hB, ho B hB, hg'⟩
    · exact ⟨A, List.mem_append_right _ hA, ho', hg'⟩
theorem WPc.star {Γ1 Γf : List Asn} {c : Code} (k : WPc P n W S (Γ1 ++ Γf) F c Q) (ho : ∀ A, A ∈ Γ1 → A.own = true) (hp : Take Γ (star Γ1) Γf := by first | exact takeA | fail) : WPc P n W S Γ F c Q := fun a w hf hg => k a w hf ((hg.perm hp).open' ho)
theorem WPl.star {Γ1 Γf : List Asn} (k : WPl P n W S (Γ1 ++ Γf) F ops os Q) (ho : ∀ A, A ∈ Γ1 → A.own = true) (hp : Take Γ (star Γ1) Γf := by first | exact takeA | fail) : WPl P n W S Γ F ops os Q := fun a w hf hg => k a w hf ((hg.perm hp).open' ho)
end
end Go.Proofs.Ytpjfkomicehinaa
