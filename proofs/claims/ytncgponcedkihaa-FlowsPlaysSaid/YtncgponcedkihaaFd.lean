/- Layer 23 (flows): what is linked; flows that are let go. -/
import Derived.Test.YtncgponcedkihaaFc
import Derived.Test.YtncgponcedkihaaMi
namespace Go.Proofs.Ytncgponcedkihaa
open Go.RowKit
set_option linter.unusedSimpArgs false
set_option linter.unusedVariables false
set_option maxRecDepth 20000
set_option maxHeartbeats 4000000
attribute [local irreducible] WPc WPl WPq ReadR OpT BinR HasS bx rdN rowN Take Takes Prov Triple ResF BuildP Done ag Int.decLt Int.decLe Int.instDecidableEq
abbrev LL := List (Fl × En)
abbrev RR := List (Fl × Fl)
/-- The flows that are kept and their replies. -/
structure lkd (L : LL) (R : RR) : Prop where
  kn : (L.map (·.1)).Nodup
  rn : (R.map (·.1)).Nodup
  w1 : ∀ x ∈ L, flW x.1
  w2 : ∀ x ∈ L, flW (replyF x.1 x.2)
  li : ∀ r f, mfind R r = some f ↔ ∃ a, mfind L f = some a ∧ replyF f a = r
theorem lkd.nil : lkd [] [] := ⟨List.nodup_nil, List.nodup_nil, (fun _ h => by cases h), (fun _ h => by cases h), fun r f => by simp [mfind]⟩
theorem lkd.del {L : LL} {R : RR} {f : Fl} {a : En} (h : lkd L R) (hf : mfind L f = some a) : lkd (mdel L f) (mdel R (replyF f a)) := by
  refine ⟨mdel_keys h.kn, mdel_keys h.rn, fun x hx => h.w1 x (mdel_sub.subset hx), fun x hx => h.w2 x (mdel_sub.subset hx), fun r f' => ?_⟩
  rw [mfind_del h.rn, mfind_del h.kn]
  have h0 := (h.li (replyF f a) f).2 ⟨a, hf, rfl⟩
  by_cases e1 : replyF f a = r
  · rw [if_pos e1]
    refine ⟨fun q => (by cases q), fun ⟨a', q1, q2⟩ => ?_⟩
    by_cases e2 : f = f'
    · rw [if_pos e2] at q1; cases q1
    · rw [if_neg e2] at q1
      have := (h.li r f').2 ⟨a', q1, q2⟩
      rw [← e1, h0] at this
      exact (e2 (Option.some.inj this)).elim
  · rw [if_neg e1]
    by_cases e2 : f = f'
    · rw [if_pos e2]
      refine ⟨fun q => ?_, fun ⟨a', q1, _⟩ => by cases q1⟩
      obtain ⟨a', q1, q2⟩ := (h.li r f').1 q
      rw [← e2, hf] at q1
      cases q1
      rw [← e2] at q2
      exact (e1 q2).elim
    · rw [if_neg e2]; exact h.li r f'
theorem lkd.put {L : LL} {R : RR} {f : Fl} {a : En} (h : lkd L R) (hf : flW f) (hr : flW (replyF f a)) (h1 : mfind L f = none) (h2 : mfind R (replyF f a) = none) : lkd (mput L f a) (mput R (replyF f a) f) := by
  have e1 : mput L f a = L ++ [(f, a)] := (mfind_none (mfind_none_of h1)).2.1 a
  refine ⟨mput_keys h.kn, mput_keys h.rn, ?_, ?_, fun r f' => ?_⟩
  · rw [e1]; intro x hx
    rcases List.mem_append.1 hx with q | q
    · exact h.w1 x q
    · cases List.mem_singleton.1 q; exact hf
  · rw [e1]; intro x hx
    rcases List.mem_append.1 hx with q | q
    · exact h.w2 x q
    · cases List.mem_singleton.1 q; exact hr
  · rw [mfind_put, mfind_put]
    by_cases q1 : replyF f a = r
    · rw [if_pos q1]
      by_cases q2 : f = f'
      · rw [if_pos q2]
        exact ⟨fun _ => ⟨a, rfl, q2 ▸ q1⟩, fun _ => by rw [q2]⟩
      · rw [if_neg q2]
        refine ⟨fun q => (q2 (Option.some.inj q)).elim, fun ⟨a', p1, p2⟩ => ?_⟩
        have := (h.li r f').2 ⟨a', p1, p2⟩
        rw [← q1, h2] at this
        cases this
    · rw [if_neg q1]
      by_cases q2 : f = f'
      · rw [if_pos q2]
        refine ⟨fun q => ?_, fun ⟨a', p1, p2⟩ => ?_⟩
        · obtain ⟨a', p1, _⟩ := (h.li r f').1 q
          rw [← q2, h1] at p1
          cases p1
        · cases p1; exact (q1 (q2 ▸ p2)).elim
      · rw [if_neg q2]; exact h.li r f'
theorem sub_filter {α : Type} {q : α → Bool} : ∀ {l L : List α}, l.Sublist L → L.Nodup → (∀ x ∈ L, x ∈ l ↔ q x = true) → l = L.filter q := by
  intro l L hs
  induction hs with
  | slnil => intro _ _; rfl
  | @cons l L a hs ih =>
    intro hn hq
    rw [List.nodup_cons] at hn
    have hna : a ∉ l := fun hh => hn.1 (hs.subset hh)
    have hqa : ¬ q a = true := fun hh => hna ((hq a (List.mem_cons_self ..)).2 hh)
    rw [List.filter_cons_of_neg hqa]
    exact ih hn.2 fun x hx => hq x (List.mem_cons_of_mem _ hx)
  | @cons_cons l L a hs ih =>
    intro hn hq
    rw [List.nodup_cons] at hn
    have hqa : q a = true := (hq a (List.mem_cons_self ..)).1 (List.mem_cons_self ..)
    rw [List.filter_cons_of_pos hqa]
    congr 1
    refine ih hn.2 fun x hx => ?_
    have := hq x (List.mem_cons_of_mem _ hx)
    have hne : x ≠ a := fun e => hn.1 (e ▸ hx)
    rw [← this, List.mem_cons]
    exact ⟨.inr, fun h => h.resolve_left hne⟩
theorem nodup_of_map {α β : Type} {f : α → β} {l : List α} (h : (l.map f).Nodup) : l.Nodup := by
  unfold List.Nodup at h ⊢
  rw [List.pairwise_map] at h
  exact h.imp fun hh e => hh (by rw [e])
section
variable (gT m1 m2 : Nat) (most : Int)
attribute [local irreducible] mp rg mpe mget mfind mput mdel
theorem fdropR_t (r : Nat) (L td : LL) (cu : Option (Fl × En)) (R : RR) (f : Fl) (a : En) (hf : flW f) (hr : flW (replyF f a)) (ha : mget flM L f = a) (hb : mhas L f = true) :
    Triple Try.prog 61 #[hPf gT, ag (flc f)] [(bx gT 141 (fxc most m1 m2)), rg flM m1 r L td cu, mp rpM m2 R] (RTurns (.bool true) [(bx gT 141 (fxc most m1 m2)), rg flM m1 r (mdel L f) (td.filter (fun x => decide (x.1 ≠ f))) none, mp rpM m2 (mdel R (replyF f a))]) := by
  have l1 := f.src.len
  have l2 := f.dst.len
  have l3 := a.ad.len
  have hwf : flM.wf f := hf
  have hwr : rpM.wf (replyF f a) := hr
  have hget : flM.vc (mget flM L f) = ag (enC a) := by rw [ha]; rfl
  have c1 := freply_t f a
  obtain ⟨r0, hrr⟩ : ∃ r0, r0 = replyF f a := ⟨_, rfl⟩
  rw [← hrr] at hwr c1 ⊢
  clear hrr hr ha
  have l4 := r0.src.len
  have l5 := r0.dst.len
  refine Triple.enter Try.func61 rfl Try.ntmps61 rfl (fun W => ?_)
  dsimp only [argsF, Nat.reduceAdd]
  repeat' (first
   | refine WPl.nil ?_ | refine WPq.then ?_ | refine WPq.thenR ?_ | refine WPq.thenE ?_ | refine WPq.blockN ?_ | refine WPq.blockR ?_ | refine WPq.blockE ?_ | refine WPq.blockO rfl ?_ | refine WPc.seq ?_ | refine WPc.block ?_ | refine WPc.ret ?_ | refine WPc.exit ?_ | refine WPc.skip ?_ | refine WPc.region ?_
   | (refine isReg 1 ?_; refine WPc.drA [([], [5, 12]), ([0], [5, 8, 12]), ([0, 1], [5, 8, 9, 12]), ([0, 1, 2], [5, 8, 9, 10, 12]), ([], [5, 8, 9, 10, 11]), ([0, 1, 2, 3, 4], [5, 8, 9, 10, 11, 12]), ([0, 1, 2, 3, 4, 5], [5, 8, 9, 10, 11, 12, 13]), ([0, 1, 2, 3, 4, 5, 6], [5, 7, 8, 9, 10, 11, 12, 13, 15]), ([0, 1, 2, 3, 4, 5, 6], [5, 7, 8, 9, 10, 11, 12, 13, 14]), ([], [7, 8, 9, 10, 11, 12, 13, 14, 15]), ([0, 1, 2, 3, 4, 5, 6, 7, 9], [5, 7, 8, 9, 10, 11, 12, 13, 14, 15]), ([0, 1, 2, 3, 4, 5, 6, 7, 8, 9, 10], [5, 7, 8, 9, 10, 11, 12, 13, 14, 15])] [(9, 10)] (Γx := []) ?_; dsimp only [prev0, List.length_nil, List.length_cons])
   | (refine isReg 3 ?_; refine WPc.drA [([8], [21, 22, 23]), ([0, 8], [17, 21, 22, 23]), ([0, 1, 8], [17, 18, 21, 22, 23]), ([0, 1, 2, 8], [17, 18, 19, 21, 22, 23]), ([8], [17, 18, 19, 20, 22]), ([8], [17, 18, 19, 20, 21]), ([4, 5, 8], [17, 18, 19, 20, 21, 22]), ([0, 1, 2, 3, 4, 5, 6, 8], [17, 18, 19, 20, 21, 22, 23])] [(8, 7), (8, 0), (8, 1), (8, 2), (8, 3), (8, 4), (8, 5), (8, 6)] (Γx := [mp rpM m2 R]) (hox := ownsA) ?_; dsimp only [prev0, List.length_nil, List.length_cons])
   | (refine isReg 4 ?_; refine WPc.drA [([6], [28]), ([0, 6], [24, 28]), ([0, 1, 6], [24, 25, 28]), ([0, 1, 2, 6], [24, 25, 26, 28]), ([6], [24, 25, 26, 27]), ([0, 1, 2, 3, 4, 6], [24, 25, 26, 27, 28])] [(6, 5), (6, 0), (6, 1), (6, 2), (6, 3), (6, 4)] (Γx := [rg flM m1 r L td cu]) ?_; dsimp only [prev0, List.length_nil, List.length_cons])
   | (refine gAny ?_; first | (refine gC 23 ?_; refine RGl.vl (fun e hk => OpT.callN (c1)) ?_) | (refine gOp ?_; refine RGl.turn (fun e hk => by (try dsimp only [bndR, ensR, oksR, fcutR, List.append_nil, List.nil_append, List.cons_append, List.append_assoc] at hk ⊢); exact OpT.mdel (k := r0) (hwr) rfl rfl takesA) ?_) | (refine gD 13 ?_; refine RGl.rdX (fun e hk => by (try dsimp only [bndR, ensR, oksR, fcutR, List.append_nil, List.nil_append, List.cons_append, List.append_assoc] at hk ⊢); exact ReadR.lookOkR (M := flM) (k := f) hwf rfl rfl memA hget hb) ?_) | (refine gOp ?_; first | refine RGl.rdA ?_ | refine RGl.rdX (fun e hk => by (try dsimp only [bndR, ensR, oksR, fcutR, List.append_nil, List.nil_append, List.cons_append, List.append_assoc] at hk ⊢); exact readB) ?_) | (refine gAl ?_; refine RGl.nwA ?_) | (refine gSt ?_; refine RGl.stA ?_) | (refine RGl.fin (fun e hk => ?_); (try dsimp only [bndA, ensAR, oksA, List.append_nil, List.nil_append, List.cons_append, List.append_assoc] at hk ⊢); (repeat (obtain ⟨hk1, hk⟩ := hk))) | fail)
   | (refine isCond ?_; first | refine WPc.cT ?_ | refine WPc.cF ?_ | (refine WPc.cQ (fun hc => ?_) (fun hc => ?_) <;> try exact prA))
   | (refine isD 13 ?_; refine WPl.rdX (ReadR.lookOkR (M := flM) (k := f) hwf rfl rfl memA hget hb) ?_)
   | (refine isC 23 ?_; refine WPl.cV (c1) ?_)
   | (refine WPl.mdel (r0) (hwr) ?_)
   | (refine isOp ?_; first | refine WPl.rd ?_ | refine WPl.sk ?_ | refine WPl.rdB ?_)
   | (refine isAl ?_; refine WPl.nw fun g => ?_)
   | (refine isBx ?_; refine WPl.nw fun g => ?_)
   | (refine isSt ?_; first | refine WPl.st1 ?_ | refine WPl.stA ?_ | refine WPl.stEB ?_ | refine WPl.stRB ?_)
   | (show WPl _ _ _ _ _ _ _ (⟨_, .indexAddr _ _ _, _, _, _, _⟩ :: _) _; refine WPl.rdX (ReadR.indexE rfl rfl hasA (by first | assumption | omega)) ?_)
   | (show WPl _ _ _ _ _ _ _ (⟨_, .fieldAddr _ _ _, _, _, _, _⟩ :: _) _; refine WPl.rdX (ReadR.fieldE rfl hasA (by first | assumption | omega)) ?_)
   | (show WPl _ _ _ _ _ _ _ (⟨_, .load _ _, _, _, _, _⟩ :: _) _; first | refine WPl.rdX (ReadR.loadE rfl hasA (by assumption)) ?_ | refine WPl.rdX (ReadR.loadES (by assumption) (by first | assumption | omega) rfl hasA) ?_)
   | (show WPl _ _ _ _ _ _ _ (⟨_, .slice _ _ _ _ _, _, _, _, _⟩ :: _) _; first | refine WPl.rdX (ReadR.sliceH rfl rfl hasA (by omega)) ?_ | refine WPl.rdX (ReadR.sliceL rfl rfl hasA (by omega)) ?_ | refine WPl.rdX (ReadR.sliceLH rfl rfl rfl hasA (by omega) (by omega)) ?_)
   | (refine WPl.spQ (fun hc => ?_) (fun hc => ?_) <;> try exact prA)
   | fail)
  refine WPc.drA [([6], [28]), ([0, 6], [24, 28]), ([0, 1, 6], [24, 25, 28]), ([0, 1, 2, 6], [24, 25, 26, 28]), ([6], [24, 25, 26, 27]), ([0, 1, 2, 3, 4, 6], [24, 25, 26, 27, 28])] [(6, 5), (6, 0), (6, 1), (6, 2), (6, 3), (6, 4)] (Γx := [rg flM m1 r L td cu]) ?_ (hox := fun A hA => by cases List.mem_singleton.1 hA; exact rg_own)
  dsimp only [prev0, List.length_nil, List.length_cons]
  repeat' (first
   | refine WPl.nil ?_ | refine WPq.then ?_ | refine WPq.thenR ?_ | refine WPq.thenE ?_ | refine WPq.blockN ?_ | refine WPq.blockR ?_ | refine WPq.blockE ?_ | refine WPq.blockO rfl ?_ | refine WPc.seq ?_ | refine WPc.block ?_ | refine WPc.ret ?_ | refine WPc.exit ?_ | refine WPc.skip ?_ | refine WPc.region ?_
   | (refine isReg 1 ?_; refine WPc.drA [([], [5, 12]), ([0], [5, 8, 12]), ([0, 1], [5, 8, 9, 12]), ([0, 1, 2], [5, 8, 9, 10, 12]), ([], [5, 8, 9, 10, 11]), ([0, 1, 2, 3, 4], [5, 8, 9, 10, 11, 12]), ([0, 1, 2, 3, 4, 5], [5, 8, 9, 10, 11, 12, 13]), ([0, 1, 2, 3, 4, 5, 6], [5, 7, 8, 9, 10, 11, 12, 13, 15]), ([0, 1, 2, 3, 4, 5, 6], [5, 7, 8, 9, 10, 11, 12, 13, 14]), ([], [7, 8, 9, 10, 11, 12, 13, 14, 15]), ([0, 1, 2, 3, 4, 5, 6, 7, 9], [5, 7, 8, 9, 10, 11, 12, 13, 14, 15]), ([0, 1, 2, 3, 4, 5, 6, 7, 8, 9, 10], [5, 7, 8, 9, 10, 11, 12, 13, 14, 15])] [(9, 10)] (Γx := []) ?_; dsimp only [prev0, List.length_nil, List.length_cons])
   | (refine isReg 3 ?_; refine WPc.drA [([], [21, 22, 23]), ([0], [17, 21, 22, 23]), ([0, 1], [17, 18, 21, 22, 23]), ([0, 1, 2], [17, 18, 19, 21, 22, 23]), ([], [17, 18, 19, 20, 22]), ([], [17, 18, 19, 20, 21]), ([4, 5], [17, 18, 19, 20, 21, 22]), ([0, 1, 2, 3, 4, 5, 6], [17, 18, 19, 20, 21, 22, 23])] [] (Γx := []) ?_; dsimp only [prev0, List.length_nil, List.length_cons])
   | (refine isReg 4 ?_; refine WPc.drA [([], [28]), ([0], [24, 28]), ([0, 1], [24, 25, 28]), ([0, 1, 2], [24, 25, 26, 28]), ([], [24, 25, 26, 27]), ([0, 1, 2, 3, 4], [24, 25, 26, 27, 28])] [] (Γx := []) ?_; dsimp only [prev0, List.length_nil, List.length_cons])
   | (refine gAny ?_; first | (refine gOp ?_; refine RGl.turn (fun e hk => by (try dsimp only [bndR, ensR, oksR, fcutR, List.append_nil, List.nil_append, List.cons_append, List.append_assoc] at hk ⊢); exact OpT.mdelR (M := flM) (m := m1) (r := r) (l := L) (td := td) (c := cu) (k := f) hwf rfl rfl takesA) ?_) | (refine gOp ?_; first | refine RGl.rdA ?_ | refine RGl.rdX (fun e hk => by (try dsimp only [bndR, ensR, oksR, fcutR, List.append_nil, List.nil_append, List.cons_append, List.append_assoc] at hk ⊢); exact readB) ?_) | (refine gAl ?_; refine RGl.nwA ?_) | (refine gSt ?_; refine RGl.stA ?_) | (refine RGl.fin (fun e hk => ?_); (try dsimp only [bndA, ensAR, oksA, List.append_nil, List.nil_append, List.cons_append, List.append_assoc] at hk ⊢); (repeat (obtain ⟨hk1, hk⟩ := hk))) | fail)
   | (refine isCond ?_; first | refine WPc.cT ?_ | refine WPc.cF ?_ | (refine WPc.cQ (fun hc => ?_) (fun hc => ?_) <;> try exact prA))
   | (refine isOp ?_; first | refine WPl.rd ?_ | refine WPl.sk ?_ | refine WPl.rdB ?_)
   | (refine isAl ?_; refine WPl.nw fun g => ?_)
   | (refine isBx ?_; refine WPl.nw fun g => ?_)
   | (refine isSt ?_; first | refine WPl.st1 ?_ | refine WPl.stA ?_ | refine WPl.stEB ?_ | refine WPl.stRB ?_)
   | (show WPl _ _ _ _ _ _ _ (⟨_, .indexAddr _ _ _, _, _, _, _⟩ :: _) _; refine WPl.rdX (ReadR.indexE rfl rfl hasA (by first | assumption | omega)) ?_)
   | (show WPl _ _ _ _ _ _ _ (⟨_, .fieldAddr _ _ _, _, _, _, _⟩ :: _) _; refine WPl.rdX (ReadR.fieldE rfl hasA (by first | assumption | omega)) ?_)
   | (show WPl _ _ _ _ _ _ _ (⟨_, .load _ _, _, _, _, _⟩ :: _) _; first | refine WPl.rdX (ReadR.loadE rfl hasA (by assumption)) ?_ | refine WPl.rdX (ReadR.loadES (by assumption) (by first | assumption | omega) rfl hasA) ?_)
   | (show WPl _ _ _ _ _ _ _ (⟨_, .slice _ _ _ _ _, _, _, _, _⟩ :: _) _; first | refine WPl.rdX (ReadR.sliceH rfl rfl hasA (by omega)) ?_ | refine WPl.rdX (ReadR.sliceL rfl rfl hasA (by omega)) ?_ | refine WPl.rdX (ReadR.sliceLH rfl rfl rfl hasA (by omega) (by omega)) ?_)
   | (refine WPl.spQ (fun hc => ?_) (fun hc => ?_) <;> try exact prA)
   | fail)
  exact WPq.dTp (ho := fun A hA => by
    simp only [List.mem_cons, List.not_mem_nil, or_false] at hA
    rcases hA with rfl | rfl | rfl
    · exact bx_own
    · exact rg_own
    · exact mp_own)
end
end Go.Proofs.Ytncgponcedkihaa
