/- Layer 20 (farm): contracts: New, AddService, DropService, Drain, Weigh. -/
import Derived.Test.YtpjfkomicehinaaGk
namespace Go.Proofs.Ytpjfkomicehinaa
open Go.RowKit
set_option linter.unusedSimpArgs false
set_option linter.unusedVariables false
set_option maxRecDepth 20000
set_option maxHeartbeats 400000
attribute [local irreducible] WPc WPl WPq ReadR OpT BinR HasS bx rdN rowN Take Takes Prov Triple ResF BuildP Done ag Int.decLt Int.decLe Int.instDecidableEq
attribute [local irreducible] mp rmp rg rgo mput mget mfind mdel gbag bks ies lbB hasB findS doorS mpe
theorem ownsG {Γ : List Asn} (h : ∀ A, A ∈ Γ → A.own = true := by ((repeat' (first | exact own_nil | refine own_cons (by first | exact bx_own | exact rowN_own | exact mp_own | exact gbag_own | exact rfl) ?_ | fail)) <;> fail)) : ∀ A, A ∈ Γ → A.own = true := h
def RFm (gF mi md : Nat) (c : Value) (L : List Sb) : Value → List Asn → Prop := fun v Γ => ∃ F, v = c ∧ PInv L F ∧ Γ = fmA gF mi md F
def weighS (L : List Sb) (id b n : Int) : List Sb × Int := match findS L id with
  | none => (L, 6)
  | some y => if hasB y.bs b = true ∧ ¬ (0 ≤ n ∧ n ≤ 10) then (L, 1) else turnS L id b (setBy b fun k => { k with wt := n })
theorem PInv.empty : PInv [] ⟨[], []⟩ := by
  refine ⟨⟨List.Pairwise.nil, fun x hx => (by cases hx), fun x hx => (by cases hx), Nat.zero_le _, fun x hx => (by cases hx), fun x hx => (by cases hx), fun x hx => (by cases hx)⟩, .nil, fun d => ?_, List.Pairwise.nil, fun x hx => (by cases hx)⟩
  with_unfolding_all rfl
theorem gnew_t : Triple Try.prog 7 #[] [] (fun v Γ => ∃ gF mi md, v = hF gF ∧ Γ = fmA gF mi md ⟨[], []⟩) := by
  refine Triple.enter Try.func7 rfl Try.ntmps7 rfl (fun W => ?_)
  dsimp only [argsF, Nat.reduceAdd]
  repeat' (first
   | refine WPl.nil ?_ | refine WPq.then ?_ | refine WPq.thenR ?_ | refine WPq.thenE ?_ | refine WPq.blockN ?_ | refine WPq.blockR ?_ | refine WPq.blockE ?_ | refine WPq.blockO rfl ?_ | refine WPc.seq ?_ | refine WPc.block ?_ | refine WPc.ret ?_ | refine WPc.exit ?_ | refine WPc.skip ?_ | refine WPc.region ?_
   | (refine isCond ?_; first | refine WPc.cT ?_ | refine WPc.cF ?_ | (refine WPc.cQ (fun hc => ?_) (fun hc => ?_) <;> try exact prA))
   | (refine isD 1 ?_; refine WPl.mnew idM fun mi => ?_)
   | (refine isD 2 ?_; refine WPl.mnew drM fun md => ?_)
   | (refine isD 3 ?_; refine WPl.rdX (ReadR.build (cs' := fac mi md) buildA) ?_)
   | (refine isD 4 ?_; first | (refine isAl ?_; refine WPl.nw fun gF => ?_) | (refine isBx ?_; refine WPl.nw fun gF => ?_))
   | (refine isOp ?_; first | refine WPl.rd ?_ | refine WPl.sk ?_ | refine WPl.rdB ?_)
   | (refine isBx ?_; refine WPl.nw fun g => ?_)
   | (show WPl _ _ _ _ _ _ _ (⟨_, .indexAddr _ _ _, _, _, _, _⟩ :: _) _; refine WPl.rdX (ReadR.indexE rfl rfl hasA (by first | assumption | omega)) ?_)
   | (show WPl _ _ _ _ _ _ _ (⟨_, .fieldAddr _ _ _, _, _, _, _⟩ :: _) _; refine WPl.rdX (ReadR.fieldE rfl hasA (by first | assumption | omega)) ?_)
   | (show WPl _ _ _ _ _ _ _ (⟨_, .load _ _, _, _, _, _⟩ :: _) _; first | refine WPl.rdX (ReadR.loadE rfl hasA (by assumption)) ?_ | refine WPl.rdX (ReadR.loadES (by assumption) (by first | assumption | omega) rfl hasA) ?_)
   | (show WPl _ _ _ _ _ _ _ (⟨_, .slice _ _ _ _ _, _, _, _, _⟩ :: _) _; first | refine WPl.rdX (ReadR.sliceH rfl rfl hasA (by omega)) ?_ | refine WPl.rdX (ReadR.sliceL rfl rfl hasA (by omega)) ?_ | refine WPl.rdX (ReadR.sliceLH rfl rfl rfl hasA (by omega) (by omega)) ?_)
   | (refine WPl.spQ (fun hc => ?_) (fun hc => ?_) <;> try exact prA)
   | fail)
  refine WPq.gbag0 prow ?_
  refine WPq.dX (ho := ownsG) (vs := [hF gF]) [bx gF 66 (fac mi md), mp idM mi [], mp drM md [], gbag prow []] ⟨gF, mi, md, rfl, ?_⟩
  with_unfolding_all rfl
section
variable (gF mi md : Nat) (L : List Sb) (F : FM)
theorem gadd_t (h : PInv L F) (s : Sh) (vb : Value) (l : List Bk) (hv : vb.oneCell' = true) (hw : shW s) :
    Triple Try.prog 8 #[hF gF, ag (shC s vb)] (rdN vb l.length (bks l) :: fmA gF mi md F) (RFm gF mi md (.int .i64 (addS L s l.length).2) (addS L s l.length).1) := by
  have hfx := shC_ok (s := s) hv
  have hal := s.ad.len
  have c13 := gmay_t s vb l hv
  have c32 := gof_t s vb hv
  have hlen := h.len'
  have hll := h.len
  have e0 : bks ([] : List Bk) = [] := by with_unfolding_all rfl
  cases hm : mayS s l.length with
  | false =>
    have hr : addS L s l.length = (L, 1) := by unfold addS; rw [if_neg (by rw [hm]; simp)]
    rw [hr]
    rw [hm] at c13
    refine Triple.enter Try.func8 rfl Try.ntmps8 rfl (fun W => ?_)
    dsimp only [argsF, Nat.reduceAdd]
    repeat' (first
     | refine WPl.nil ?_ | refine WPq.then ?_ | refine WPq.thenR ?_ | refine WPq.thenE ?_ | refine WPq.blockN ?_ | refine WPq.blockR ?_ | refine WPq.blockE ?_ | refine WPq.blockO rfl ?_ | refine WPc.seq ?_ | refine WPc.block ?_ | refine WPc.ret ?_ | refine WPc.exit ?_ | refine WPc.skip ?_ | refine WPc.region ?_
     | (refine isCond ?_; first | refine WPc.cT ?_ | refine WPc.cF ?_ | (refine WPc.cQ (fun hc => ?_) (fun hc => ?_) <;> try exact prA))
     | (refine isD 3 ?_; first | (refine isAl ?_; refine WPl.nw fun g3 => ?_) | (refine isBx ?_; refine WPl.nw fun g3 => ?_))
     | (refine isD 10 ?_; refine WPl.rdX (readP) ?_)
     | (refine isC 13 ?_; refine WPl.cV c13 ?_ (hΔ := provsM))
     | (refine isOp ?_; first | refine WPl.rd ?_ | refine WPl.sk ?_ | refine WPl.rdB ?_)
     | (refine isBx ?_; refine WPl.nw fun g => ?_)
     | (refine isSt ?_; first | refine WPl.st1 ?_ | refine WPl.stA ?_ | refine WPl.stEB ?_ | refine WPl.stRB ?_)
     | (show WPl _ _ _ _ _ _ _ (⟨_, .indexAddr _ _ _, _, _, _, _⟩ :: _) _; refine WPl.rdX (ReadR.indexE rfl rfl hasA (by first | assumption | omega)) ?_)
     | (show WPl _ _ _ _ _ _ _ (⟨_, .fieldAddr _ _ _, _, _, _, _⟩ :: _) _; refine WPl.rdX (ReadR.fieldE rfl hasA (by first | assumption | omega)) ?_)
     | (show WPl _ _ _ _ _ _ _ (⟨_, .load _ _, _, _, _, _⟩ :: _) _; first | refine WPl.rdX (ReadR.loadE rfl hasA (by assumption)) ?_ | refine WPl.rdX (ReadR.loadES (by assumption) (by first | assumption | omega) rfl hasA) ?_)
     | (show WPl _ _ _ _ _ _ _ (⟨_, .slice _ _ _ _ _, _, _, _, _⟩ :: _) _; first | refine WPl.rdX (ReadR.sliceH rfl rfl hasA (by omega)) ?_ | refine WPl.rdX (ReadR.sliceL rfl rfl hasA (by omega)) ?_ | refine WPl.rdX (ReadR.sliceLH rfl rfl rfl hasA (by omega) (by omega)) ?_)
     | (refine WPl.spQ (fun hc => ?_) (fun hc => ?_) <;> try exact prA)
     | fail)
    exact WPq.dX (ho := ownsG) (vs := [.int .i64 1]) [bx gF 66 (fac mi md), mp idM mi (ies F.ps), mp drM md F.ds, gbag prow F.ps] ⟨F, rfl, h, rfl⟩
  | true =>
    rw [hm] at c13
    obtain ⟨hget, hb⟩ := ies_get (ps := F.ps) (sid := s.id) rfl
    obtain ⟨p1, hp1⟩ : ∃ p1, p1 = idM.vc (mget idM (ies F.ps) s.id) := ⟨_, rfl⟩
    obtain ⟨b1, hb1⟩ : ∃ b1, b1 = mhas (ies F.ps) s.id := ⟨_, rfl⟩
    have hb1f : b1 = (findS L s.id).isSome := by
      rw [hb1, hb]
      cases hf : findS L s.id with
      | none => rw [h.no hf]; rfl
      | some y => obtain ⟨A, B, x, _, _, _, hm⟩ := h.at hf; rw [hm]; rfl
    obtain ⟨n2, b2, hg2, hb2, hb2f⟩ : ∃ n2 b2, drM.vc (mget drM F.ds s.door) = .int .i64 n2 ∧ mhas F.ds s.door = b2 ∧ b2 = (doorS L s.door).isSome := by
      refine ⟨_, _, by with_unfolding_all rfl, rfl, ?_⟩
      have hd := h.door s.door
      with_unfolding_all
        unfold mhas
        rw [hd]
        cases doorS L s.door <;> rfl
    have hwi : idM.wf s.id := hw.1
    have hwd : drM.wf s.door := hw.2
    have hp1' := hp1.symm
    have hb1' := hb1.symm
    by_cases hth : (findS L s.id).isSome = true ∨ (doorS L s.door).isSome = true
    · have hr : addS L s l.length = (L, 7) := by unfold addS; rw [if_pos hm, if_pos hth]
      rw [hr]
      rw [← hb1f, ← hb2f] at hth
      clear hp1 hb1
      cases b1 with
      | true =>
        refine Triple.enter Try.func8 rfl Try.ntmps8 rfl (fun W => ?_)
        dsimp only [argsF, Nat.reduceAdd]
        repeat' (first
         | refine WPl.nil ?_ | refine WPq.then ?_ | refine WPq.thenR ?_ | refine WPq.thenE ?_ | refine WPq.blockN ?_ | refine WPq.blockR ?_ | refine WPq.blockE ?_ | refine WPq.blockO rfl ?_ | refine WPc.seq ?_ | refine WPc.block ?_ | refine WPc.ret ?_ | refine WPc.exit ?_ | refine WPc.skip ?_ | refine WPc.region ?_
         | (refine isReg 3 ?_; refine WPc.drA [([], [21, 22]), ([0], [17, 21, 22]), ([0, 1], [17, 18, 21, 22]), ([0, 1, 2], [17, 18, 19, 21, 22]), ([], [17, 18, 19, 20]), ([4], [17, 18, 19, 20, 21]), ([0, 1, 2, 3, 4, 5], [17, 18, 19, 20, 21, 22]), ([0, 1, 2, 3, 4, 5, 6], [17, 18, 19, 20, 21, 22, 23]), ([0, 1, 2, 3, 4, 5, 6, 7], [16, 17, 18, 19, 20, 21, 22, 23, 25]), ([0, 1, 2, 3, 4, 5, 6, 7], [5, 16, 17, 18, 19, 20, 21, 22, 23, 24]), ([0, 1, 2, 3, 4, 5, 6, 7, 8], [16, 17, 18, 19, 20, 21, 22, 23, 24, 25]), ([0, 1, 2, 3, 4, 5, 6, 7, 8, 9, 10], [5, 16, 17, 18, 19, 20, 21, 22, 23, 24, 25])] [] (Γx := []) ?_; dsimp only [prev0, List.length_nil, List.length_cons])
         | (refine isReg 4 ?_; refine WPc.drA [([], [31, 32]), ([0], [27, 31, 32]), ([0, 1], [27, 28, 31, 32]), ([0, 1, 2], [27, 28, 29, 31, 32]), ([], [27, 28, 29, 30]), ([4], [27, 28, 29, 30, 31]), ([0, 1, 2, 3, 4, 5], [27, 28, 29, 30, 31, 32]), ([0, 1, 2, 3, 4, 5, 6], [27, 28, 29, 30, 31, 32, 33]), ([0, 1, 2, 3, 4, 5, 6, 7], [26, 27, 28, 29, 30, 31, 32, 33, 35]), ([0, 1, 2, 3, 4, 5, 6, 7], [7, 26, 27, 28, 29, 30, 31, 32, 33, 34]), ([0, 1, 2, 3, 4, 5, 6, 7, 8], [26, 27, 28, 29, 30, 31, 32, 33, 34, 35]), ([0, 1, 2, 3, 4, 5, 6, 7, 8, 9, 10], [7, 26, 27, 28, 29, 30, 31, 32, 33, 34, 35])] [] (Γx := []) ?_; dsimp only [prev0, List.length_nil, List.length_cons])
         | (refine gAny ?_; first | (refine gC 32 ?_; refine RGl.vl (fun e hk => OpT.callN (c32)) ?_) | (refine gD 10 ?_; refine RGl.rdX (fun e hk => by (try dsimp only [bndR, ensR, oksR, fcutR, List.append_nil, List.nil_append, List.cons_append, List.append_assoc] at hk ⊢); exact readP) ?_) | (refine gD 23 ?_; refine RGl.rdX (fun e hk => by (try dsimp only [bndR, ensR, oksR, fcutR, List.append_nil, List.nil_append, List.cons_append, List.append_assoc] at hk ⊢); exact ReadR.lookOk (M := idM) (k := s.id) hwi rfl rfl memA hp1' hb1') ?_) | (refine gD 33 ?_; refine RGl.rdX (fun e hk => by (try dsimp only [bndR, ensR, oksR, fcutR, List.append_nil, List.nil_append, List.cons_append, List.append_assoc] at hk ⊢); exact ReadR.lookOk (M := drM) (k := s.door) hwd rfl rfl memA hg2 hb2) ?_) | (refine gOp ?_; first | refine RGl.rdA ?_ | refine RGl.rdX (fun e hk => by (try dsimp only [bndR, ensR, oksR, fcutR, List.append_nil, List.nil_append, List.cons_append, List.append_assoc] at hk ⊢); exact readB) ?_) | (refine RGl.fin (fun e hk => ?_); (try dsimp only [bndA, ensAR, oksA, List.append_nil, List.nil_append, List.cons_append, List.append_assoc] at hk ⊢); (repeat (obtain ⟨hk1, hk⟩ := hk))) | fail)
         | (refine isCond ?_; first | refine WPc.cT ?_ | refine WPc.cF ?_ | (refine WPc.cQ (fun hc => ?_) (fun hc => ?_) <;> try exact prA))
         | (refine isD 3 ?_; first | (refine isAl ?_; refine WPl.nw fun g3 => ?_) | (refine isBx ?_; refine WPl.nw fun g3 => ?_))
         | (refine isD 10 ?_; refine WPl.rdX (readP) ?_)
         | (refine isC 13 ?_; refine WPl.cV c13 ?_ (hΔ := provsM))
         | (refine isD 23 ?_; refine WPl.rdX (ReadR.lookOk (M := idM) (k := s.id) hwi rfl rfl memA hp1' hb1') ?_)
         | (refine isC 32 ?_; refine WPl.cV (c32) ?_)
         | (refine isD 33 ?_; refine WPl.rdX (ReadR.lookOk (M := drM) (k := s.door) hwd rfl rfl memA hg2 hb2) ?_)
         | (refine isOp ?_; first | refine WPl.rd ?_ | refine WPl.sk ?_ | refine WPl.rdB ?_)
         | (refine isBx ?_; refine WPl.nw fun g => ?_)
         | (refine isSt ?_; first | refine WPl.st1 ?_ | refine WPl.stA ?_ | refine WPl.stEB ?_ | refine WPl.stRB ?_)
         | (show WPl _ _ _ _ _ _ _ (⟨_, .indexAddr _ _ _, _, _, _, _⟩ :: _) _; refine WPl.rdX (ReadR.indexE rfl rfl hasA (by first | assumption | omega)) ?_)
         | (show WPl _ _ _ _ _ _ _ (⟨_, .fieldAddr _ _ _, _, _, _, _⟩ :: _) _; refine WPl.rdX (ReadR.fieldE rfl hasA (by first | assumption | omega)) ?_)
         | (show WPl _ _ _ _ _ _ _ (⟨_, .load _ _, _, _, _, _⟩ :: _) _; first | refine WPl.rdX (ReadR.loadE rfl hasA (by assumption)) ?_ | refine WPl.rdX (ReadR.loadES (by assumption) (by first | assumption | omega) rfl hasA) ?_)
         | (show WPl _ _ _ _ _ _ _ (⟨_, .slice _ _ _ _ _, _, _, _, _⟩ :: _) _; first | refine WPl.rdX (ReadR.sliceH rfl rfl hasA (by omega)) ?_ | refine WPl.rdX (ReadR.sliceL rfl rfl hasA (by omega)) ?_ | refine WPl.rdX (ReadR.sliceLH rfl rfl rfl hasA (by omega) (by omega)) ?_)
         | (refine WPl.spQ (fun hc => ?_) (fun hc => ?_) <;> try exact prA)
         | fail)
        exact WPq.dX (ho := ownsG) (vs := [.int .i64 7]) [bx gF 66 (fac mi md), mp idM mi (ies F.ps), mp drM md F.ds, gbag prow F.ps] ⟨F, rfl, h, rfl⟩
      | false =>
        have hbt : b2 = true := by rcases hth with hth | hth; cases hth; exact hth
        subst hbt
        refine Triple.enter Try.func8 rfl Try.ntmps8 rfl (fun W => ?_)
        dsimp only [argsF, Nat.reduceAdd]
        repeat' (first
         | refine WPl.nil ?_ | refine WPq.then ?_ | refine WPq.thenR ?_ | refine WPq.thenE ?_ | refine WPq.blockN ?_ | refine WPq.blockR ?_ | refine WPq.blockE ?_ | refine WPq.blockO rfl ?_ | refine WPc.seq ?_ | refine WPc.block ?_ | refine WPc.ret ?_ | refine WPc.exit ?_ | refine WPc.skip ?_ | refine WPc.region ?_
         | (refine isReg 3 ?_; refine WPc.drA [([], [21, 22]), ([0], [17, 21, 22]), ([0, 1], [17, 18, 21, 22]), ([0, 1, 2], [17, 18, 19, 21, 22]), ([], [17, 18, 19, 20]), ([4], [17, 18, 19, 20, 21]), ([0, 1, 2, 3, 4, 5], [17, 18, 19, 20, 21, 22]), ([0, 1, 2, 3, 4, 5, 6], [17, 18, 19, 20, 21, 22, 23]), ([0, 1, 2, 3, 4, 5, 6, 7], [16, 17, 18, 19, 20, 21, 22, 23, 25]), ([0, 1, 2, 3, 4, 5, 6, 7], [5, 16, 17, 18, 19, 20, 21, 22, 23, 24]), ([0, 1, 2, 3, 4, 5, 6, 7, 8], [16, 17, 18, 19, 20, 21, 22, 23, 24, 25]), ([0, 1, 2, 3, 4, 5, 6, 7, 8, 9, 10], [5, 16, 17, 18, 19, 20, 21, 22, 23, 24, 25])] [] (Γx := []) ?_; dsimp only [prev0, List.length_nil, List.length_cons])
         | (refine isReg 4 ?_; refine WPc.drA [([], [31, 32]), ([0], [27, 31, 32]), ([0, 1], [27, 28, 31, 32]), ([0, 1, 2], [27, 28, 29, 31, 32]), ([], [27, 28, 29, 30]), ([4], [27, 28, 29, 30, 31]), ([0, 1, 2, 3, 4, 5], [27, 28, 29, 30, 31, 32]), ([0, 1, 2, 3, 4, 5, 6], [27, 28, 29, 30, 31, 32, 33]), ([0, 1, 2, 3, 4, 5, 6, 7], [26, 27, 28, 29, 30, 31, 32, 33, 35]), ([0, 1, 2, 3, 4, 5, 6, 7], [7, 26, 27, 28, 29, 30, 31, 32, 33, 34]), ([0, 1, 2, 3, 4, 5, 6, 7, 8], [26, 27, 28, 29, 30, 31, 32, 33, 34, 35]), ([0, 1, 2, 3, 4, 5, 6, 7, 8, 9, 10], [7, 26, 27, 28, 29, 30, 31, 32, 33, 34, 35])] [] (Γx := []) ?_; dsimp only [prev0, List.length_nil, List.length_cons])
         | (refine gAny ?_; first | (refine gC 32 ?_; refine RGl.vl (fun e hk => OpT.callN (c32)) ?_) | (refine gD 10 ?_; refine RGl.rdX (fun e hk => by (try dsimp only [bndR, ensR, oksR, fcutR, List.append_nil, List.nil_append, List.cons_append, List.append_assoc] at hk ⊢); exact readP) ?_) | (refine gD 23 ?_; refine RGl.rdX (fun e hk => by (try dsimp only [bndR, ensR, oksR, fcutR, List.append_nil, List.nil_append, List.cons_append, List.append_assoc] at hk ⊢); exact ReadR.lookOk (M := idM) (k := s.id) hwi rfl rfl memA hp1' hb1') ?_) | (refine gD 33 ?_; refine RGl.rdX (fun e hk => by (try dsimp only [bndR, ensR, oksR, fcutR, List.append_nil, List.nil_append, List.cons_append, List.append_assoc] at hk ⊢); exact ReadR.lookOk (M := drM) (k := s.door) hwd rfl rfl memA hg2 hb2) ?_) | (refine gOp ?_; first | refine RGl.rdA ?_ | refine RGl.rdX (fun e hk => by (try dsimp only [bndR, ensR, oksR, fcutR, List.append_nil, List.nil_append, List.cons_append, List.append_assoc] at hk ⊢); exact readB) ?_) | (refine RGl.fin (fun e hk => ?_); (try dsimp only [bndA, ensAR, oksA, List.append_nil, List.nil_append, List.cons_append, List.append_assoc] at hk ⊢); (repeat (obtain ⟨hk1, hk⟩ := hk))) | fail)
         | (refine isCond ?_; first | refine WPc.cT ?_ | refine WPc.cF ?_ | (refine WPc.cQ (fun hc => ?_) (fun hc => ?_) <;> try exact prA))
         | (refine isD 3 ?_; first | (refine isAl ?_; refine WPl.nw fun g3 => ?_) | (refine isBx ?_; refine WPl.nw fun g3 => ?_))
         | (refine isD 10 ?_; refine WPl.rdX (readP) ?_)
         | (refine isC 13 ?_; refine WPl.cV c13 ?_ (hΔ := provsM))
         | (refine isD 23 ?_; refine WPl.rdX (ReadR.lookOk (M := idM) (k := s.id) hwi rfl rfl memA hp1' hb1') ?_)
         | (refine isC 32 ?_; refine WPl.cV (c32) ?_)
         | (refine isD 33 ?_; refine WPl.rdX (ReadR.lookOk (M := drM) (k := s.door) hwd rfl rfl memA hg2 hb2) ?_)
         | (refine isOp ?_; first | refine WPl.rd ?_ | refine WPl.sk ?_ | refine WPl.rdB ?_)
         | (refine isBx ?_; refine WPl.nw fun g => ?_)
         | (refine isSt ?_; first | refine WPl.st1 ?_ | refine WPl.stA ?_ | refine WPl.stEB ?_ | refine WPl.stRB ?_)
         | (show WPl _ _ _ _ _ _ _ (⟨_, .indexAddr _ _ _, _, _, _, _⟩ :: _) _; refine WPl.rdX (ReadR.indexE rfl rfl hasA (by first | assumption | omega)) ?_)
         | (show WPl _ _ _ _ _ _ _ (⟨_, .fieldAddr _ _ _, _, _, _, _⟩ :: _) _; refine WPl.rdX (ReadR.fieldE rfl hasA (by first | assumption | omega)) ?_)
         | (show WPl _ _ _ _ _ _ _ (⟨_, .load _ _, _, _, _, _⟩ :: _) _; first | refine WPl.rdX (ReadR.loadE rfl hasA (by assumption)) ?_ | refine WPl.rdX (ReadR.loadES (by assumption) (by first | assumption | omega) rfl hasA) ?_)
         | (show WPl _ _ _ _ _ _ _ (⟨_, .slice _ _ _ _ _, _, _, _, _⟩ :: _) _; first | refine WPl.rdX (ReadR.sliceH rfl rfl hasA (by omega)) ?_ | refine WPl.rdX (ReadR.sliceL rfl rfl hasA (by omega)) ?_ | refine WPl.rdX (ReadR.sliceLH rfl rfl rfl hasA (by omega) (by omega)) ?_)
         | (refine WPl.spQ (fun hc => ?_) (fun hc => ?_) <;> try exact prA)
         | fail)
        exact WPq.dX (ho := ownsG) (vs := [.int .i64 7]) [bx gF 66 (fac mi md), mp idM mi (ies F.ps), mp drM md F.ds, gbag prow F.ps] ⟨F, rfl, h, rfl⟩
    · have h1 : findS L s.id = none := by cases hf : findS L s.id with | none => rfl | some y => exact (hth (.inl (by rw [hf]; rfl))).elim
      have h2 : doorS L s.door = none := by cases hf : doorS L s.door with | none => rfl | some y => exact (hth (.inr (by rw [hf]; rfl))).elim
      rw [h1] at hb1f
      rw [h2] at hb2f
      have hb1f : b1 = false := hb1f
      have hb2f : b2 = false := hb2f
      clear hp1 hb1
      subst hb1f hb2f
      by_cases h8 : 8 ≤ L.length
      · have hr : addS L s l.length = (L, 2) := by unfold addS; rw [if_pos hm, if_neg hth, if_pos h8]
        rw [hr]
        have hge : ((ies F.ps).length : Int) ≥ 8 := by omega
        refine Triple.enter Try.func8 rfl Try.ntmps8 rfl (fun W => ?_)
        dsimp only [argsF, Nat.reduceAdd]
        repeat' (first
         | refine WPl.nil ?_ | refine WPq.then ?_ | refine WPq.thenR ?_ | refine WPq.thenE ?_ | refine WPq.blockN ?_ | refine WPq.blockR ?_ | refine WPq.blockE ?_ | refine WPq.blockO rfl ?_ | refine WPc.seq ?_ | refine WPc.block ?_ | refine WPc.ret ?_ | refine WPc.exit ?_ | refine WPc.skip ?_ | refine WPc.region ?_
         | (refine isReg 3 ?_; refine WPc.drA [([], [21, 22]), ([0], [17, 21, 22]), ([0, 1], [17, 18, 21, 22]), ([0, 1, 2], [17, 18, 19, 21, 22]), ([], [17, 18, 19, 20]), ([4], [17, 18, 19, 20, 21]), ([0, 1, 2, 3, 4, 5], [17, 18, 19, 20, 21, 22]), ([0, 1, 2, 3, 4, 5, 6], [17, 18, 19, 20, 21, 22, 23]), ([0, 1, 2, 3, 4, 5, 6, 7], [16, 17, 18, 19, 20, 21, 22, 23, 25]), ([0, 1, 2, 3, 4, 5, 6, 7], [5, 16, 17, 18, 19, 20, 21, 22, 23, 24]), ([0, 1, 2, 3, 4, 5, 6, 7, 8], [16, 17, 18, 19, 20, 21, 22, 23, 24, 25]), ([0, 1, 2, 3, 4, 5, 6, 7, 8, 9, 10], [5, 16, 17, 18, 19, 20, 21, 22, 23, 24, 25])] [] (Γx := []) ?_; dsimp only [prev0, List.length_nil, List.length_cons])
         | (refine isReg 4 ?_; refine WPc.drA [([], [31, 32]), ([0], [27, 31, 32]), ([0, 1], [27, 28, 31, 32]), ([0, 1, 2], [27, 28, 29, 31, 32]), ([], [27, 28, 29, 30]), ([4], [27, 28, 29, 30, 31]), ([0, 1, 2, 3, 4, 5], [27, 28, 29, 30, 31, 32]), ([0, 1, 2, 3, 4, 5, 6], [27, 28, 29, 30, 31, 32, 33]), ([0, 1, 2, 3, 4, 5, 6, 7], [26, 27, 28, 29, 30, 31, 32, 33, 35]), ([0, 1, 2, 3, 4, 5, 6, 7], [7, 26, 27, 28, 29, 30, 31, 32, 33, 34]), ([0, 1, 2, 3, 4, 5, 6, 7, 8], [26, 27, 28, 29, 30, 31, 32, 33, 34, 35]), ([0, 1, 2, 3, 4, 5, 6, 7, 8, 9, 10], [7, 26, 27, 28, 29, 30, 31, 32, 33, 34, 35])] [] (Γx := []) ?_; dsimp only [prev0, List.length_nil, List.length_cons])
         | (refine gAny ?_; first | (refine gC 32 ?_; refine RGl.vl (fun e hk => OpT.callN (c32)) ?_) | (refine gD 10 ?_; refine RGl.rdX (fun e hk => by (try dsimp only [bndR, ensR, oksR, fcutR, List.append_nil, List.nil_append, List.cons_append, List.append_assoc] at hk ⊢); exact readP) ?_) | (refine gD 23 ?_; refine RGl.rdX (fun e hk => by (try dsimp only [bndR, ensR, oksR, fcutR, List.append_nil, List.nil_append, List.cons_append, List.append_assoc] at hk ⊢); exact ReadR.lookOk (M := idM) (k := s.id) hwi rfl rfl memA hp1' hb1') ?_) | (refine gD 33 ?_; refine RGl.rdX (fun e hk => by (try dsimp only [bndR, ensR, oksR, fcutR, List.append_nil, List.nil_append, List.cons_append, List.append_assoc] at hk ⊢); exact ReadR.lookOk (M := drM) (k := s.door) hwd rfl rfl memA hg2 hb2) ?_) | (refine gD 46 ?_; refine RGl.rdX (fun e hk => by (try dsimp only [bndR, ensR, oksR, fcutR, List.append_nil, List.nil_append, List.cons_append, List.append_assoc] at hk ⊢); exact ReadR.mlen rfl memA) ?_) | (refine gD 47 ?_; refine RGl.rdX (fun e hk => by (try dsimp only [bndR, ensR, oksR, fcutR, List.append_nil, List.nil_append, List.cons_append, List.append_assoc] at hk ⊢); exact ReadR.binE rfl rfl BinR.geq (congrArg Value.bool (decide_eq_true hge))) ?_) | (refine gOp ?_; first | refine RGl.rdA ?_ | refine RGl.rdX (fun e hk => by (try dsimp only [bndR, ensR, oksR, fcutR, List.append_nil, List.nil_append, List.cons_append, List.append_assoc] at hk ⊢); exact readB) ?_) | (refine RGl.fin (fun e hk => ?_); (try dsimp only [bndA, ensAR, oksA, List.append_nil, List.nil_append, List.cons_append, List.append_assoc] at hk ⊢); (repeat (obtain ⟨hk1, hk⟩ := hk))) | fail)
         | (refine isCond ?_; first | refine WPc.cT ?_ | refine WPc.cF ?_ | (refine WPc.cQ (fun hc => ?_) (fun hc => ?_) <;> try exact prA))
         | (refine isD 3 ?_; first | (refine isAl ?_; refine WPl.nw fun g3 => ?_) | (refine isBx ?_; refine WPl.nw fun g3 => ?_))
         | (refine isD 10 ?_; refine WPl.rdX (readP) ?_)
         | (refine isC 13 ?_; refine WPl.cV c13 ?_ (hΔ := provsM))
         | (refine isD 23 ?_; refine WPl.rdX (ReadR.lookOk (M := idM) (k := s.id) hwi rfl rfl memA hp1' hb1') ?_)
         | (refine isC 32 ?_; refine WPl.cV (c32) ?_)
         | (refine isD 33 ?_; refine WPl.rdX (ReadR.lookOk (M := drM) (k := s.door) hwd rfl rfl memA hg2 hb2) ?_)
         | (refine isD 46 ?_; refine WPl.rdX (ReadR.mlen rfl memA) ?_)
         | (refine isD 47 ?_; refine WPl.rdX (ReadR.binE rfl rfl BinR.geq (congrArg Value.bool (decide_eq_true hge))) ?_)
         | (refine isOp ?_; first | refine WPl.rd ?_ | refine WPl.sk ?_ | refine WPl.rdB ?_)
         | (refine isBx ?_; refine WPl.nw fun g => ?_)
         | (refine isSt ?_; first | refine WPl.st1 ?_ | refine WPl.stA ?_ | refine WPl.stEB ?_ | refine WPl.stRB ?_)
         | (show WPl _ _ _ _ _ _ _ (⟨_, .indexAddr _ _ _, _, _, _, _⟩ :: _) _; refine WPl.rdX (ReadR.indexE rfl rfl hasA (by first | assumption | omega)) ?_)
         | (show WPl _ _ _ _ _ _ _ (⟨_, .fieldAddr _ _ _, _, _, _, _⟩ :: _) _; refine WPl.rdX (ReadR.fieldE rfl hasA (by first | assumption | omega)) ?_)
         | (show WPl _ _ _ _ _ _ _ (⟨_, .load _ _, _, _, _, _⟩ :: _) _; first | refine WPl.rdX (ReadR.loadE rfl hasA (by assumption)) ?_ | refine WPl.rdX (ReadR.loadES (by assumption) (by first | assumption | omega) rfl hasA) ?_)
         | (show WPl _ _ _ _ _ _ _ (⟨_, .slice _ _ _ _ _, _, _, _, _⟩ :: _) _; first | refine WPl.rdX (ReadR.sliceH rfl rfl hasA (by omega)) ?_ | refine WPl.rdX (ReadR.sliceL rfl rfl hasA (by omega)) ?_ | refine WPl.rdX (ReadR.sliceLH rfl rfl rfl hasA (by omega) (by omega)) ?_)
         | (refine WPl.spQ (fun hc => ?_) (fun hc => ?_) <;> try exact prA)
         | fail)
        exact WPq.dX (ho := ownsG) (vs := [.int .i64 2]) [bx gF 66 (fac mi md), mp idM mi (ies F.ps), mp drM md F.ds, gbag prow F.ps] ⟨F, rfl, h, rfl⟩
      · have hr : addS L s l.length = (insS L ⟨s, []⟩, 0) := by unfold addS; rw [if_pos hm, if_neg hth, if_neg h8]
        rw [hr]
        have hge : ¬ ((ies F.ps).length : Int) ≥ 8 := by omega
        have hpi := fun g => PInv.ins (g := g) h hw hm h1 h2 (by omega)
        have c60 := gof_t s (.slice none 0 0) rfl
        refine Triple.enter Try.func8 rfl Try.ntmps8 rfl (fun W => ?_)
        dsimp only [argsF, Nat.reduceAdd]
        refine WPc.nilRowN 36 21 ?_
        repeat' (first
         | refine WPl.nil ?_ | refine WPq.then ?_ | refine WPq.thenR ?_ | refine WPq.thenE ?_ | refine WPq.blockN ?_ | refine WPq.blockR ?_ | refine WPq.blockE ?_ | refine WPq.blockO rfl ?_ | refine WPc.seq ?_ | refine WPc.block ?_ | refine WPc.ret ?_ | refine WPc.exit ?_ | refine WPc.skip ?_ | refine WPc.region ?_
         | (refine isReg 3 ?_; refine WPc.drA [([], [21, 22]), ([0], [17, 21, 22]), ([0, 1], [17, 18, 21, 22]), ([0, 1, 2], [17, 18, 19, 21, 22]), ([], [17, 18, 19, 20]), ([4], [17, 18, 19, 20, 21]), ([0, 1, 2, 3, 4, 5], [17, 18, 19, 20, 21, 22]), ([0, 1, 2, 3, 4, 5, 6], [17, 18, 19, 20, 21, 22, 23]), ([0, 1, 2, 3, 4, 5, 6, 7], [16, 17, 18, 19, 20, 21, 22, 23, 25]), ([0, 1, 2, 3, 4, 5, 6, 7], [5, 16, 17, 18, 19, 20, 21, 22, 23, 24]), ([0, 1, 2, 3, 4, 5, 6, 7, 8], [16, 17, 18, 19, 20, 21, 22, 23, 24, 25]), ([0, 1, 2, 3, 4, 5, 6, 7, 8, 9, 10], [5, 16, 17, 18, 19, 20, 21, 22, 23, 24, 25])] [] (Γx := []) ?_; dsimp only [prev0, List.length_nil, List.length_cons])
         | (refine isReg 4 ?_; refine WPc.drA [([], [31, 32]), ([0], [27, 31, 32]), ([0, 1], [27, 28, 31, 32]), ([0, 1, 2], [27, 28, 29, 31, 32]), ([], [27, 28, 29, 30]), ([4], [27, 28, 29, 30, 31]), ([0, 1, 2, 3, 4, 5], [27, 28, 29, 30, 31, 32]), ([0, 1, 2, 3, 4, 5, 6], [27, 28, 29, 30, 31, 32, 33]), ([0, 1, 2, 3, 4, 5, 6, 7], [26, 27, 28, 29, 30, 31, 32, 33, 35]), ([0, 1, 2, 3, 4, 5, 6, 7], [7, 26, 27, 28, 29, 30, 31, 32, 33, 34]), ([0, 1, 2, 3, 4, 5, 6, 7, 8], [26, 27, 28, 29, 30, 31, 32, 33, 34, 35]), ([0, 1, 2, 3, 4, 5, 6, 7, 8, 9, 10], [7, 26, 27, 28, 29, 30, 31, 32, 33, 34, 35])] [] (Γx := []) ?_; dsimp only [prev0, List.length_nil, List.length_cons])
         | (refine isReg 10 ?_; refine WPc.drA [([20, 21], [53, 54, 55, 56, 57, 58, 59, 60, 61, 62]), ([0, 20, 21], [49, 53, 54, 55, 56, 57, 58, 59, 60, 61, 62]), ([0, 1, 20, 21], [49, 50, 53, 54, 55, 56, 57, 58, 59, 60, 61, 62]), ([0, 1, 2, 20, 21], [49, 50, 51, 53, 54, 55, 56, 57, 58, 59, 60, 61, 62]), ([20, 21], [49, 50, 51, 52, 55, 56, 57, 58, 59, 60, 61, 62]), ([4, 20, 21], [49, 50, 51, 52, 53, 55, 56, 57, 58, 59, 60, 61, 62]), ([20, 21], [49, 50, 51, 52, 53, 54, 59, 60, 61, 62]), ([6, 20, 21], [49, 50, 51, 52, 53, 54, 55, 59, 60, 61, 62]), ([6, 7, 20, 21], [49, 50, 51, 52, 53, 54, 55, 56, 59, 60, 61, 62]), ([6, 7, 8, 20, 21], [49, 50, 51, 52, 53, 54, 55, 56, 57, 59, 60, 61, 62]), ([20, 21], [49, 50, 51, 52, 53, 54, 55, 56, 57, 58, 61, 62]), ([10, 20, 21], [49, 50, 51, 52, 53, 54, 55, 56, 57, 58, 59, 61, 62]), ([20, 21], [49, 50, 51, 52, 53, 54, 55, 56, 57, 58, 59, 60]), ([12, 20, 21], [49, 50, 51, 52, 53, 54, 55, 56, 57, 58, 59, 60, 61]), ([0, 1, 2, 3, 4, 5, 6, 7, 8, 9, 10, 11, 12, 13, 20, 21], [49, 50, 51, 52, 53, 54, 55, 56, 57, 58, 59, 60, 61, 62]), ([0, 1, 2, 3, 4, 5, 6, 7, 8, 9, 10, 11, 12, 13, 14, 20, 21], [49, 50, 51, 52, 53, 54, 55, 56, 57, 58, 59, 60, 61, 62, 63]), ([0, 1, 2, 3, 4, 5, 6, 7, 8, 9, 10, 11, 12, 13, 14, 15, 20, 21], [49, 50, 51, 52, 53, 54, 55, 56, 57, 58, 59, 60, 61, 62, 63, 64]), ([0, 1, 2, 3, 4, 5, 6, 7, 8, 9, 10, 11, 12, 13, 14, 15, 16, 20, 21], [49, 50, 51, 52, 53, 54, 55, 56, 57, 58, 59, 60, 61, 62, 63, 64]), ([0, 1, 2, 3, 4, 5, 6, 7, 8, 9, 10, 11, 12, 13, 14, 15, 16, 17, 20, 21], [49, 50, 51, 52, 53, 54, 55, 56, 57, 58, 59, 60, 61, 62, 63, 64, 65]), ([0, 1, 2, 3, 4, 5, 6, 7, 8, 9, 10, 11, 12, 13, 14, 15, 16, 17, 18, 20, 21], [49, 50, 51, 52, 53, 54, 55, 56, 57, 58, 59, 60, 61, 62, 63, 64, 65, 66])] [(20, 14), (14, 16), (21, 17), (17, 19), (20, 0), (20, 1), (20, 2), (20, 3), (20, 4), (20, 5), (20, 6), (20, 7), (20, 8), (20, 9), (20, 10), (20, 11), (20, 12), (20, 13), (14, 15), (21, 0), (21, 1), (21, 2), (21, 3), (21, 4), (21, 5), (21, 6), (21, 7), (21, 8), (21, 9), (21, 10), (21, 11), (21, 12), (21, 13), (21, 14), (21, 15), (21, 16), (17, 18)] (Γx := [mp idM mi (ies F.ps), mp drM md F.ds]) (hox := ownsA) ?_; dsimp only [prev0, List.length_nil, List.length_cons])
         | (refine gAny ?_; first | (refine gC 32 ?_; refine RGl.vl (fun e hk => OpT.callN (c32)) ?_) | (refine gC 60 ?_; refine RGl.vl (fun e hk => OpT.callN (c60)) ?_) | (refine gD 10 ?_; refine RGl.rdX (fun e hk => by (try dsimp only [bndR, ensR, oksR, fcutR, List.append_nil, List.nil_append, List.cons_append, List.append_assoc] at hk ⊢); exact readP) ?_) | (refine gD 23 ?_; refine RGl.rdX (fun e hk => by (try dsimp only [bndR, ensR, oksR, fcutR, List.append_nil, List.nil_append, List.cons_append, List.append_assoc] at hk ⊢); exact ReadR.lookOk (M := idM) (k := s.id) hwi rfl rfl memA hp1' hb1') ?_) | (refine gD 33 ?_; refine RGl.rdX (fun e hk => by (try dsimp only [bndR, ensR, oksR, fcutR, List.append_nil, List.nil_append, List.cons_append, List.append_assoc] at hk ⊢); exact ReadR.lookOk (M := drM) (k := s.door) hwd rfl rfl memA hg2 hb2) ?_) | (refine gD 46 ?_; refine RGl.rdX (fun e hk => by (try dsimp only [bndR, ensR, oksR, fcutR, List.append_nil, List.nil_append, List.cons_append, List.append_assoc] at hk ⊢); exact ReadR.mlen rfl memA) ?_) | (refine gD 47 ?_; refine RGl.rdX (fun e hk => by (try dsimp only [bndR, ensR, oksR, fcutR, List.append_nil, List.nil_append, List.cons_append, List.append_assoc] at hk ⊢); exact ReadR.binE rfl rfl BinR.geq (congrArg Value.bool (decide_eq_false hge))) ?_) | (refine gOp ?_; refine RGl.mapE (gm := mi) (lm := ies F.ps) (km := s.id) (A := fun _ => mp idM mi (ies F.ps)) (fun e hk => by (try dsimp only [bndR, ensR, oksR, fcutR, List.append_nil, List.nil_append, List.cons_append, List.append_assoc] at hk ⊢); exact OpT.mapEntry hwi rfl rfl takesA) ?_) | (refine gOp ?_; refine RGl.mapE (gm := md) (lm := F.ds) (km := s.door) (A := fun _ => mp drM md (F.ds)) (fun e hk => by (try dsimp only [bndR, ensR, oksR, fcutR, List.append_nil, List.nil_append, List.cons_append, List.append_assoc] at hk ⊢); exact OpT.mapEntry hwd rfl rfl takesA) ?_) | (refine gOp ?_; refine RGl.turn (fun e hk => by (try dsimp only [bndR, ensR, oksR, fcutR, List.append_nil, List.nil_append, List.cons_append, List.append_assoc] at hk ⊢); exact OpT.entryStore (M := idM) (v := some g3) rfl rfl rfl takesA) ?_) | (refine gOp ?_; refine RGl.turn (fun e hk => by (try dsimp only [bndR, ensR, oksR, fcutR, List.append_nil, List.nil_append, List.cons_append, List.append_assoc] at hk ⊢); exact OpT.entryStore (M := drM) (v := s.id) rfl rfl rfl takesA) ?_) | (refine gOp ?_; first | refine RGl.rdA ?_ | refine RGl.rdX (fun e hk => by (try dsimp only [bndR, ensR, oksR, fcutR, List.append_nil, List.nil_append, List.cons_append, List.append_assoc] at hk ⊢); exact readB) ?_) | (refine RGl.fin (fun e hk => ?_); (try dsimp only [bndA, ensAR, oksA, List.append_nil, List.nil_append, List.cons_append, List.append_assoc] at hk ⊢); (repeat (obtain ⟨hk1, hk⟩ := hk))) | fail)
         | (refine isCond ?_; first | refine WPc.cT ?_ | refine WPc.cF ?_ | (refine WPc.cQ (fun hc => ?_) (fun hc => ?_) <;> try exact prA))
         | (refine isD 3 ?_; first | (refine isAl ?_; refine WPl.nw fun g3 => ?_) | (refine isBx ?_; refine WPl.nw fun g3 => ?_))
         | (refine isD 10 ?_; refine WPl.rdX (readP) ?_)
         | (refine isC 13 ?_; refine WPl.cV c13 ?_ (hΔ := provsM))
         | (refine isD 23 ?_; refine WPl.rdX (ReadR.lookOk (M := idM) (k := s.id) hwi rfl rfl memA hp1' hb1') ?_)
         | (refine isC 32 ?_; refine WPl.cV (c32) ?_)
         | (refine isD 33 ?_; refine WPl.rdX (ReadR.lookOk (M := drM) (k := s.door) hwd rfl rfl memA hg2 hb2) ?_)
         | (refine isD 46 ?_; refine WPl.rdX (ReadR.mlen rfl memA) ?_)
         | (refine isD 47 ?_; refine WPl.rdX (ReadR.binE rfl rfl BinR.geq (congrArg Value.bool (decide_eq_false hge))) ?_)
         | (refine isC 60 ?_; refine WPl.cV (c60) ?_)
         | (refine isOp ?_; first | refine WPl.rd ?_ | refine WPl.sk ?_ | refine WPl.rdB ?_)
         | (refine isBx ?_; refine WPl.nw fun g => ?_)
         | (refine isSt ?_; first | refine WPl.st1 ?_ | refine WPl.stA ?_ | refine WPl.stEB ?_ | refine WPl.stRB ?_)
         | (show WPl _ _ _ _ _ _ _ (⟨_, .indexAddr _ _ _, _, _, _, _⟩ :: _) _; refine WPl.rdX (ReadR.indexE rfl rfl hasA (by first | assumption | omega)) ?_)
         | (show WPl _ _ _ _ _ _ _ (⟨_, .fieldAddr _ _ _, _, _, _, _⟩ :: _) _; refine WPl.rdX (ReadR.fieldE rfl hasA (by first | assumption | omega)) ?_)
         | (show WPl _ _ _ _ _ _ _ (⟨_, .load _ _, _, _, _, _⟩ :: _) _; first | refine WPl.rdX (ReadR.loadE rfl hasA (by assumption)) ?_ | refine WPl.rdX (ReadR.loadES (by assumption) (by first | assumption | omega) rfl hasA) ?_)
         | (show WPl _ _ _ _ _ _ _ (⟨_, .slice _ _ _ _ _, _, _, _, _⟩ :: _) _; first | refine WPl.rdX (ReadR.sliceH rfl rfl hasA (by omega)) ?_ | refine WPl.rdX (ReadR.sliceL rfl rfl hasA (by omega)) ?_ | refine WPl.rdX (ReadR.sliceLH rfl rfl rfl hasA (by omega) (by omega)) ?_)
         | (refine WPl.spQ (fun hc => ?_) (fun hc => ?_) <;> try exact prA)
         | fail)
        obtain ⟨q1, q2, q3⟩ := hpi g3
        rw [mput_mput, mput_mput, q2, q3]
        refine WPq.gbagI (row := prow) (es := F.ps ++ [⟨g3, .slice none 0 0, s, []⟩]) (es' := F.ps) (x := ⟨g3, .slice none 0 0, s, []⟩) prow_own List.perm_append_comm (by show Takes _ [gbag prow F.ps, bx g3 33 (shC s (.slice none 0 0)), rowN 36 21 (.slice none 0 0) 0 (bks [])] _; rw [e0]; exact takesA) ?_
        exact WPq.dX (ho := ownsG) (vs := [.int .i64 0]) [bx gF 66 (fac mi md), mp idM mi (ies (F.ps ++ [⟨g3, .slice none 0 0, s, []⟩])), mp drM md (F.ds ++ [(s.door, s.id)]), gbag prow (F.ps ++ [⟨g3, .slice none 0 0, s, []⟩])] ⟨⟨_, _⟩, rfl, q1, rfl⟩
theorem gdrop0_t (h : PInv L F) (id : Int) (hw : in64 id) (hf : findS L id = none) : Triple Try.prog 11 #[hF gF, .int .i64 id] (fmA gF mi md F) (RFm gF mi md (.int .i64 6) L) := by
  obtain ⟨hget, hb⟩ := ies_get (h.no hf)
  have hget : idM.vc (mget idM (ies F.ps) id) = .pointer none := hget
  have hb : mhas (ies F.ps) id = false := hb
  refine Triple.enter Try.func11 rfl Try.ntmps11 rfl (fun W => ?_)
  dsimp only [argsF, Nat.reduceAdd]
  repeat' (first
   | refine WPl.nil ?_ | refine WPq.then ?_ | refine WPq.thenR ?_ | refine WPq.thenE ?_ | refine WPq.blockN ?_ | refine WPq.blockR ?_ | refine WPq.blockE ?_ | refine WPq.blockO rfl ?_ | refine WPc.seq ?_ | refine WPc.block ?_ | refine WPc.ret ?_ | refine WPc.exit ?_ | refine WPc.skip ?_ | refine WPc.region ?_
   | (refine isCond ?_; first | refine WPc.cT ?_ | refine WPc.cF ?_ | (refine WPc.cQ (fun hc => ?_) (fun hc => ?_) <;> try exact prA))
   | (refine isD 8 ?_; refine WPl.rdX (readP) ?_)
   | (refine isD 15 ?_; refine WPl.rdX (ReadR.lookOk (M := idM) (k := id) hw rfl rfl memA hget hb) ?_)
   | (refine isOp ?_; first | refine WPl.rd ?_ | refine WPl.sk ?_ | refine WPl.rdB ?_)
   | (show WPl _ _ _ _ _ _ _ (⟨_, .indexAddr _ _ _, _, _, _, _⟩ :: _) _; refine WPl.rdX (ReadR.indexE rfl rfl hasA (by first | assumption | omega)) ?_)
   | (show WPl _ _ _ _ _ _ _ (⟨_, .fieldAddr _ _ _, _, _, _, _⟩ :: _) _; refine WPl.rdX (ReadR.fieldE rfl hasA (by first | assumption | omega)) ?_)
   | (show WPl _ _ _ _ _ _ _ (⟨_, .load _ _, _, _, _, _⟩ :: _) _; first | refine WPl.rdX (ReadR.loadE rfl hasA (by assumption)) ?_ | refine WPl.rdX (ReadR.loadES (by assumption) (by first | assumption | omega) rfl hasA) ?_)
   | (show WPl _ _ _ _ _ _ _ (⟨_, .slice _ _ _ _ _, _, _, _, _⟩ :: _) _; first | refine WPl.rdX (ReadR.sliceH rfl rfl hasA (by omega)) ?_ | refine WPl.rdX (ReadR.sliceL rfl rfl hasA (by omega)) ?_ | refine WPl.rdX (ReadR.sliceLH rfl rfl rfl hasA (by omega) (by omega)) ?_)
   | (refine WPl.spQ (fun hc => ?_) (fun hc => ?_) <;> try exact prA)
   | fail)
  exact WPq.dX (ho := ownsG) (vs := [.int .i64 6]) [bx gF 66 (fac mi md), mp idM mi (ies F.ps), mp drM md F.ds, gbag prow F.ps] ⟨F, rfl, h, rfl⟩
theorem gdrop1_t (h : PInv L F) (id : Int) (hw : in64 id) (y : Sb) (hf : findS L id = some y) : Triple Try.prog 11 #[hF gF, .int .i64 id] (fmA gF mi md F) (RFm gF mi md (.int .i64 0) (L.filter fun x => !decide (x.s.id = id))) := by
  obtain ⟨A, B, x, hps, hxy, hxi, hm⟩ := h.at hf
  subst hxy
  subst hxi
  obtain ⟨hpi, hdel⟩ := h.del hps hf
  obtain ⟨hget, hb⟩ := ies_get hm
  have hget : idM.vc (mget idM (ies F.ps) x.s.id) = .pointer (some ⟨x.g, 0, none⟩) := hget
  have hb : mhas (ies F.ps) x.s.id = true := hb
  have hwf : idM.wf x.s.id := hw
  have hwd : drM.wf x.s.door := h.portr _ (findS_some hf).1
  have hxv : x.v.oneCell' = true := h.one x (by rw [hps]; exact List.mem_append_right _ (List.mem_cons_self ..))
  have c32 := gof_t x.s x.v hxv
  have hal := x.s.ad.len
  have hpp : F.ps.Perm (x :: (A ++ B)) := by rw [hps]; exact List.perm_middle
  refine Triple.enter Try.func11 rfl Try.ntmps11 rfl (fun W => ?_)
  dsimp only [argsF, Nat.reduceAdd]
  refine WPc.gbagO (row := prow) prow_own hpp ?_
  rw [show prow x = [bx x.g 33 (shC x.s x.v), rowN 36 21 x.v x.bs.length (bks x.bs)] from rfl, List.cons_append, List.cons_append, List.nil_append]
  repeat' (first
   | refine WPl.nil ?_ | refine WPq.then ?_ | refine WPq.thenR ?_ | refine WPq.thenE ?_ | refine WPq.blockN ?_ | refine WPq.blockR ?_ | refine WPq.blockE ?_ | refine WPq.blockO rfl ?_ | refine WPc.seq ?_ | refine WPc.block ?_ | refine WPc.ret ?_ | refine WPc.exit ?_ | refine WPc.skip ?_ | refine WPc.region ?_
   | (refine isReg 7 ?_; refine WPc.drA [([9], [29, 30, 31, 32]), ([0, 9], [25, 29, 30, 31, 32]), ([0, 1, 9], [25, 26, 29, 30, 31, 32]), ([0, 1, 2, 9], [25, 26, 27, 29, 30, 31, 32]), ([9], [25, 26, 27, 28]), ([4, 9], [25, 26, 27, 28, 29]), ([4, 5, 9], [25, 26, 27, 28, 29, 30]), ([4, 5, 6, 9], [25, 26, 27, 28, 29, 30, 31]), ([0, 1, 2, 3, 4, 5, 6, 7, 9], [25, 26, 27, 28, 29, 30, 31, 32])] [(9, 8), (9, 0), (9, 1), (9, 2), (9, 3), (9, 4), (9, 5), (9, 6), (9, 7)] (Γx := [mp drM md F.ds]) (hox := ownsA) ?_; dsimp only [prev0, List.length_nil, List.length_cons])
   | (refine gAny ?_; first | (refine gOp ?_; refine RGl.turn (fun e hk => by (try dsimp only [bndR, ensR, oksR, fcutR, List.append_nil, List.nil_append, List.cons_append, List.append_assoc] at hk ⊢); exact OpT.mdel (k := x.s.id) (hwf) rfl rfl takesA) ?_) | (refine gC 32 ?_; refine RGl.vl (fun e hk => OpT.callN (c32)) ?_) | (refine gD 8 ?_; refine RGl.rdX (fun e hk => by (try dsimp only [bndR, ensR, oksR, fcutR, List.append_nil, List.nil_append, List.cons_append, List.append_assoc] at hk ⊢); exact readP) ?_) | (refine gD 15 ?_; refine RGl.rdX (fun e hk => by (try dsimp only [bndR, ensR, oksR, fcutR, List.append_nil, List.nil_append, List.cons_append, List.append_assoc] at hk ⊢); exact ReadR.lookOk (M := idM) (k := x.s.id) hw rfl rfl memA hget hb) ?_) | (refine gOp ?_; (refine RGl.turn (fun e hk => by (try dsimp only [bndR, ensR, oksR, fcutR, List.append_nil, List.nil_append, List.cons_append, List.append_assoc] at hk ⊢); exact OpT.mdel (M := drM) (k := x.s.door) hwd rfl rfl takesA) ?_)) | (refine gOp ?_; first | refine RGl.rdA ?_ | refine RGl.rdX (fun e hk => by (try dsimp only [bndR, ensR, oksR, fcutR, List.append_nil, List.nil_append, List.cons_append, List.append_assoc] at hk ⊢); exact readB) ?_) | (refine RGl.fin (fun e hk => ?_); (try dsimp only [bndA, ensAR, oksA, List.append_nil, List.nil_append, List.cons_append, List.append_assoc] at hk ⊢); (repeat (obtain ⟨hk1, hk⟩ := hk))) | fail)
   | (refine isCond ?_; first | refine WPc.cT ?_ | refine WPc.cF ?_ | (refine WPc.cQ (fun hc => ?_) (fun hc => ?_) <;> try exact prA))
   | (refine isD 8 ?_; refine WPl.rdX (readP) ?_)
   | (refine isD 15 ?_; refine WPl.rdX (ReadR.lookOk (M := idM) (k := x.s.id) hw rfl rfl memA hget hb) ?_)
   | (refine WPl.mdel (x.s.id) (hwf) ?_)
   | (refine isC 32 ?_; refine WPl.cV (c32) ?_)
   | (refine isOp ?_; first | refine WPl.rd ?_ | refine WPl.sk ?_ | refine WPl.rdB ?_)
   | (show WPl _ _ _ _ _ _ _ (⟨_, .indexAddr _ _ _, _, _, _, _⟩ :: _) _; refine WPl.rdX (ReadR.indexE rfl rfl hasA (by first | assumption | omega)) ?_)
   | (show WPl _ _ _ _ _ _ _ (⟨_, .fieldAddr _ _ _, _, _, _, _⟩ :: _) _; refine WPl.rdX (ReadR.fieldE rfl hasA (by first | assumption | omega)) ?_)
   | (show WPl _ _ _ _ _ _ _ (⟨_, .load _ _, _, _, _, _⟩ :: _) _; first | refine WPl.rdX (ReadR.loadE rfl hasA (by assumption)) ?_ | refine WPl.rdX (ReadR.loadES (by assumption) (by first | assumption | omega) rfl hasA) ?_)
   | (show WPl _ _ _ _ _ _ _ (⟨_, .slice _ _ _ _ _, _, _, _, _⟩ :: _) _; first | refine WPl.rdX (ReadR.sliceH rfl rfl hasA (by omega)) ?_ | refine WPl.rdX (ReadR.sliceL rfl rfl hasA (by omega)) ?_ | refine WPl.rdX (ReadR.sliceLH rfl rfl rfl hasA (by omega) (by omega)) ?_)
   | (refine WPl.spQ (fun hc => ?_) (fun hc => ?_) <;> try exact prA)
   | fail)
  rw [hdel]
  exact WPq.dX (ho := ownsG) (vs := [.int .i64 0]) [bx gF 66 (fac mi md), mp idM mi (ies (A ++ B)), mp drM md (mdel F.ds x.s.door), gbag prow (A ++ B)] ⟨⟨A ++ B, mdel F.ds x.s.door⟩, rfl, hpi, rfl⟩
theorem bks_1 {l : List Bk} {i : Nat} {b b' : Bk} (h : l[i]? = some b) {o : Nat} {u : Value} (ho : o < 21) (hu : flat (bkC b') = (flat (bkC b)).set o u) : (bks l).set (i * 21 + o) u = bks (l.set i b') := by
  with_unfolding_all exact rows_set (f := fun b => flat (bkC b)) bkC_len hu ho h
theorem gdrain_t (h : PInv L F) (sid b : Int) (on : Bool) (hw : in64 sid) : Triple Try.prog 20 #[hF gF, .int .i64 sid, .int .i64 b, .bool on] (fmA gF mi md F) (RFm gF mi md (.int .i64 (turnS L sid b (setBy b fun k => { k with dr := on })).2) (turnS L sid b (setBy b fun k => { k with dr := on })).1) := by
  cases hf : findS L sid with
  | none =>
    have hr : turnS L sid b (setBy b fun k => { k with dr := on }) = (L, 6) := by unfold turnS; rw [hf]
    rw [hr]
    have c16 := gfind0_t gF mi md L F h sid b hw hf
    refine Triple.enter Try.func20 rfl Try.ntmps20 rfl (fun W => ?_)
    dsimp only [argsF, Nat.reduceAdd]
    repeat' (first
     | refine WPl.nil ?_ | refine WPq.then ?_ | refine WPq.thenR ?_ | refine WPq.thenE ?_ | refine WPq.blockN ?_ | refine WPq.blockR ?_ | refine WPq.blockE ?_ | refine WPq.blockO rfl ?_ | refine WPc.seq ?_ | refine WPc.block ?_ | refine WPc.ret ?_ | refine WPc.exit ?_ | refine WPc.skip ?_ | refine WPc.region ?_
     | (refine isCond ?_; first | refine WPc.cT ?_ | refine WPc.cF ?_ | (refine WPc.cQ (fun hc => ?_) (fun hc => ?_) <;> try exact prA))
     | (refine isC 16 ?_; refine WPl.cV c16 ?_ (hΔ := provsM))
     | (refine isD 21 ?_; refine WPl.rdX (ReadR.binE rfl rfl BinR.eql (congrArg Value.bool (decide_eq_false (show ¬ (6 : Int) = 0 by omega)))) ?_)
     | (refine isOp ?_; first | refine WPl.rd ?_ | refine WPl.sk ?_ | refine WPl.rdB ?_)
     | (refine isSt ?_; first | refine WPl.st1 ?_ | refine WPl.stA ?_ | refine WPl.stEB ?_ | refine WPl.stRB ?_)
     | (show WPl _ _ _ _ _ _ _ (⟨_, .indexAddr _ _ _, _, _, _, _⟩ :: _) _; refine WPl.rdX (ReadR.indexE rfl rfl hasA (by first | assumption | omega)) ?_)
     | (show WPl _ _ _ _ _ _ _ (⟨_, .fieldAddr _ _ _, _, _, _, _⟩ :: _) _; refine WPl.rdX (ReadR.fieldE rfl hasA (by first | assumption | omega)) ?_)
     | (show WPl _ _ _ _ _ _ _ (⟨_, .load _ _, _, _, _, _⟩ :: _) _; first | refine WPl.rdX (ReadR.loadE rfl hasA (by assumption)) ?_ | refine WPl.rdX (ReadR.loadES (by assumption) (by first | assumption | omega) rfl hasA) ?_)
     | (show WPl _ _ _ _ _ _ _ (⟨_, .slice _ _ _ _ _, _, _, _, _⟩ :: _) _; first | refine WPl.rdX (ReadR.sliceH rfl rfl hasA (by omega)) ?_ | refine WPl.rdX (ReadR.sliceL rfl rfl hasA (by omega)) ?_ | refine WPl.rdX (ReadR.sliceLH rfl rfl rfl hasA (by omega) (by omega)) ?_)
     | (refine WPl.spQ (fun hc => ?_) (fun hc => ?_) <;> try exact prA)
     | fail)
    exact WPq.dX (ho := ownsG) (vs := [.int .i64 6]) [bx gF 66 (fac mi md), mp idM mi (ies F.ps), mp drM md F.ds, gbag prow F.ps] ⟨F, rfl, h, rfl⟩
  | some y =>
    obtain ⟨A, B, x, hps, hxy, hxi, hm⟩ := h.at hf
    subst hxy
    subst hxi
    have hxL := (findS_some hf).1
    have hsx : SrtB x.bs := h.bsrt _ hxL
    have hlx : x.bs.length ≤ 16 := h.blen _ hxL
    have hxv : x.v.oneCell' = true := h.one x (by rw [hps]; exact List.mem_append_right _ (List.mem_cons_self ..))
    have hal := x.s.ad.len
    have hpp : F.ps.Perm (x :: (A ++ B)) := by rw [hps]; exact List.perm_middle
    have hL := bks_len (l := x.bs)
    have c16 := gfind1_t gF mi md F x.s.id b hw x hm hsx hlx
    cases hh : hasB x.bs b with
    | false =>
      have hr : turnS L x.s.id b (setBy b fun k => { k with dr := on }) = (L, 6) := by unfold turnS; rw [hf]; dsimp only; rw [if_neg (by rw [hh]; simp)]
      rw [hr]
      rw [if_neg (by rw [hh]; simp)] at c16
      refine Triple.enter Try.func20 rfl Try.ntmps20 rfl (fun W => ?_)
      dsimp only [argsF, Nat.reduceAdd]
      refine WPc.gbagO (row := prow) prow_own hpp ?_
      rw [show prow x = [bx x.g 33 (shC x.s x.v), rowN 36 21 x.v x.bs.length (bks x.bs)] from rfl, List.cons_append, List.cons_append, List.nil_append]
      repeat' (first
       | refine WPl.nil ?_ | refine WPq.then ?_ | refine WPq.thenR ?_ | refine WPq.thenE ?_ | refine WPq.blockN ?_ | refine WPq.blockR ?_ | refine WPq.blockE ?_ | refine WPq.blockO rfl ?_ | refine WPc.seq ?_ | refine WPc.block ?_ | refine WPc.ret ?_ | refine WPc.exit ?_ | refine WPc.skip ?_ | refine WPc.region ?_
       | (refine isCond ?_; first | refine WPc.cT ?_ | refine WPc.cF ?_ | (refine WPc.cQ (fun hc => ?_) (fun hc => ?_) <;> try exact prA))
       | (refine isC 16 ?_; refine WPl.cV c16 ?_ (hΔ := provsM))
       | (refine isD 21 ?_; refine WPl.rdX (ReadR.binE rfl rfl BinR.eql (congrArg Value.bool (decide_eq_false (show ¬ (6 : Int) = 0 by omega)))) ?_)
       | (refine isOp ?_; first | refine WPl.rd ?_ | refine WPl.sk ?_ | refine WPl.rdB ?_)
       | (refine isSt ?_; first | refine WPl.st1 ?_ | refine WPl.stA ?_ | refine WPl.stEB ?_ | refine WPl.stRB ?_)
       | (show WPl _ _ _ _ _ _ _ (⟨_, .indexAddr _ _ _, _, _, _, _⟩ :: _) _; refine WPl.rdX (ReadR.indexE rfl rfl hasA (by first | assumption | omega)) ?_)
       | (show WPl _ _ _ _ _ _ _ (⟨_, .fieldAddr _ _ _, _, _, _, _⟩ :: _) _; refine WPl.rdX (ReadR.fieldE rfl hasA (by first | assumption | omega)) ?_)
       | (show WPl _ _ _ _ _ _ _ (⟨_, .load _ _, _, _, _, _⟩ :: _) _; first | refine WPl.rdX (ReadR.loadE rfl hasA (by assumption)) ?_ | refine WPl.rdX (ReadR.loadES (by assumption) (by first | assumption | omega) rfl hasA) ?_)
       | (show WPl _ _ _ _ _ _ _ (⟨_, .slice _ _ _ _ _, _, _, _, _⟩ :: _) _; first | refine WPl.rdX (ReadR.sliceH rfl rfl hasA (by omega)) ?_ | refine WPl.rdX (ReadR.sliceL rfl rfl hasA (by omega)) ?_ | refine WPl.rdX (ReadR.sliceLH rfl rfl rfl hasA (by omega) (by omega)) ?_)
       | (refine WPl.spQ (fun hc => ?_) (fun hc => ?_) <;> try exact prA)
       | fail)
      refine WPq.gbagI (row := prow) (es := F.ps) (es' := A ++ B) (x := x) prow_own hpp (by show Takes _ [gbag prow (A ++ B), bx x.g 33 (shC x.s x.v), rowN 36 21 x.v x.bs.length (bks x.bs)] _; exact takesA) ?_
      exact WPq.dX (ho := ownsG) (vs := [.int .i64 6]) [bx gF 66 (fac mi md), mp idM mi (ies F.ps), mp drM md F.ds, gbag prow F.ps] ⟨F, rfl, h, rfl⟩
    | true =>
      rw [if_pos hh] at c16
      obtain ⟨z, hz, hzi⟩ := has_lb hsx hh
      subst hzi
      have hzl := (List.getElem?_eq_some_iff.1 hz).1
      have hr : turnS L x.s.id z.id (setBy z.id fun k => { k with dr := on }) = (updB L x.s.id (setBy z.id fun k => { k with dr := on }), 0) := by unfold turnS; rw [hf]; dsimp only; rw [if_pos hh]
      rw [hr]
      have hset := set_setBy hsx hz (fun k => { k with dr := on })
      have hs := bks_1 (b' := { z with dr := on }) (o := 20) (u := .bool on) hz (by omega) (by simp [flat_eq, z.ad.len, u8s_length])
      obtain ⟨hpi, hie⟩ := h.upd hps hf (f := setBy z.id fun k => { k with dr := on }) hxv (setBy_srt hsx fun k => rfl) (by rw [setBy_len]; exact hlx)
      refine Triple.enter Try.func20 rfl Try.ntmps20 rfl (fun W => ?_)
      dsimp only [argsF, Nat.reduceAdd]
      refine WPc.gbagO (row := prow) prow_own hpp ?_
      rw [show prow x = [bx x.g 33 (shC x.s x.v), rowN 36 21 x.v x.bs.length (bks x.bs)] from rfl, List.cons_append, List.cons_append, List.nil_append]
      repeat' (first
       | refine WPl.nil ?_ | refine WPq.then ?_ | refine WPq.thenR ?_ | refine WPq.thenE ?_ | refine WPq.blockN ?_ | refine WPq.blockR ?_ | refine WPq.blockE ?_ | refine WPq.blockO rfl ?_ | refine WPc.seq ?_ | refine WPc.block ?_ | refine WPc.ret ?_ | refine WPc.exit ?_ | refine WPc.skip ?_ | refine WPc.region ?_
       | (refine isCond ?_; first | refine WPc.cT ?_ | refine WPc.cF ?_ | (refine WPc.cQ (fun hc => ?_) (fun hc => ?_) <;> try exact prA))
       | (refine isC 16 ?_; refine WPl.cV c16 ?_ (hΔ := provsM))
       | (refine isD 21 ?_; refine WPl.rdX (ReadR.binE rfl rfl BinR.eql (congrArg Value.bool (decide_eq_true (rfl : (0 : Int) = 0)))) ?_)
       | (refine isD 28 ?_; refine WPl.rdX (ReadR.indexE (i := lbB x.bs z.id) rfl rfl hasA hzl) ?_)
       | (refine isD 29 ?_; refine WPl.rdX (ReadR.fieldE rfl hasA (by omega)) ?_)
       | (show WPl _ _ _ _ _ _ _ (⟨_, .store _ (.tmp 29) _, _, _, _, _⟩ :: _) _; refine WPl.stEN (i := lbB x.bs z.id * 21 + 20) (m := x.bs.length) (xs := bks x.bs) (by omega) ?_)
       | (refine isOp ?_; first | refine WPl.rd ?_ | refine WPl.sk ?_ | refine WPl.rdB ?_)
       | (refine isSt ?_; first | refine WPl.st1 ?_ | refine WPl.stA ?_ | refine WPl.stEB ?_ | refine WPl.stRB ?_)
       | (show WPl _ _ _ _ _ _ _ (⟨_, .indexAddr _ _ _, _, _, _, _⟩ :: _) _; refine WPl.rdX (ReadR.indexE rfl rfl hasA (by first | assumption | omega)) ?_)
       | (show WPl _ _ _ _ _ _ _ (⟨_, .fieldAddr _ _ _, _, _, _, _⟩ :: _) _; refine WPl.rdX (ReadR.fieldE rfl hasA (by first | assumption | omega)) ?_)
       | (show WPl _ _ _ _ _ _ _ (⟨_, .load _ _, _, _, _, _⟩ :: _) _; first | refine WPl.rdX (ReadR.loadE rfl hasA (by assumption)) ?_ | refine WPl.rdX (ReadR.loadES (by assumption) (by first | assumption | omega) rfl hasA) ?_)
       | (show WPl _ _ _ _ _ _ _ (⟨_, .slice _ _ _ _ _, _, _, _, _⟩ :: _) _; first | refine WPl.rdX (ReadR.sliceH rfl rfl hasA (by omega)) ?_ | refine WPl.rdX (ReadR.sliceL rfl rfl hasA (by omega)) ?_ | refine WPl.rdX (ReadR.sliceLH rfl rfl rfl hasA (by omega) (by omega)) ?_)
       | (refine WPl.spQ (fun hc => ?_) (fun hc => ?_) <;> try exact prA)
       | fail)
      rw [hs, hset, ← hie]
      obtain ⟨bs', hbs'⟩ : ∃ bs', bs' = setBy z.id (fun k => { k with dr := on }) x.bs := ⟨_, rfl⟩
      rw [← hbs'] at hpi ⊢
      have hlb' : bs'.length = x.bs.length := by rw [hbs', setBy_len]
      rw [← hlb']
      refine WPq.gbagI (row := prow) (es := A ++ ⟨x.g, x.v, x.s, bs'⟩ :: B) (es' := A ++ B) (x := ⟨x.g, x.v, x.s, bs'⟩) prow_own List.perm_middle (by show Takes _ [gbag prow (A ++ B), bx x.g 33 (shC x.s x.v), rowN 36 21 x.v bs'.length (bks bs')] _; exact takesA) ?_
      exact WPq.dX (ho := ownsG) (vs := [.int .i64 0]) [bx gF 66 (fac mi md), mp idM mi (ies (A ++ ⟨x.g, x.v, x.s, bs'⟩ :: B)), mp drM md F.ds, gbag prow (A ++ ⟨x.g, x.v, x.s, bs'⟩ :: B)] ⟨⟨_, _⟩, rfl, hpi, rfl⟩
theorem gweigh_t (h : PInv L F) (sid b n : Int) (hw : in64 sid) : Triple Try.prog 21 #[hF gF, .int .i64 sid, .int .i64 b, .int .i64 n] (fmA gF mi md F) (RFm gF mi md (.int .i64 (weighS L sid b n).2) (weighS L sid b n).1) := by
  cases hf : findS L sid with
  | none =>
    have hr : weighS L sid b n = (L, 6) := by unfold weighS; rw [hf]
    rw [hr]
    have c16 := gfind0_t gF mi md L F h sid b hw hf
    refine Triple.enter Try.func21 rfl Try.ntmps21 rfl (fun W => ?_)
    dsimp only [argsF, Nat.reduceAdd]
    repeat' (first
     | refine WPl.nil ?_ | refine WPq.then ?_ | refine WPq.thenR ?_ | refine WPq.thenE ?_ | refine WPq.blockN ?_ | refine WPq.blockR ?_ | refine WPq.blockE ?_ | refine WPq.blockO rfl ?_ | refine WPc.seq ?_ | refine WPc.block ?_ | refine WPc.ret ?_ | refine WPc.exit ?_ | refine WPc.skip ?_ | refine WPc.region ?_
     | (refine isCond ?_; first | refine WPc.cT ?_ | refine WPc.cF ?_ | (refine WPc.cQ (fun hc => ?_) (fun hc => ?_) <;> try exact prA))
     | (refine isC 16 ?_; refine WPl.cV c16 ?_ (hΔ := provsM))
     | (refine isD 22 ?_; refine WPl.rdX (ReadR.binE rfl rfl BinR.neq (congrArg (fun q => Value.bool (!q)) (decide_eq_false (show ¬ (6 : Int) = 0 by omega)))) ?_)
     | (refine isOp ?_; first | refine WPl.rd ?_ | refine WPl.sk ?_ | refine WPl.rdB ?_)
     | (refine isSt ?_; first | refine WPl.st1 ?_ | refine WPl.stA ?_ | refine WPl.stEB ?_ | refine WPl.stRB ?_)
     | (show WPl _ _ _ _ _ _ _ (⟨_, .indexAddr _ _ _, _, _, _, _⟩ :: _) _; refine WPl.rdX (ReadR.indexE rfl rfl hasA (by first | assumption | omega)) ?_)
     | (show WPl _ _ _ _ _ _ _ (⟨_, .fieldAddr _ _ _, _, _, _, _⟩ :: _) _; refine WPl.rdX (ReadR.fieldE rfl hasA (by first | assumption | omega)) ?_)
     | (show WPl _ _ _ _ _ _ _ (⟨_, .load _ _, _, _, _, _⟩ :: _) _; first | refine WPl.rdX (ReadR.loadE rfl hasA (by assumption)) ?_ | refine WPl.rdX (ReadR.loadES (by assumption) (by first | assumption | omega) rfl hasA) ?_)
     | (show WPl _ _ _ _ _ _ _ (⟨_, .slice _ _ _ _ _, _, _, _, _⟩ :: _) _; first | refine WPl.rdX (ReadR.sliceH rfl rfl hasA (by omega)) ?_ | refine WPl.rdX (ReadR.sliceL rfl rfl hasA (by omega)) ?_ | refine WPl.rdX (ReadR.sliceLH rfl rfl rfl hasA (by omega) (by omega)) ?_)
     | (refine WPl.spQ (fun hc => ?_) (fun hc => ?_) <;> try exact prA)
     | fail)
    exact WPq.dX (ho := ownsG) (vs := [.int .i64 6]) [bx gF 66 (fac mi md), mp idM mi (ies F.ps), mp drM md F.ds, gbag prow F.ps] ⟨F, rfl, h, rfl⟩
  | some y =>
    obtain ⟨A, B, x, hps, hxy, hxi, hm⟩ := h.at hf
    subst hxy
    subst hxi
    have hxL := (findS_some hf).1
    have hsx : SrtB x.bs := h.bsrt _ hxL
    have hlx : x.bs.length ≤ 16 := h.blen _ hxL
    have hxv : x.v.oneCell' = true := h.one x (by rw [hps]; exact List.mem_append_right _ (List.mem_cons_self ..))
    have hal := x.s.ad.len
    have hpp : F.ps.Perm (x :: (A ++ B)) := by rw [hps]; exact List.perm_middle
    have hL := bks_len (l := x.bs)
    have c16 := gfind1_t gF mi md F x.s.id b hw x hm hsx hlx
    have c26 := gwt_t n
    cases hh : hasB x.bs b with
    | false =>
      have hr : weighS L x.s.id b n = (L, 6) := by unfold weighS turnS; rw [hf]; dsimp only; rw [if_neg (by rw [hh]; simp), if_neg (by rw [hh]; simp)]
      rw [hr]
      rw [if_neg (by rw [hh]; simp)] at c16
      refine Triple.enter Try.func21 rfl Try.ntmps21 rfl (fun W => ?_)
      dsimp only [argsF, Nat.reduceAdd]
      refine WPc.gbagO (row := prow) prow_own hpp ?_
      rw [show prow x = [bx x.g 33 (shC x.s x.v), rowN 36 21 x.v x.bs.length (bks x.bs)] from rfl, List.cons_append, List.cons_append, List.nil_append]
      repeat' (first
       | refine WPl.nil ?_ | refine WPq.then ?_ | refine WPq.thenR ?_ | refine WPq.thenE ?_ | refine WPq.blockN ?_ | refine WPq.blockR ?_ | refine WPq.blockE ?_ | refine WPq.blockO rfl ?_ | refine WPc.seq ?_ | refine WPc.block ?_ | refine WPc.ret ?_ | refine WPc.exit ?_ | refine WPc.skip ?_ | refine WPc.region ?_
       | (refine isCond ?_; first | refine WPc.cT ?_ | refine WPc.cF ?_ | (refine WPc.cQ (fun hc => ?_) (fun hc => ?_) <;> try exact prA))
       | (refine isC 16 ?_; refine WPl.cV c16 ?_ (hΔ := provsM))
       | (refine isD 22 ?_; refine WPl.rdX (ReadR.binE rfl rfl BinR.neq (congrArg (fun q => Value.bool (!q)) (decide_eq_false (show ¬ (6 : Int) = 0 by omega)))) ?_)
       | (refine isOp ?_; first | refine WPl.rd ?_ | refine WPl.sk ?_ | refine WPl.rdB ?_)
       | (refine isSt ?_; first | refine WPl.st1 ?_ | refine WPl.stA ?_ | refine WPl.stEB ?_ | refine WPl.stRB ?_)
       | (show WPl _ _ _ _ _ _ _ (⟨_, .indexAddr _ _ _, _, _, _, _⟩ :: _) _; refine WPl.rdX (ReadR.indexE rfl rfl hasA (by first | assumption | omega)) ?_)
       | (show WPl _ _ _ _ _ _ _ (⟨_, .fieldAddr _ _ _, _, _, _, _⟩ :: _) _; refine WPl.rdX (ReadR.fieldE rfl hasA (by first | assumption | omega)) ?_)
       | (show WPl _ _ _ _ _ _ _ (⟨_, .load _ _, _, _, _, _⟩ :: _) _; first | refine WPl.rdX (ReadR.loadE rfl hasA (by assumption)) ?_ | refine WPl.rdX (ReadR.loadES (by assumption) (by first | assumption | omega) rfl hasA) ?_)
       | (show WPl _ _ _ _ _ _ _ (⟨_, .slice _ _ _ _ _, _, _, _, _⟩ :: _) _; first | refine WPl.rdX (ReadR.sliceH rfl rfl hasA (by omega)) ?_ | refine WPl.rdX (ReadR.sliceL rfl rfl hasA (by omega)) ?_ | refine WPl.rdX (ReadR.sliceLH rfl rfl rfl hasA (by omega) (by omega)) ?_)
       | (refine WPl.spQ (fun hc => ?_) (fun hc => ?_) <;> try exact prA)
       | fail)
      refine WPq.gbagI (row := prow) (es := F.ps) (es' := A ++ B) (x := x) prow_own hpp (by show Takes _ [gbag prow (A ++ B), bx x.g 33 (shC x.s x.v), rowN 36 21 x.v x.bs.length (bks x.bs)] _; exact takesA) ?_
      exact WPq.dX (ho := ownsG) (vs := [.int .i64 6]) [bx gF 66 (fac mi md), mp idM mi (ies F.ps), mp drM md F.ds, gbag prow F.ps] ⟨F, rfl, h, rfl⟩
    | true =>
      rw [if_pos hh] at c16
      by_cases hn : 0 ≤ n ∧ n ≤ 10
      · rw [decide_eq_true hn] at c26
        obtain ⟨z, hz, hzi⟩ := has_lb hsx hh
        subst hzi
        have hzl := (List.getElem?_eq_some_iff.1 hz).1
        have hr : weighS L x.s.id z.id n = (updB L x.s.id (setBy z.id fun k => { k with wt := n }), 0) := by unfold weighS turnS; rw [hf]; dsimp only; rw [if_pos hh, if_neg (by rintro ⟨_, h2⟩; exact h2 hn)]
        rw [hr]
        have hset := set_setBy hsx hz (fun k => { k with wt := n })
        have hs := bks_1 (b' := { z with wt := n }) (o := 19) (u := .int .i64 n) hz (by omega) (by simp [flat_eq, z.ad.len, u8s_length])
        obtain ⟨hpi, hie⟩ := h.upd hps hf (f := setBy z.id fun k => { k with wt := n }) hxv (setBy_srt hsx fun k => rfl) (by rw [setBy_len]; exact hlx)
        refine Triple.enter Try.func21 rfl Try.ntmps21 rfl (fun W => ?_)
        dsimp only [argsF, Nat.reduceAdd]
        refine WPc.gbagO (row := prow) prow_own hpp ?_
        rw [show prow x = [bx x.g 33 (shC x.s x.v), rowN 36 21 x.v x.bs.length (bks x.bs)] from rfl, List.cons_append, List.cons_append, List.nil_append]
        repeat' (first
         | refine WPl.nil ?_ | refine WPq.then ?_ | refine WPq.thenR ?_ | refine WPq.thenE ?_ | refine WPq.blockN ?_ | refine WPq.blockR ?_ | refine WPq.blockE ?_ | refine WPq.blockO rfl ?_ | refine WPc.seq ?_ | refine WPc.block ?_ | refine WPc.ret ?_ | refine WPc.exit ?_ | refine WPc.skip ?_ | refine WPc.region ?_
         | (refine isCond ?_; first | refine WPc.cT ?_ | refine WPc.cF ?_ | (refine WPc.cQ (fun hc => ?_) (fun hc => ?_) <;> try exact prA))
         | (refine isC 16 ?_; refine WPl.cV c16 ?_ (hΔ := provsM))
         | (refine isD 22 ?_; refine WPl.rdX (ReadR.binE rfl rfl BinR.neq (congrArg (fun q => Value.bool (!q)) (decide_eq_true (rfl : (0 : Int) = 0)))) ?_)
         | (refine isC 26 ?_; refine WPl.cV (c26) ?_)
         | (refine isD 34 ?_; refine WPl.rdX (ReadR.indexE (i := lbB x.bs z.id) rfl rfl hasA hzl) ?_)
         | (refine isD 35 ?_; refine WPl.rdX (ReadR.fieldE rfl hasA (by omega)) ?_)
         | (show WPl _ _ _ _ _ _ _ (⟨_, .store _ (.tmp 35) _, _, _, _, _⟩ :: _) _; refine WPl.stEN (i := lbB x.bs z.id * 21 + 19) (m := x.bs.length) (xs := bks x.bs) (by omega) ?_)
         | (refine isOp ?_; first | refine WPl.rd ?_ | refine WPl.sk ?_ | refine WPl.rdB ?_)
         | (refine isSt ?_; first | refine WPl.st1 ?_ | refine WPl.stA ?_ | refine WPl.stEB ?_ | refine WPl.stRB ?_)
         | (show WPl _ _ _ _ _ _ _ (⟨_, .indexAddr _ _ _, _, _, _, _⟩ :: _) _; refine WPl.rdX (ReadR.indexE rfl rfl hasA (by first | assumption | omega)) ?_)
         | (show WPl _ _ _ _ _ _ _ (⟨_, .fieldAddr _ _ _, _, _, _, _⟩ :: _) _; refine WPl.rdX (ReadR.fieldE rfl hasA (by first | assumption | omega)) ?_)
         | (show WPl _ _ _ _ _ _ _ (⟨_, .load _ _, _, _, _, _⟩ :: _) _; first | refine WPl.rdX (ReadR.loadE rfl hasA (by assumption)) ?_ | refine WPl.rdX (ReadR.loadES (by assumption) (by first | assumption | omega) rfl hasA) ?_)
         | (show WPl _ _ _ _ _ _ _ (⟨_, .slice _ _ _ _ _, _, _, _, _⟩ :: _) _; first | refine WPl.rdX (ReadR.sliceH rfl rfl hasA (by omega)) ?_ | refine WPl.rdX (ReadR.sliceL rfl rfl hasA (by omega)) ?_ | refine WPl.rdX (ReadR.sliceLH rfl rfl rfl hasA (by omega) (by omega)) ?_)
         | (refine WPl.spQ (fun hc => ?_) (fun hc => ?_) <;> try exact prA)
         | fail)
        rw [hs, hset, ← hie]
        obtain ⟨bs', hbs'⟩ : ∃ bs', bs' = setBy z.id (fun k => { k with wt := n }) x.bs := ⟨_, rfl⟩
        rw [← hbs'] at hpi ⊢
        have hlb' : bs'.length = x.bs.length := by rw [hbs', setBy_len]
        rw [← hlb']
        refine WPq.gbagI (row := prow) (es := A ++ ⟨x.g, x.v, x.s, bs'⟩ :: B) (es' := A ++ B) (x := ⟨x.g, x.v, x.s, bs'⟩) prow_own List.perm_middle (by show Takes _ [gbag prow (A ++ B), bx x.g 33 (shC x.s x.v), rowN 36 21 x.v bs'.length (bks bs')] _; exact takesA) ?_
        exact WPq.dX (ho := ownsG) (vs := [.int .i64 0]) [bx gF 66 (fac mi md), mp idM mi (ies (A ++ ⟨x.g, x.v, x.s, bs'⟩ :: B)), mp drM md F.ds, gbag prow (A ++ ⟨x.g, x.v, x.s, bs'⟩ :: B)] ⟨⟨_, _⟩, rfl, hpi, rfl⟩
      · rw [decide_eq_false hn] at c26
        have hr : weighS L x.s.id b n = (L, 1) := by unfold weighS; rw [hf]; dsimp only; rw [if_pos ⟨hh, hn⟩]
        rw [hr]
        refine Triple.enter Try.func21 rfl Try.ntmps21 rfl (fun W => ?_)
        dsimp only [argsF, Nat.reduceAdd]
        refine WPc.gbagO (row := prow) prow_own hpp ?_
        rw [show prow x = [bx x.g 33 (shC x.s x.v), rowN 36 21 x.v x.bs.length (bks x.bs)] from rfl, List.cons_append, List.cons_append, List.nil_append]
        repeat' (first
         | refine WPl.nil ?_ | refine WPq.then ?_ | refine WPq.thenR ?_ | refine WPq.thenE ?_ | refine WPq.blockN ?_ | refine WPq.blockR ?_ | refine WPq.blockE ?_ | refine WPq.blockO rfl ?_ | refine WPc.seq ?_ | refine WPc.block ?_ | refine WPc.ret ?_ | refine WPc.exit ?_ | refine WPc.skip ?_ | refine WPc.region ?_
         | (refine isCond ?_; first | refine WPc.cT ?_ | refine WPc.cF ?_ | (refine WPc.cQ (fun hc => ?_) (fun hc => ?_) <;> try exact prA))
         | (refine isC 16 ?_; refine WPl.cV c16 ?_ (hΔ := provsM))
         | (refine isD 22 ?_; refine WPl.rdX (ReadR.binE rfl rfl BinR.neq (congrArg (fun q => Value.bool (!q)) (decide_eq_true (rfl : (0 : Int) = 0)))) ?_)
         | (refine isC 26 ?_; refine WPl.cV (c26) ?_)
         | (refine isOp ?_; first | refine WPl.rd ?_ | refine WPl.sk ?_ | refine WPl.rdB ?_)
         | (refine isSt ?_; first | refine WPl.st1 ?_ | refine WPl.stA ?_ | refine WPl.stEB ?_ | refine WPl.stRB ?_)
         | (show WPl _ _ _ _ _ _ _ (⟨_, .indexAddr _ _ _, _, _, _, _⟩ :: _) _; refine WPl.rdX (ReadR.indexE rfl rfl hasA (by first | assumption | omega)) ?_)
         | (show WPl _ _ _ _ _ _ _ (⟨_, .fieldAddr _ _ _, _, _, _, _⟩ :: _) _; refine WPl.rdX (ReadR.fieldE rfl hasA (by first | assumption | omega)) ?_)
         | (show WPl _ _ _ _ _ _ _ (⟨_, .load _ _, _, _, _, _⟩ :: _) _; first | refine WPl.rdX (ReadR.loadE rfl hasA (by assumption)) ?_ | refine WPl.rdX (ReadR.loadES (by assumption) (by first | assumption | omega) rfl hasA) ?_)
         | (show WPl _ _ _ _ _ _ _ (⟨_, .slice _ _ _ _ _, _, _, _, _⟩ :: _) _; first | refine WPl.rdX (ReadR.sliceH rfl rfl hasA (by omega)) ?_ | refine WPl.rdX (ReadR.sliceL rfl rfl hasA (by omega)) ?_ | refine WPl.rdX (ReadR.sliceLH rfl rfl rfl hasA (by omega) (by omega)) ?_)
         | (refine WPl.spQ (fun hc => ?_) (fun hc => ?_) <;> try exact prA)
         | fail)
        refine WPq.gbagI (row := prow) (es := F.ps) (es' := A ++ B) (x := x) prow_own hpp (by show Takes _ [gbag prow (A ++ B), bx x.g 33 (shC x.s x.v), rowN 36 21 x.v x.bs.length (bks x.bs)] _; exact takesA) ?_
        exact WPq.dX (ho := ownsG) (vs := [.int .i64 1]) [bx gF 66 (fac mi md), mp idM mi (ies F.ps), mp drM md F.ds, gbag prow F.ps] ⟨F, rfl, h, rfl⟩
end
theorem gaddN_t (s : Sh) (v : Value) (hv : v.oneCell' = true) : Triple Try.prog 8 #[.pointer none, ag (shC s v)] [] (RVal (.int .i64 1)) := by
  have hal := s.ad.len
  refine Triple.enter Try.func8 rfl Try.ntmps8 rfl (fun W => ?_)
  dsimp only [argsF, Nat.reduceAdd]
  repeat' (first
   | refine WPl.nil ?_ | refine WPq.then ?_ | refine WPq.thenR ?_ | refine WPq.thenE ?_ | refine WPq.blockN ?_ | refine WPq.blockR ?_ | refine WPq.blockE ?_ | refine WPq.blockO rfl ?_ | refine WPc.seq ?_ | refine WPc.block ?_ | refine WPc.ret ?_ | refine WPc.exit ?_ | refine WPc.skip ?_ | refine WPc.region ?_
   | (refine isCond ?_; first | refine WPc.cT ?_ | refine WPc.cF ?_ | (refine WPc.cQ (fun hc => ?_) (fun hc => ?_) <;> try exact prA))
   | (refine isD 10 ?_; refine WPl.rdX (readP) ?_)
   | (refine isOp ?_; first | refine WPl.rd ?_ | refine WPl.sk ?_ | refine WPl.rdB ?_)
   | (refine isBx ?_; refine WPl.nw fun g => ?_)
   | (refine isSt ?_; first | refine WPl.st1 ?_ | refine WPl.stA ?_ | refine WPl.stEB ?_ | refine WPl.stRB ?_)
   | (show WPl _ _ _ _ _ _ _ (⟨_, .indexAddr _ _ _, _, _, _, _⟩ :: _) _; refine WPl.rdX (ReadR.indexE rfl rfl hasA (by first | assumption | omega)) ?_)
   | (show WPl _ _ _ _ _ _ _ (⟨_, .fieldAddr _ _ _, _, _, _, _⟩ :: _) _; refine WPl.rdX (ReadR.fieldE rfl hasA (by first | assumption | omega)) ?_)
   | (show WPl _ _ _ _ _ _ _ (⟨_, .load _ _, _, _, _, _⟩ :: _) _; first | refine WPl.rdX (ReadR.loadE rfl hasA (by assumption)) ?_ | refine WPl.rdX (ReadR.loadES (by assumption) (by first | assumption | omega) rfl hasA) ?_)
   | (show WPl _ _ _ _ _ _ _ (⟨_, .slice _ _ _ _ _, _, _, _, _⟩ :: _) _; first | refine WPl.rdX (ReadR.sliceH rfl rfl hasA (by omega)) ?_ | refine WPl.rdX (ReadR.sliceL rfl rfl hasA (by omega)) ?_ | refine WPl.rdX (ReadR.sliceLH rfl rfl rfl hasA (by omega) (by omega)) ?_)
   | (refine WPl.spQ (fun hc => ?_) (fun hc => ?_) <;> try exact prA)
   | fail)
  exact WPq.dV
theorem gdropN_t (id : Int) : Triple Try.prog 11 #[.pointer none, .int .i64 id] [] (RVal (.int .i64 1)) := by
  refine Triple.enter Try.func11 rfl Try.ntmps11 rfl (fun W => ?_)
  dsimp only [argsF, Nat.reduceAdd]
  repeat' (first
   | refine WPl.nil ?_ | refine WPq.then ?_ | refine WPq.thenR ?_ | refine WPq.thenE ?_ | refine WPq.blockN ?_ | refine WPq.blockR ?_ | refine WPq.blockE ?_ | refine WPq.blockO rfl ?_ | refine WPc.seq ?_ | refine WPc.block ?_ | refine WPc.ret ?_ | refine WPc.exit ?_ | refine WPc.skip ?_ | refine WPc.region ?_
   | (refine isCond ?_; first | refine WPc.cT ?_ | refine WPc.cF ?_ | (refine WPc.cQ (fun hc => ?_) (fun hc => ?_) <;> try exact prA))
   | (refine isD 8 ?_; refine WPl.rdX (readP) ?_)
   | (refine isOp ?_; first | refine WPl.rd ?_ | refine WPl.sk ?_ | refine WPl.rdB ?_)
   | (show WPl _ _ _ _ _ _ _ (⟨_, .indexAddr _ _ _, _, _, _, _⟩ :: _) _; refine WPl.rdX (ReadR.indexE rfl rfl hasA (by first | assumption | omega)) ?_)
   | (show WPl _ _ _ _ _ _ _ (⟨_, .fieldAddr _ _ _, _, _, _, _⟩ :: _) _; refine WPl.rdX (ReadR.fieldE rfl hasA (by first | assumption | omega)) ?_)
   | (show WPl _ _ _ _ _ _ _ (⟨_, .load _ _, _, _, _, _⟩ :: _) _; first | refine WPl.rdX (ReadR.loadE rfl hasA (by assumption)) ?_ | refine WPl.rdX (ReadR.loadES (by assumption) (by first | assumption | omega) rfl hasA) ?_)
   | (show WPl _ _ _ _ _ _ _ (⟨_, .slice _ _ _ _ _, _, _, _, _⟩ :: _) _; first | refine WPl.rdX (ReadR.sliceH rfl rfl hasA (by omega)) ?_ | refine WPl.rdX (ReadR.sliceL rfl rfl hasA (by omega)) ?_ | refine WPl.rdX (ReadR.sliceLH rfl rfl rfl hasA (by omega) (by omega)) ?_)
   | (refine WPl.spQ (fun hc => ?_) (fun hc => ?_) <;> try exact prA)
   | fail)
  exact WPq.dV
theorem gaddBN_t (id : Int) (c : Bk) : Triple Try.prog 9 #[.pointer none, .int .i64 id, ag (bkC c)] [] (RVal (.int .i64 1)) := by
  have hal := c.ad.len
  refine Triple.enter Try.func9 rfl Try.ntmps9 rfl (fun W => ?_)
  dsimp only [argsF, Nat.reduceAdd]
  repeat' (first
   | refine WPl.nil ?_ | refine WPq.then ?_ | refine WPq.thenR ?_ | refine WPq.thenE ?_ | refine WPq.blockN ?_ | refine WPq.blockR ?_ | refine WPq.blockE ?_ | refine WPq.blockO rfl ?_ | refine WPc.seq ?_ | refine WPc.block ?_ | refine WPc.ret ?_ | refine WPc.exit ?_ | refine WPc.skip ?_ | refine WPc.region ?_
   | (refine isCond ?_; first | refine WPc.cT ?_ | refine WPc.cF ?_ | (refine WPc.cQ (fun hc => ?_) (fun hc => ?_) <;> try exact prA))
   | (refine isD 12 ?_; refine WPl.rdX (readP) ?_)
   | (refine isOp ?_; first | refine WPl.rd ?_ | refine WPl.sk ?_ | refine WPl.rdB ?_)
   | (refine isBx ?_; refine WPl.nw fun g => ?_)
   | (refine isSt ?_; first | refine WPl.st1 ?_ | refine WPl.stA ?_ | refine WPl.stEB ?_ | refine WPl.stRB ?_)
   | (show WPl _ _ _ _ _ _ _ (⟨_, .indexAddr _ _ _, _, _, _, _⟩ :: _) _; refine WPl.rdX (ReadR.indexE rfl rfl hasA (by first | assumption | omega)) ?_)
   | (show WPl _ _ _ _ _ _ _ (⟨_, .fieldAddr _ _ _, _, _, _, _⟩ :: _) _; refine WPl.rdX (ReadR.fieldE rfl hasA (by first | assumption | omega)) ?_)
   | (show WPl _ _ _ _ _ _ _ (⟨_, .load _ _, _, _, _, _⟩ :: _) _; first | refine WPl.rdX (ReadR.loadE rfl hasA (by assumption)) ?_ | refine WPl.rdX (ReadR.loadES (by assumption) (by first | assumption | omega) rfl hasA) ?_)
   | (show WPl _ _ _ _ _ _ _ (⟨_, .slice _ _ _ _ _, _, _, _, _⟩ :: _) _; first | refine WPl.rdX (ReadR.sliceH rfl rfl hasA (by omega)) ?_ | refine WPl.rdX (ReadR.sliceL rfl rfl hasA (by omega)) ?_ | refine WPl.rdX (ReadR.sliceLH rfl rfl rfl hasA (by omega) (by omega)) ?_)
   | (refine WPl.spQ (fun hc => ?_) (fun hc => ?_) <;> try exact prA)
   | fail)
  exact WPq.dV
theorem gdropBN_t (id b : Int) : Triple Try.prog 19 #[.pointer none, .int .i64 id, .int .i64 b] [] (RVal (.int .i64 1)) := by
  have c := gfindN_t id b
  refine Triple.enter Try.func19 rfl Try.ntmps19 rfl (fun W => ?_)
  dsimp only [argsF, Nat.reduceAdd]
  repeat' (first
   | refine WPl.nil ?_ | refine WPq.then ?_ | refine WPq.thenR ?_ | refine WPq.thenE ?_ | refine WPq.blockN ?_ | refine WPq.blockR ?_ | refine WPq.blockE ?_ | refine WPq.blockO rfl ?_ | refine WPc.seq ?_ | refine WPc.block ?_ | refine WPc.ret ?_ | refine WPc.exit ?_ | refine WPc.skip ?_ | refine WPc.region ?_
   | (refine isCond ?_; first | refine WPc.cT ?_ | refine WPc.cF ?_ | (refine WPc.cQ (fun hc => ?_) (fun hc => ?_) <;> try exact prA))
   | (refine isC 14 ?_; refine WPl.cV (c) ?_)
   | (refine isD 19 ?_; refine WPl.rdX (ReadR.binE rfl rfl BinR.eql (congrArg Value.bool (decide_eq_false (show ¬ (1 : Int) = 0 by omega)))) ?_)
   | (refine isOp ?_; first | refine WPl.rd ?_ | refine WPl.sk ?_ | refine WPl.rdB ?_)
   | (refine isSt ?_; first | refine WPl.st1 ?_ | refine WPl.stA ?_ | refine WPl.stEB ?_ | refine WPl.stRB ?_)
   | (show WPl _ _ _ _ _ _ _ (⟨_, .indexAddr _ _ _, _, _, _, _⟩ :: _) _; refine WPl.rdX (ReadR.indexE rfl rfl hasA (by first | assumption | omega)) ?_)
   | (show WPl _ _ _ _ _ _ _ (⟨_, .fieldAddr _ _ _, _, _, _, _⟩ :: _) _; refine WPl.rdX (ReadR.fieldE rfl hasA (by first | assumption | omega)) ?_)
   | (show WPl _ _ _ _ _ _ _ (⟨_, .load _ _, _, _, _, _⟩ :: _) _; first | refine WPl.rdX (ReadR.loadE rfl hasA (by assumption)) ?_ | refine WPl.rdX (ReadR.loadES (by assumption) (by first | assumption | omega) rfl hasA) ?_)
   | (show WPl _ _ _ _ _ _ _ (⟨_, .slice _ _ _ _ _, _, _, _, _⟩ :: _) _; first | refine WPl.rdX (ReadR.sliceH rfl rfl hasA (by omega)) ?_ | refine WPl.rdX (ReadR.sliceL rfl rfl hasA (by omega)) ?_ | refine WPl.rdX (ReadR.sliceLH rfl rfl rfl hasA (by omega) (by omega)) ?_)
   | (refine WPl.spQ (fun hc => ?_) (fun hc => ?_) <;> try exact prA)
   | fail)
  exact WPq.dV
theorem gdrainN_t (id b : Int) (on : Bool) : Triple Try.prog 20 #[.pointer none, .int .i64 id, .int .i64 b, .bool on] [] (RVal (.int .i64 1)) := by
  have c := gfindN_t id b
  refine Triple.enter Try.func20 rfl Try.ntmps20 rfl (fun W => ?_)
  dsimp only [argsF, Nat.reduceAdd]
  repeat' (first
   | refine WPl.nil ?_ | refine WPq.then ?_ | refine WPq.thenR ?_ | refine WPq.thenE ?_ | refine WPq.blockN ?_ | refine WPq.blockR ?_ | refine WPq.blockE ?_ | refine WPq.blockO rfl ?_ | refine WPc.seq ?_ | refine WPc.block ?_ | refine WPc.ret ?_ | refine WPc.exit ?_ | refine WPc.skip ?_ | refine WPc.region ?_
   | (refine isCond ?_; first | refine WPc.cT ?_ | refine WPc.cF ?_ | (refine WPc.cQ (fun hc => ?_) (fun hc => ?_) <;> try exact prA))
   | (refine isC 16 ?_; refine WPl.cV (c) ?_)
   | (refine isD 21 ?_; refine WPl.rdX (ReadR.binE rfl rfl BinR.eql (congrArg Value.bool (decide_eq_false (show ¬ (1 : Int) = 0 by omega)))) ?_)
   | (refine isOp ?_; first | refine WPl.rd ?_ | refine WPl.sk ?_ | refine WPl.rdB ?_)
   | (refine isSt ?_; first | refine WPl.st1 ?_ | refine WPl.stA ?_ | refine WPl.stEB ?_ | refine WPl.stRB ?_)
   | (show WPl _ _ _ _ _ _ _ (⟨_, .indexAddr _ _ _, _, _, _, _⟩ :: _) _; refine WPl.rdX (ReadR.indexE rfl rfl hasA (by first | assumption | omega)) ?_)
   | (show WPl _ _ _ _ _ _ _ (⟨_, .fieldAddr _ _ _, _, _, _, _⟩ :: _) _; refine WPl.rdX (ReadR.fieldE rfl hasA (by first | assumption | omega)) ?_)
   | (show WPl _ _ _ _ _ _ _ (⟨_, .load _ _, _, _, _, _⟩ :: _) _; first | refine WPl.rdX (ReadR.loadE rfl hasA (by assumption)) ?_ | refine WPl.rdX (ReadR.loadES (by assumption) (by first | assumption | omega) rfl hasA) ?_)
   | (show WPl _ _ _ _ _ _ _ (⟨_, .slice _ _ _ _ _, _, _, _, _⟩ :: _) _; first | refine WPl.rdX (ReadR.sliceH rfl rfl hasA (by omega)) ?_ | refine WPl.rdX (ReadR.sliceL rfl rfl hasA (by omega)) ?_ | refine WPl.rdX (ReadR.sliceLH rfl rfl rfl hasA (by omega) (by omega)) ?_)
   | (refine WPl.spQ (fun hc => ?_) (fun hc => ?_) <;> try exact prA)
   | fail)
  exact WPq.dV
theorem gweighN_t (id b n : Int) : Triple Try.prog 21 #[.pointer none, .int .i64 id, .int .i64 b, .int .i64 n] [] (RVal (.int .i64 1)) := by
  have c := gfindN_t id b
  refine Triple.enter Try.func21 rfl Try.ntmps21 rfl (fun W => ?_)
  dsimp only [argsF, Nat.reduceAdd]
  repeat' (first
   | refine WPl.nil ?_ | refine WPq.then ?_ | refine WPq.thenR ?_ | refine WPq.thenE ?_ | refine WPq.blockN ?_ | refine WPq.blockR ?_ | refine WPq.blockE ?_ | refine WPq.blockO rfl ?_ | refine WPc.seq ?_ | refine WPc.block ?_ | refine WPc.ret ?_ | refine WPc.exit ?_ | refine WPc.skip ?_ | refine WPc.region ?_
   | (refine isCond ?_; first | refine WPc.cT ?_ | refine WPc.cF ?_ | (refine WPc.cQ (fun hc => ?_) (fun hc => ?_) <;> try exact prA))
   | (refine isC 16 ?_; refine WPl.cV (c) ?_)
   | (refine isD 22 ?_; refine WPl.rdX (ReadR.binE rfl rfl BinR.neq (congrArg (fun q => Value.bool (!q)) (decide_eq_false (show ¬ (1 : Int) = 0 by omega)))) ?_)
   | (refine isOp ?_; first | refine WPl.rd ?_ | refine WPl.sk ?_ | refine WPl.rdB ?_)
   | (refine isSt ?_; first | refine WPl.st1 ?_ | refine WPl.stA ?_ | refine WPl.stEB ?_ | refine WPl.stRB ?_)
   | (show WPl _ _ _ _ _ _ _ (⟨_, .indexAddr _ _ _, _, _, _, _⟩ :: _) _; refine WPl.rdX (ReadR.indexE rfl rfl hasA (by first | assumption | omega)) ?_)
   | (show WPl _ _ _ _ _ _ _ (⟨_, .fieldAddr _ _ _, _, _, _, _⟩ :: _) _; refine WPl.rdX (ReadR.fieldE rfl hasA (by first | assumption | omega)) ?_)
   | (show WPl _ _ _ _ _ _ _ (⟨_, .load _ _, _, _, _, _⟩ :: _) _; first | refine WPl.rdX (ReadR.loadE rfl hasA (by assumption)) ?_ | refine WPl.rdX (ReadR.loadES (by assumption) (by first | assumption | omega) rfl hasA) ?_)
   | (show WPl _ _ _ _ _ _ _ (⟨_, .slice _ _ _ _ _, _, _, _, _⟩ :: _) _; first | refine WPl.rdX (ReadR.sliceH rfl rfl hasA (by omega)) ?_ | refine WPl.rdX (ReadR.sliceL rfl rfl hasA (by omega)) ?_ | refine WPl.rdX (ReadR.sliceLH rfl rfl rfl hasA (by omega) (by omega)) ?_)
   | (refine WPl.spQ (fun hc => ?_) (fun hc => ?_) <;> try exact prA)
   | fail)
  exact WPq.dV
end Go.Proofs.Ytpjfkomicehinaa
