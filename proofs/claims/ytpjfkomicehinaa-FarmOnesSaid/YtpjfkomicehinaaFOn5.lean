/- What the row of farmOnes_holds needs: part 5. -/
import Derived.Test.YtpjfkomicehinaaFOn4
import Derived.Test.YtpjfkomicehinaaFOn3
import Derived.Lib.AppendZerosOnto
import Derived.Lib.Overlaps
import Derived.Laws.Externs
/- Layer 20 (farm): contracts: New, AddService, DropService, Drain, Weigh. -/
namespace Go.Proofs.Ytpjfkomicehinaa
open Go.RowKit
set_option linter.unusedSimpArgs false
set_option linter.unusedVariables false
set_option maxRecDepth 20000
set_option maxHeartbeats 4000000
attribute [local irreducible] WPc WPl WPq ReadR OpT BinR HasS bx rdN rowN Take Takes Prov Triple ResF BuildP Done ag Int.decLt Int.decLe Int.instDecidableEq
attribute [local irreducible] mp rmp rg rgo mput mget mfind mdel gbag bks ies lbB hasB findS doorS mpe
theorem ownsG {Γ : List Asn} (h : ∀ A, A ∈ Γ → A.own = true := by ((repeat' (first | exact own_nil | refine own_cons (by first | exact bx_own | exact rowN_own | exact mp_own | exact gbag_own | exact rfl) ?_ | fail)) <;> fail)) : ∀ A, A ∈ Γ → A.own = true := h
def RFm (gF mi md : Nat) (c : Value) (L : List Sb) : Value → List Asn → Prop := fun v Γ => ∃ F, v = c ∧ PInv L F ∧ Γ = fmA gF mi md F
def weighS (L : List Sb) (id b n : Int) : List Sb × Int := match findS L id with
  | none => (L, 6)
  | some y => if hasB y.bs b = true ∧ ¬ (0 ≤ n ∧ n ≤ 10) then (L, 1) else turnS L id b (setBy b fun k => { k with wt := n })
theorem PInv.empty : PInv [] ⟨[], []⟩ := by
  refine ⟨⟨List.Pairwise.nil, fun x hx => (by cases hx), fun x hx => (by cases hx), Nat.zero_le _, fun x hx => (by cases hx), fun x hx => (by cases hx), fun x hx => (by cases hx)⟩, .nil, fun d => ?_, List.Pairwise.nil, fun x hx => (by cases hx)⟩
  with_unfolding_all rfl
theorem gnew_t : Triple Try.prog 7 #[] [] (fun v Γ => ∃ gF mi md, v = hF gF ∧ Γ = fmA gF mi md ⟨[], []⟩) := by
  refine Triple.enter Try.func7 rfl Try.ntmps7 rfl (fun W => ?_)
  dsimp only [argsF, Nat.reduceAdd]
  repeat' (first
   | refine WPl.nil ?_ | refine WPq.then ?_ | refine WPq.thenR ?_ | refine WPq.thenE ?_ | refine WPq.blockN ?_ | refine WPq.blockR ?_ | refine WPq.blockE ?_ | refine WPq.blockO rfl ?_ | refine WPc.seq ?_ | refine WPc.block ?_ | refine WPc.ret ?_ | refine WPc.exit ?_ | refine WPc.skip ?_ | refine WPc.region ?_
   | (refine isCond ?_; first | refine WPc.cT ?_ | refine WPc.cF ?_ | (refine WPc.cQ (fun hc => ?_) (fun hc => ?_) <;> try exact prA))
   | (refine isD 1 ?_; refine WPl.mnew idM fun mi => ?_)
   | (refine isD 2 ?_; refine WPl.mnew drM fun md => ?_)
   | (refine isD 3 ?_; refine WPl.rdX (ReadR.build (cs' := fac mi md) buildA) ?_)
   | (refine isD 4 ?_; first | (refine isAl ?_; refine WPl.nw fun gF => ?_) | (refine isBx ?_; refine WPl.nw fun gF => ?_))
   | (refine isOp ?_; first | refine WPl.rd ?_ | refine WPl.sk ?_ | refine WPl.rdB ?_)
   | (refine isBx ?_; refine WPl.nw fun g => ?_)
   | (show WPl _ _ _ _ _ _ _ (⟨_, .indexAddr _ _ _, _, _, _, _⟩ :: _) _; refine WPl.rdX (ReadR.indexE rfl rfl hasA (by first | assumption | omega)) ?_)
   | (show WPl _ _ _ _ _ _ _ (⟨_, .fieldAddr _ _ _, _, _, _, _⟩ :: _) _; refine WPl.rdX (ReadR.fieldE rfl hasA (by first | assumption | omega)) ?_)
   | (show WPl _ _ _ _ _ _ _ (⟨_, .load _ _, _, _, _, _⟩ :: _) _; first | refine WPl.rdX (ReadR.loadE rfl hasA (by assumption)) ?_ | refine WPl.rdX (ReadR.loadES (by assumption) (by first | assumption | omega) rfl hasA) ?_)
   | (show WPl _ _ _ _ _ _ _ (⟨_, .slice _ _ _ _ _, _, _, _, _⟩ :: _) _; first | refine WPl.rdX (ReadR.sliceH rfl rfl hasA (by omega)) ?_ | refine WPl.rdX (ReadR.sliceL rfl rfl hasA (by omega)) ?_ | refine WPl.rdX (ReadR.sliceLH rfl rfl rfl hasA (by omega) (by omega)) ?_)
   | (refine WPl.spQ (fun hc => ?_) (fun hc => ?_) <;> try exact prA)
   | fail)
  refine WPq.gbag0 prow ?_
  refine WPq.dX (ho := ownsG) (vs := [hF gF]) [bx gF 66 (fac mi md), mp idM mi [], mp drM md [], gbag prow []] ⟨gF, mi, md, rfl, ?_⟩
  with_unfolding_all rfl
section
variable (gF mi md : Nat) (L : List Sb) (F : FM)
theorem gadd_t (h : PInv L F) (s : Sh) (vb : Value) (l : List Bk) (hv : vb.oneCell' = true) (hw : shW s) :
    Triple Try.prog 8 #[hF gF, ag (shC s vb)] (rdN vb l.length (bks l) :: fmA gF mi md F) (RFm gF mi md (.int .i64 (addS L s l.length).2) (addS L s l.length).1) := by
  have hfx := shC_ok (s := s) hv
  have hal := s.ad.len
  have c13 := gmay_t s vb l hv
  have c32 := gof_t s vb hv
  have hlen := h.len'
  have hll := h.len
  have e0 : bks ([] : List Bk) = [] := by with_unfolding_all rfl
  cases hm : mayS s l.length with
  | false =>
    have hr : addS L s l.length = (L, 1) := by unfold addS; rw [if_neg (by rw [hm]; simp)]
    rw [hr]
    rw [hm] at c13
    refine Triple.enter Try.func8 rfl Try.ntmps8 rfl (fun W => ?_)
    dsimp only [argsF, Nat.reduceAdd]
    repeat' (first
     | refine WPl.nil ?_ | refine WPq.then ?_ | refine WPq.thenR ?_ | refine WPq.thenE ?_ | refine WPq.blockN ?_ | refine WPq.blockR ?_ | refine WPq.blockE ?_ | refine WPq.blockO rfl ?_ | refine WPc.seq ?_ | refine WPc.block ?_ | refine WPc.ret ?_ | refine WPc.exit ?_ | refine WPc.skip ?_ | refine WPc.region ?_
     | (refine isCond ?_; first | refine WPc.cT ?_ | refine WPc.cF ?_ | (refine WPc.cQ (fun hc => ?_) (fun hc => ?_) <;> try exact prA))
     | (refine isD 3 ?_; first | (refine isAl ?_; refine WPl.nw fun g3 => ?_) | (refine isBx ?_; refine WPl.nw fun g3 => ?_))
     | (refine isD 10 ?_; refine WPl.rdX (readP) ?_)
     | (refine isC 13 ?_; refine WPl.cV c13 ?_ (hΔ := provsM))
     | (refine isOp ?_; first | refine WPl.rd ?_ | refine WPl.sk ?_ | refine WPl.rdB ?_)
     | (refine isBx ?_; refine WPl.nw fun g => ?_)
     | (refine isSt ?_; first | refine WPl.st1 ?_ | refine WPl.stA ?_ | refine WPl.stEB ?_ | refine WPl.stRB ?_)
     | (show WPl _ _ _ _ _ _ _ (⟨_, .indexAddr _ _ _, _, _, _, _⟩ :: _) _; refine WPl.rdX (ReadR.indexE rfl rfl hasA (by first | assumption | omega)) ?_)
     | (show WPl _ _ _ _ _ _ _ (⟨_, .fieldAddr _ _ _, _, _, _, _⟩ :: _) _; refine WPl.rdX (ReadR.fieldE rfl hasA (by first | assumption | omega)) ?_)
     | (show WPl _ _ _ _ _ _ _ (⟨_, .load _ _, _, _, _, _⟩ :: _) _; first | refine WPl.rdX (ReadR.loadE rfl hasA (by assumption)) ?_ | refine WPl.rdX (ReadR.loadES (by assumption) (by first | assumption | omega) rfl hasA) ?_)
     | (show WPl _ _ _ _ _ _ _ (⟨_, .slice _ _ _ _ _, _, _, _, _⟩ :: _) _; first | refine WPl.rdX (ReadR.sliceH rfl rfl hasA (by omega)) ?_ | refine WPl.rdX (ReadR.sliceL rfl rfl hasA (by omega)) ?_ | refine WPl.rdX (ReadR.sliceLH rfl rfl rfl hasA (by omega) (by omega)) ?_)
     | (refine WPl.spQ (fun hc => ?_) (fun hc => ?_) <;> try exact prA)
     | fail)
    exact WPq.dX (ho := ownsG) (vs := [.int .i64 1]) [bx gF 66 (fac mi md), mp idM mi (ies F.ps), mp drM md F.ds, gbag prow F.ps] ⟨F, rfl, h, rfl⟩
  | true =>
    rw [hm] at c13
    obtain ⟨hget, hb⟩ := ies_get (ps := F.ps) (sid := s.id) rfl
    obtain ⟨p1, hp1⟩ : ∃ p1, p1 = idM.vc (mget idM (ies F.ps) s.id) := ⟨_, rfl⟩
    obtain ⟨b1, hb1⟩ : ∃ b1, b1 = mhas (ies F.ps) s.id := ⟨_, rfl⟩
    have hb1f : b1 = (findS L s.id).isSome := by
      rw [hb1, hb]
      cases hf : findS L s.id with
      | none => rw [h.no hf]; rfl
      | some y => obtain ⟨A, B, x, _, _, _, hm⟩ := h.at hf; rw [hm]; rfl
    obtain ⟨n2, b2, hg2, hb2, hb2f⟩ : ∃ n2 b2, drM.vc (mget drM F.ds s.door) = .int .i64 n2 ∧ mhas F.ds s.door = b2 ∧ b2 = (doorS L s.door).isSome := by
      refine ⟨_, _, by with_unfolding_all rfl, rfl, ?_⟩
      have hd := h.door s.door
      with_unfolding_all
        unfold mhas
        rw [hd]
        cases doorS L s.door <;> rfl
    have hwi : idM.wf s.id := hw.1
    have hwd : drM.wf s.door := hw.2
    have hp1' := hp1.symm
    have hb1' := hb1.symm
    by_cases hth : (findS L s.id).isSome = true ∨ (doorS L s.door).isSome = true
    · have hr : addS L s l.length = (L, 7) := by unfold addS; rw [if_pos hm, if_pos hth]
      rw [hr]
      rw [← hb1f, ← hb2f] at hth
      clear hp1 hb1
      cases b1 with
      | true =>
        refine Triple.enter Try.func8 rfl Try.ntmps8 rfl (fun W => ?_)
        dsimp only [argsF, Nat.reduceAdd]
        repeat' (first
         | refine WPl.nil ?_ | refine WPq.then ?_ | refine WPq.thenR ?_ | refine WPq.thenE ?_ | refine WPq.blockN ?_ | refine WPq.blockR ?_ | refine WPq.blockE ?_ | refine WPq.blockO rfl ?_ | refine WPc.seq ?_ | refine WPc.block ?_ | refine WPc.ret ?_ | refine WPc.exit ?_ | refine WPc.skip ?_ | refine WPc.region ?_
         | (refine isReg 3 ?_; refine WPc.drA [([], [21, 22]), ([0], [17, 21, 22]), ([0, 1], [17, 18, 21, 22]), ([0, 1, 2], [17, 18, 19, 21, 22]), ([], [17, 18, 19, 20]), ([4], [17, 18, 19, 20, 21]), ([0, 1, 2, 3, 4, 5], [17, 18, 19, 20, 21, 22]), ([0, 1, 2, 3, 4, 5, 6], [17, 18, 19, 20, 21, 22, 23]), ([0, 1, 2, 3, 4, 5, 6, 7], [16, 17, 18, 19, 20, 21, 22, 23, 25]), ([0, 1, 2, 3, 4, 5, 6, 7], [5, 16, 17, 18, 19, 20, 21, 22, 23, 24]), ([0, 1, 2, 3, 4, 5, 6, 7, 8], [16, 17, 18, 19, 20, 21, 22, 23, 24, 25]), ([0, 1, 2, 3, 4, 5, 6, 7, 8, 9, 10], [5, 16, 17, 18, 19, 20, 21, 22, 23, 24, 25])] [] (Γx := []) ?_; dsimp only [prev0, List.length_nil, List.length_cons])
         | (refine isReg 4 ?_; refine WPc.drA [([], [31, 32]), ([0], [27, 31, 32]), ([0, 1], [27, 28, 31, 32]), ([0, 1, 2], [27, 28, 29, 31, 32]), ([], [27, 28, 29, 30]), ([4], [27, 28, 29, 30, 31]), ([0, 1, 2, 3, 4, 5], [27, 28, 29, 30, 31, 32]), ([0, 1, 2, 3, 4, 5, 6], [27, 28, 29, 30, 31, 32, 33]), ([0, 1, 2, 3, 4, 5, 6, 7], [26, 27, 28, 29, 30, 31, 32, 33, 35]), ([0, 1, 2, 3, 4, 5, 6, 7], [7, 26, 27, 28, 29, 30, 31, 32, 33, 34]), ([0, 1, 2, 3, 4, 5, 6, 7, 8], [26, 27, 28, 29, 30, 31, 32, 33, 34, 35]), ([0, 1, 2, 3, 4, 5, 6, 7, 8, 9, 10], [7, 26, 27, 28, 29, 30, 31, 32, 33, 34, 35])] [] (Γx := []) ?_; dsimp only [prev0, List.length_nil, List.length_cons])
         | (refine gAny ?_; first | (refine gC 32 ?_; refine RGl.vl (fun e hk => OpT.callN (c32)) ?_) | (refine gD 10 ?_; refine RGl.rdX (fun e hk => by (try dsimp only [bndR, ensR, oksR, fcutR, List.append_nil, List.nil_append, List.cons_append, List.append_assoc] at hk ⊢); exact readP) ?_) | (refine gD 23 ?_; refine RGl.rdX (fun e hk => by (try dsimp only [bndR, ensR, oksR, fcutR, List.append_nil, List.nil_append, List.cons_append, List.append_assoc] at hk ⊢); exact ReadR.lookOk (M := idM) (k := s.id) hwi rfl rfl memA hp1' hb1') ?_) | (refine gD 33 ?_; refine RGl.rdX (fun e hk => by (try dsimp only [bndR, ensR, oksR, fcutR, List.append_nil, List.nil_append, List.cons_append, List.append_assoc] at hk ⊢); exact ReadR.lookOk (M := drM) (k := s.door) hwd rfl rfl memA hg2 hb2) ?_) | (refine gOp ?_; first | refine RGl.rdA ?_ | refine RGl.rdX (fun e hk => by (try dsimp only [bndR, ensR, oksR, fcutR, List.append_nil, List.nil_append, List.cons_append, List.append_assoc] at hk ⊢); exact readB) ?_) | (refine RGl.fin (fun e hk => ?_); (try dsimp only [bndA, ensAR, oksA, List.append_nil, List.nil_append, List.cons_append, List.append_assoc] at hk ⊢); (repeat (obtain ⟨hk1, hk⟩ := hk))) | fail)
         | (refine isCond ?_; first | refine WPc.cT ?_ | refine WPc.cF ?_ | (refine WPc.cQ (fun hc => ?_) (fun hc => ?_) <;> try exact prA))
         | (refine isD 3 ?_; first | (refine isAl ?_; refine WPl.nw fun g3 => ?_) | (refine isBx ?_; refine WPl.nw fun g3 => ?_))
         | (refine isD 10 ?_; refine WPl.rdX (readP) ?_)
         | (refine isC 13 ?_; refine WPl.cV c13 ?_ (hΔ := provsM))
         | (refine isD 23 ?_; refine WPl.rdX (ReadR.lookOk (M := idM) (k := s.id) hwi rfl rfl memA hp1' hb1') ?_)
         | (refine isC 32 ?_; refine WPl.cV (c32) ?_)
         | (refine isD 33 ?_; refine WPl.rdX (ReadR.lookOk (M := drM) (k := s.door) hwd rfl rfl memA hg2 hb2) ?_)
         | (refine isOp ?_; first | refine WPl.rd ?_ | refine WPl.sk ?_ | refine WPl.rdB ?_)
         | (refine isBx ?_; refine WPl.nw fun g => ?_)
         | (refine isSt ?_; first | refine WPl.st1 ?_ | refine WPl.stA ?_ | refine WPl.stEB ?_ | refine WPl.stRB ?_)
         | (show WPl _ _ _ _ _ _ _ (⟨_, .indexAddr _ _ _, _, _, _, _⟩ :: _) _; refine WPl.rdX (ReadR.indexE rfl rfl hasA (by first | assumption | omega)) ?_)
         | (show WPl _ _ _ _ _ _ _ (⟨_, .fieldAddr _ _ _, _, _, _, _⟩ :: _) _; refine WPl.rdX (ReadR.fieldE rfl hasA (by first | assumption | omega)) ?_)
         | (show WPl _ _ _ _ _ _ _ (⟨_, .load _ _, _, _, _, _⟩ :: _) _; first | refine WPl.rdX (ReadR.loadE rfl hasA (by assumption)) ?_ | refine WPl.rdX (ReadR.loadES (by assumption) (by first | assumption | omega) rfl hasA) ?_)
         | (show WPl _ _ _ _ _ _ _ (⟨_, .slice _ _ _ _ _, _, _, _, _⟩ :: _) _; first | refine WPl.rdX (ReadR.sliceH rfl rfl hasA (by omega)) ?_ | refine WPl.rdX (ReadR.sliceL rfl rfl hasA (by omega)) ?_ | refine WPl.rdX (ReadR.sliceLH rfl rfl rfl hasA (by omega) (by omega)) ?_)
         | (refine WPl.spQ (fun hc => ?_) (fun hc => ?_) <;> try exact prA)
         | fail)
        exact WPq.dX (ho := ownsG) (vs := [.int .i64 7]) [bx gF 66 (fac mi md), mp idM mi (ies F.ps), mp drM md F.ds, gbag prow F.ps] ⟨F, rfl, h, rfl⟩
      | false =>
        have hbt : b2 = true := by rcases hth with hth | hth; cases hth; exact hth
        subst hbt
        refine Triple.enter Try.func8 rfl Try.ntmps8 rfl (fun W => ?_)
        dsimp only [argsF, Nat.reduceAdd]
        repeat' (first
         | refine WPl.nil ?_ | refine WPq.then ?_ | refine WPq.thenR ?_ | refine WPq.thenE ?_ | refine WPq.blockN ?_ | refine WPq.blockR ?_ | refine WPq.blockE ?_ | refine WPq.blockO rfl ?_ | refine WPc.seq ?_ | refine WPc.block ?_ | refine WPc.ret ?_ | refine WPc.exit ?_ | refine WPc.skip ?_ | refine WPc.region ?_
         | (refine isReg 3 ?_; refine WPc.drA [([], [21, 22]), ([0], [17, 21, 22]), ([0, 1], [17, 18, 21, 22]), ([0, 1, 2], [17, 18, 19, 21, 22]), ([], [17, 18, 19, 20]), ([4], [17, 18, 19, 20, 21]), ([0, 1, 2, 3, 4, 5], [17, 18, 19, 20, 21, 22]), ([0, 1, 2, 3, 4, 5, 6], [17, 18, 19, 20, 21, 22, 23]), ([0, 1, 2, 3, 4, 5, 6, 7], [16, 17, 18, 19, 20, 21, 22, 23, 25]), ([0, 1, 2, 3, 4, 5, 6, 7], [5, 16, 17, 18, 19, 20, 21, 22, 23, 24]), ([0, 1, 2, 3, 4, 5, 6, 7, 8], [16, 17, 18, 19, 20, 21, 22, 23, 24, 25]), ([0, 1, 2, 3, 4, 5, 6, 7, 8, 9, 10], [5, 16, 17, 18, 19, 20, 21, 22, 23, 24, 25])] [] (Γx := []) ?_; dsimp only [prev0, List.length_nil, List.length_cons])
         | (refine isReg 4 ?_; refine WPc.drA [([], [31, 32]), ([0], [27, 31, 32]), ([0, 1], [27, 28, 31, 32]), ([0, 1, 2], [27, 28, 29, 31, 32]), ([], [27, 28, 29, 30]), ([4], [27, 28, 29, 30, 31]), ([0, 1, 2, 3, 4, 5], [27, 28, 29, 30, 31, 32]), ([0, 1, 2, 3, 4, 5, 6], [27, 28, 29, 30, 31, 32, 33]), ([0, 1, 2, 3, 4, 5, 6, 7], [26, 27, 28, 29, 30, 31, 32, 33, 35]), ([0, 1, 2, 3, 4, 5, 6, 7], [7, 26, 27, 28, 29, 30, 31, 32, 33, 34]), ([0, 1, 2, 3, 4, 5, 6, 7, 8], [26, 27, 28, 29, 30, 31, 32, 33, 34, 35]), ([0, 1, 2, 3, 4, 5, 6, 7, 8, 9, 10], [7, 26, 27, 28, 29, 30, 31, 32, 33, 34, 35])] [] (Γx := []) ?_; dsimp only [prev0, List.length_nil, List.length_cons])
         | (refine gAny ?_; first | (refine gC 32 ?_; refine RGl.vl (fun e hk => OpT.callN (c32)) ?_) | (refine gD 10 ?_; refine RGl.rdX (fun e hk => by (try dsimp only [bndR, ensR, oksR, fcutR, List.append_nil, List.nil_append, List.cons_append, List.append_assoc] at hk ⊢); exact readP) ?_) | (refine gD 23 ?_; refine RGl.rdX (fun e hk => by (try dsimp only [bndR, ensR, oksR, fcutR, List.append_nil, List.nil_append, List.cons_append, List.append_assoc] at hk ⊢); exact ReadR.lookOk (M := idM) (k := s.id) hwi rfl rfl memA hp1' hb1') ?_) | (refine gD 33 ?_; refine RGl.rdX (fun e hk => by (try dsimp only [bndR, ensR, oksR, fcutR, List.append_nil, List.nil_append, List.cons_append, List.append_assoc] at hk ⊢); exact ReadR.lookOk (M := drM) (k := s.door) hwd rfl rfl memA hg2 hb2) ?_) | (refine gOp ?_; first | refine RGl.rdA ?_ | refine RGl.rdX (fun e hk => by (try dsimp only [bndR, ensR, oksR, fcutR, List.append_nil, List.nil_append, List.cons_append, List.append_assoc] at hk ⊢); exact readB) ?_) | (refine RGl.fin (fun e hk => ?_); (try dsimp only [bndA, ensAR, oksA, List.append_nil, List.nil_append, List.cons_append, List.append_assoc] at hk ⊢); (repeat (obtain ⟨hk1, hk⟩ := hk))) | fail)
         | (refine isCond ?_; first | refine WPc.cT ?_ | refine WPc.cF ?_ | (refine WPc.cQ (fun hc => ?_) (fun hc => ?_) <;> try exact prA))
         | (refine isD 3 ?_; first | (refine isAl ?_; refine WPl.nw fun g3 => ?_) | (refine isBx ?_; refine WPl.nw fun g3 => ?_))
         | (refine isD 10 ?_; refine WPl.rdX (readP) ?_)
         | (refine isC 13 ?_; refine WPl.cV c13 ?_ (hΔ := provsM))
         | (refine isD 23 ?_; refine WPl.rdX (ReadR.lookOk (M := idM) (k := s.id) hwi rfl rfl memA hp1' hb1') ?_)
         | (refine isC 32 ?_; refine WPl.cV (c32) ?_)
         | (refine isD 33 ?_; refine WPl.rdX (ReadR.lookOk (M := drM) (k := s.door) hwd rfl rfl memA hg2 hb2) ?_)
         | (refine isOp ?_; first | refine WPl.rd ?_ | refine WPl.sk ?_ | refine WPl.rdB ?_)
         | (refine isBx ?_; refine WPl.nw fun g => ?_)
         | (refine isSt ?_; first | refine WPl.st1 ?_ | refine WPl.stA ?_ | refine WPl.stEB ?_ | refine WPl.stRB ?_)
         | (show WPl _ _ _ _ _ _ _ (⟨_, .indexAddr _ _ _, _, _, _, _⟩ :: _) _; refine WPl.rdX (ReadR.indexE rfl rfl hasA (by first | assumption | omega)) ?_)
         | (show WPl _ _ _ _ _ _ _ (⟨_, .fieldAddr _ _ _, _, _, _, _⟩ :: _) _; refine WPl.rdX (ReadR.fieldE rfl hasA (by first | assumption | omega)) ?_)
         | (show WPl _ _ _ _ _ _ _ (⟨_, .load _ _, _, _, _, _⟩ :: _) _; first | refine WPl.rdX (ReadR.loadE rfl hasA (by assumption)) ?_ | refine WPl.rdX (ReadR.loadES (by assumption) (by first | assumption | omega) rfl hasA) ?_)
         | (show WPl _ _ _ _ _ _ _ (⟨_, .slice _ _ _ _ _, _, _, _, _⟩ :: _) _; first | refine WPl.rdX (ReadR.sliceH rfl rfl hasA (by omega)) ?_ | refine WPl.rdX (ReadR.sliceL rfl rfl hasA (by omega)) ?_ | refine WPl.rdX (ReadR.sliceLH rfl rfl rfl hasA (by omega) (by omega)) ?_)
         | (refine WPl.spQ (fun hc => ?_) (fun hc => ?_) <;> try exact prA)
         | fail)
        exact WPq.dX (ho := ownsG) (vs := [.int .i64 7]) [bx gF 66 (fac mi md), mp idM mi (ies F.ps), mp drM md F.ds, gbag prow F.ps] ⟨F, rfl, h, rfl⟩
    · have h1 : findS L s.id = none := by cases hf : findS L s.id with | none => rfl | some y => exact (hth (.inl (by rw [hf]; rfl))).elim
      have h2 : doorS L s.door = none := by cases hf : doorS L s.door with | none => rfl | some y => exact (hth (.inr (by rw [hf]; rfl))).elim
      rw [h1] at hb1f
      rw [h2] at hb2f
      have hb1f : b1 = false := hb1f
      have hb2f : b2 = false := hb2f
      clear hp1 hb1
      subst hb1f hb2f
      by_cases h8 : 8 ≤ L.length
      · have hr : addS L s l.length = (L, 2) := by unfold addS; rw [if_pos hm, if_neg hth, if_pos h8]
        rw [hr]
        have hge : ((ies F.ps).length : Int) ≥ 8 := by omega
        refine Triple.enter Try.func8 rfl Try.ntmps8 rfl (fun W => ?_)
        dsimp only [argsF, Nat.reduceAdd]
        repeat' (first
         | refine WPl.nil ?_ | refine WPq.then ?_ | refine WPq.thenR ?_ | refine WPq.thenE ?_ | refine WPq.blockN ?_ | refine WPq.blockR ?_ | refine WPq.blockE ?_ | refine WPq.blockO rfl ?_ | refine WPc.seq ?_ | refine WPc.block ?_ | refine WPc.ret ?_ | refine WPc.exit ?_ | refine WPc.skip ?_ | refine WPc.region ?_
         | (refine isReg 3 ?_; refine WPc.drA [([], [21, 22]), ([0], [17, 21, 22]), ([0, 1], [17, 18, 21, 22]), ([0, 1, 2], [17, 18, 19, 21, 22]), ([], [17, 18, 19, 20]), ([4], [17, 18, 19, 20, 21]), ([0, 1, 2, 3, 4, 5], [17, 18, 19, 20, 21, 22]), ([0, 1, 2, 3, 4, 5, 6], [17, 18, 19, 20, 21, 22, 23]), ([0, 1, 2, 3, 4, 5, 6, 7], [16, 17, 18, 19, 20, 21, 22, 23, 25]), ([0, 1, 2, 3, 4, 5, 6, 7], [5, 16, 17, 18, 19, 20, 21, 22, 23, 24]), ([0, 1, 2, 3, 4, 5, 6, 7, 8], [16, 17, 18, 19, 20, 21, 22, 23, 24, 25]), ([0, 1, 2, 3, 4, 5, 6, 7, 8, 9, 10], [5, 16, 17, 18, 19, 20, 21, 22, 23, 24, 25])] [] (Γx := []) ?_; dsimp only [prev0, List.length_nil, List.length_cons])
         | (refine isReg 4 ?_; refine WPc.drA [([], [31, 32]), ([0], [27, 31, 32]), ([0, 1], [27, 28, 31, 32]), ([0, 1, 2], [27, 28, 29, 31, 32]), ([], [27, 28, 29, 30]), ([4], [27, 28, 29, 30, 31]), ([0, 1, 2, 3, 4, 5], [27, 28, 29, 30, 31, 32]), ([0, 1, 2, 3, 4, 5, 6], [27, 28, 29, 30, 31, 32, 33]), ([0, 1, 2, 3, 4, 5, 6, 7], [26, 27, 28, 29, 30, 31, 32, 33, 35]), ([0, 1, 2, 3, 4, 5, 6, 7], [7, 26, 27, 28, 29, 30, 31, 32, 33, 34]), ([0, 1, 2, 3, 4, 5, 6, 7, 8], [26, 27, 28, 29, 30, 31, 32, 33, 34, 35]), ([0, 1, 2, 3, 4, 5, 6, 7, 8, 9, 10], [7, 26, 27, 28, 29, 30, 31, 32, 33, 34, 35])] [] (Γx := []) ?_; dsimp only [prev0, List.length_nil, List.length_cons])
         | (refine gAny ?_; first | (refine gC 32 ?_; refine RGl.vl (fun e hk => OpT.callN (c32)) ?_) | (refine gD 10 ?_; refine RGl.rdX (fun e hk => by (try dsimp only [bndR, ensR, oksR, fcutR, List.append_nil, List.nil_append, List.cons_append, List.append_assoc] at hk ⊢); exact readP) ?_) | (refine gD 23 ?_; refine RGl.rdX (fun e hk => by (try dsimp only [bndR, ensR, oksR, fcutR, List.append_nil, List.nil_append, List.cons_append, List.append_assoc] at hk ⊢); exact ReadR.lookOk (M := idM) (k := s.id) hwi rfl rfl memA hp1' hb1') ?_) | (refine gD 33 ?_; refine RGl.rdX (fun e hk => by (try dsimp only [bndR, ensR, oksR, fcutR, List.append_nil, List.nil_append, List.cons_append, List.append_assoc] at hk ⊢); exact ReadR.lookOk (M := drM) (k := s.door) hwd rfl rfl memA hg2 hb2) ?_) | (refine gD 46 ?_; refine RGl.rdX (fun e hk => by (try dsimp only [bndR, ensR, oksR, fcutR, List.append_nil, List.nil_append, List.cons_append, List.append_assoc] at hk ⊢); exact ReadR.mlen rfl memA) ?_) | (refine gD 47 ?_; refine RGl.rdX (fun e hk => by (try dsimp only [bndR, ensR, oksR, fcutR, List.append_nil, List.nil_append, List.cons_append, List.append_assoc] at hk ⊢); exact ReadR.binE rfl rfl BinR.geq (congrArg Value.bool (decide_eq_true hge))) ?_) | (refine gOp ?_; first | refine RGl.rdA ?_ | refine RGl.rdX (fun e hk => by (try dsimp only [bndR, ensR, oksR, fcutR, List.append_nil, List.nil_append, List.cons_append, List.append_assoc] at hk ⊢); exact readB) ?_) | (refine RGl.fin (fun e hk => ?_); (try dsimp only [bndA, ensAR, oksA, List.append_nil, List.nil_append, List.cons_append, List.append_assoc] at hk ⊢); (repeat (obtain ⟨hk1, hk⟩ := hk))) | fail)
         | (refine isCond ?_; first | refine WPc.cT ?_ | refine WPc.cF ?_ | (refine WPc.cQ (fun hc => ?_) (fun hc => ?_) <;> try exact prA))
         | (refine isD 3 ?_; first | (refine isAl ?_; refine WPl.nw fun g3 => ?_) | (refine isBx ?_; refine WPl.nw fun g3 => ?_))
         | (refine isD 10 ?_; refine WPl.rdX (readP) ?_)
         | (refine isC 13 ?_; refine WPl.cV c13 ?_ (hΔ := provsM))
         | (refine isD 23 ?_; refine WPl.rdX (ReadR.lookOk (M := idM) (k := s.id) hwi rfl rfl memA hp1' hb1') ?_)
         | (refine isC 32 ?_; refine WPl.cV (c32) ?_)
         | (refine isD 33 ?_; refine WPl.rdX (ReadR.lookOk (M := drM) (k := s.door) hwd rfl rfl memA hg2 hb2) ?_)
         | (refine isD 46 ?_; refine WPl.rdX (ReadR.mlen rfl memA) ?_)
         | (refine isD 47 ?_; refine WPl.rdX (ReadR.binE rfl rfl BinR.geq (congrArg Value.bool (decide_eq_true hge))) ?_)
         | (refine isOp ?_; first | refine WPl.rd ?_ | refine WPl.sk ?_ | refine WPl.rdB ?_)
         | (refine isBx ?_; refine WPl.nw fun g => ?_)
         | (refine isSt ?_; first | refine WPl.st1 ?_ | refine WPl.stA ?_ | refine WPl.stEB ?_ | refine WPl.stRB ?_)
         | (show WPl _ _ _ _ _ _ _ (⟨_, .indexAddr _ _ _, _, _, _, _⟩ :: _) _; refine WPl.rdX (ReadR.indexE rfl rfl hasA (by first | assumption | omega)) ?_)
         | (show WPl _ _ _ _ _ _ _ (⟨_, .fieldAddr _ _ _, _, _, _, _⟩ :: _) _; refine WPl.rdX (ReadR.fieldE rfl hasA (by first | assumption | omega)) ?_)
         | (show WPl _ _ _ _ _ _ _ (⟨_, .load _ _, _, _, _, _⟩ :: _) _; first | refine WPl.rdX (ReadR.loadE rfl hasA (by assumption)) ?_ | refine WPl.rdX (ReadR.loadES (by assumption) (by first | assumption | omega) rfl hasA) ?_)
         | (show WPl _ _ _ _ _ _ _ (⟨_, .slice _ _ _ _ _, _, _, _, _⟩ :: _) _; first | refine WPl.rdX (ReadR.sliceH rfl rfl hasA (by omega)) ?_ | refine WPl.rdX (ReadR.sliceL rfl rfl hasA (by omega)) ?_ | refine WPl.rdX (ReadR.sliceLH rfl rfl rfl hasA (by omega) (by omega)) ?_)
         | (refine WPl.spQ (fun hc => ?_) (fun hc => ?_) <;> try exact prA)
         | fail)
        exact WPq.dX (ho := ownsG) (vs := [.int .i64 2]) [bx gF 66 (fac mi md), mp idM mi (ies F.ps), mp drM md F.ds, gbag prow F.ps] ⟨F, rfl, h, rfl⟩
      · have hr : addS L s l.length = (insS L ⟨s, []⟩, 0) := by unfold addS; rw [if_pos hm, if_neg hth, if_neg h8]
        rw [hr]
        have hge : ¬ ((ies F.ps).length : Int) ≥ 8 := by omega
        have hpi := fun g => PInv.ins (g := g) h hw hm h1 h2 (by omega)
        have c60 := gof_t s (.slice none 0 0) rfl
        refine Triple.enter Try.func8 rfl Try.ntmps8 rfl (fun W => ?_)
        dsimp only [argsF, Nat.reduceAdd]
        refine WPc.nilRowN 36 21 ?_
        repeat' (first
         | refine WPl.nil ?_ | refine WPq.then ?_ | refine WPq.thenR ?_ | refine WPq.thenE ?_ | refine WPq.blockN ?_ | refine WPq.blockR ?_ | refine WPq.blockE ?_ | refine WPq.blockO rfl ?_ | refine WPc.seq ?_ | refine WPc.block ?_ | refine WPc.ret ?_ | refine WPc.exit ?_ | refine WPc.skip ?_ | refine WPc.region ?_
         | (refine isReg 3 ?_; refine WPc.drA [([], [21, 22]), ([0], [17, 21, 22]), ([0, 1], [17, 18, 21, 22]), ([0, 1, 2], [17, 18, 19, 21, 22]), ([], [17, 18, 19, 20]), ([4], [17, 18, 19, 20, 21]), ([0, 1, 2, 3, 4, 5], [17, 18, 19, 20, 21, 22]), ([0, 1, 2, 3, 4, 5, 6], [17, 18, 19, 20, 21, 22, 23]), ([0, 1, 2, 3, 4, 5, 6, 7], [16, 17, 18, 19, 20, 21, 22, 23, 25]), ([0, 1, 2, 3, 4, 5, 6, 7], [5, 16, 17, 18, 19, 20, 21, 22, 23, 24]), ([0, 1, 2, 3, 4, 5, 6, 7, 8], [16, 17, 18, 19, 20, 21, 22, 23, 24, 25]), ([0, 1, 2, 3, 4, 5, 6, 7, 8, 9, 10], [5, 16, 17, 18, 19, 20, 21, 22, 23, 24, 25])] [] (Γx := []) ?_; dsimp only [prev0, List.length_nil, List.length_cons])
         | (refine isReg 4 ?_; refine WPc.drA [([], [31, 32]), ([0], [27, 31, 32]), ([0, 1], [27, 28, 31, 32]), ([0, 1, 2], [27, 28, 29, 31, 32]), ([], [27, 28, 29, 30]), ([4], [27, 28, 29, 30, 31]), ([0, 1, 2, 3, 4, 5], [27, 28, 29, 30, 31, 32]), ([0, 1, 2, 3, 4, 5, 6], [27, 28, 29, 30, 31, 32, 33]), ([0, 1, 2, 3, 4, 5, 6, 7], [26, 27, 28, 29, 30, 31, 32, 33, 35]), ([0, 1, 2, 3, 4, 5, 6, 7], [7, 26, 27, 28, 29, 30, 31, 32, 33, 34]), ([0, 1, 2, 3, 4, 5, 6, 7, 8], [26, 27, 28, 29, 30, 31, 32, 33, 34, 35]), ([0, 1, 2, 3, 4, 5, 6, 7, 8, 9, 10], [7, 26, 27, 28, 29, 30, 31, 32, 33, 34, 35])] [] (Γx := []) ?_; dsimp only [prev0, List.length_nil, List.length_cons])
         | (refine isReg 10 ?_; refine WPc.drA [([20, 21], [53, 54, 55, 56, 57, 58, 59, 60, 61, 62]), ([0, 20, 21], [49, 53, 54, 55, 56, 57, 58, 59, 60, 61, 62]), ([0, 1, 20, 21], [49, 50, 53, 54, 55, 56, 57, 58, 59, 60, 61, 62]), ([0, 1, 2, 20, 21], [49, 50, 51, 53, 54, 55, 56, 57, 58, 59, 60, 61, 62]), ([20, 21], [49, 50, 51, 52, 55, 56, 57, 58, 59, 60, 61, 62]), ([4, 20, 21], [49, 50, 51, 52, 53, 55, 56, 57, 58, 59, 60, 61, 62]), ([20, 21], [49, 50, 51, 52, 53, 54, 59, 60, 61, 62]), ([6, 20, 21], [49, 50, 51, 52, 53, 54, 55, 59, 60, 61, 62]), ([6, 7, 20, 21], [49, 50, 51, 52, 53, 54, 55, 56, 59, 60, 61, 62]), ([6, 7, 8, 20, 21], [49, 50, 51, 52, 53, 54, 55, 56, 57, 59, 60, 61, 62]), ([20, 21], [49, 50, 51, 52, 53, 54, 55, 56, 57, 58, 61, 62]), ([10, 20, 21], [49, 50, 51, 52, 53, 54, 55, 56, 57, 58, 59, 61, 62]), ([20, 21], [49, 50, 51, 52, 53, 54, 55, 56, 57, 58, 59, 60]), ([12, 20, 21], [49, 50, 51, 52, 53, 54, 55, 56, 57, 58, 59, 60, 61]), ([0, 1, 2, 3, 4, 5, 6, 7, 8, 9, 10, 11, 12, 13, 20, 21], [49, 50, 51, 52, 53, 54, 55, 56, 57, 58, 59, 60, 61, 62]), ([0, 1, 2, 3, 4, 5, 6, 7, 8, 9, 10, 11, 12, 13, 14, 20, 21], [49, 50, 51, 52, 53, 54, 55, 56, 57, 58, 59, 60, 61, 62, 63]), ([0, 1, 2, 3, 4, 5, 6, 7, 8, 9, 10, 11, 12, 13, 14, 15, 20, 21], [49, 50, 51, 52, 53, 54, 55, 56, 57, 58, 59, 60, 61, 62, 63, 64]), ([0, 1, 2, 3, 4, 5, 6, 7, 8, 9, 10, 11, 12, 13, 14, 15, 16, 20, 21], [49, 50, 51, 52, 53, 54, 55, 56, 57, 58, 59, 60, 61, 62, 63, 64]), ([0, 1, 2, 3, 4, 5, 6, 7, 8, 9, 10, 11, 12, 13, 14, 15, 16, 17, 20, 21], [49, 50, 51, 52, 53, 54, 55, 56, 57, 58, 59, 60, 61, 62, 63, 64, 65]), ([0, 1, 2, 3, 4, 5, 6, 7, 8, 9, 10, 11, 12, 13, 14, 15, 16, 17, 18, 20, 21], [49, 50, 51, 52, 53, 54, 55, 56, 57, 58, 59, 60, 61, 62, 63, 64, 65, 66])] [(20, 14), (14, 16), (21, 17), (17, 19), (20, 0), (20, 1), (20, 2), (20, 3), (20, 4), (20, 5), (20, 6), (20, 7), (20, 8), (20, 9), (20, 10), (20, 11), (20, 12), (20, 13), (14, 15), (21, 0), (21, 1), (21, 2), (21, 3), (21, 4), (21, 5), (21, 6), (21, 7), (21, 8), (21, 9), (21, 10), (21, 11), (21, 12), (21, 13), (21, 14), (21, 15), (21, 16), (17, 18)] (Γx := [mp idM mi (ies F.ps), mp drM md F.ds]) (hox := ownsA) ?_; dsimp only [prev0, List.length_nil, List.length_cons])
         | (refine gAny ?_; first | (refine gC 32 ?_; refine RGl.vl (fun e hk => OpT.callN (c32)) ?_) | (refine gC 60 ?_; refine RGl.vl (fun e hk => OpT.callN (c60)) ?_) | (refine gD 10 ?_; refine RGl.rdX (fun e hk => by (try dsimp only [bndR, ensR, oksR, fcutR, List.append_nil, List.nil_append, List.cons_append, List.append_assoc] at hk ⊢); exact readP) ?_) | (refine gD 23 ?_; refine RGl.rdX (fun e hk => by (try dsimp only [bndR, ensR, oksR, fcutR, List.append_nil, List.nil_append, List.cons_append, List.append_assoc] at hk ⊢); exact ReadR.lookOk (M := idM) (k := s.id) hwi rfl rfl memA hp1' hb1') ?_) | (refine gD 33 ?_; refine RGl.rdX (fun e hk => by (try dsimp only [bndR, ensR, oksR, fcutR, List.append_nil, List.nil_append, List.cons_append, List.append_assoc] at hk ⊢); exact ReadR.lookOk (M := drM) (k := s.door) hwd rfl rfl memA hg2 hb2) ?_) | (refine gD 46 ?_; refine RGl.rdX (fun e hk => by (try dsimp only [bndR, ensR, oksR, fcutR, List.append_nil, List.nil_append, List.cons_append, List.append_assoc] at hk ⊢); exact ReadR.mlen rfl memA) ?_) | (refine gD 47 ?_; refine RGl.rdX (fun e hk => by (try dsimp only [bndR, ensR, oksR, fcutR, List.append_nil, List.nil_append, List.cons_append, List.append_assoc] at hk ⊢); exact ReadR.binE rfl rfl BinR.geq (congrArg Value.bool (decide_eq_false hge))) ?_) | (refine gOp ?_; refine RGl.mapE (gm := mi) (lm := ies F.ps) (km := s.id) (A := fun _ => mp idM mi (ies F.ps)) (fun e hk => by (try dsimp only [bndR, ensR, oksR, fcutR, List.append_nil, List.nil_append, List.cons_append, List.append_assoc] at hk ⊢); exact OpT.mapEntry hwi rfl rfl takesA) ?_) | (refine gOp ?_; refine RGl.mapE (gm := md) (lm := F.ds) (km := s.door) (A := fun _ => mp drM md (F.ds)) (fun e hk => by (try dsimp only [bndR, ensR, oksR, fcutR, List.append_nil, List.nil_append, List.cons_append, List.append_assoc] at hk ⊢); exact OpT.mapEntry hwd rfl rfl takesA) ?_) | (refine gOp ?_; refine RGl.turn (fun e hk => by (try dsimp only [bndR, ensR, oksR, fcutR, List.append_nil, List.nil_append, List.cons_append, List.append_assoc] at hk ⊢); exact OpT.entryStore (M := idM) (v := some g3) rfl rfl rfl takesA) ?_) | (refine gOp ?_; refine RGl.turn (fun e hk => by (try dsimp only [bndR, ensR, oksR, fcutR, List.append_nil, List.nil_append, List.cons_append, List.append_assoc] at hk ⊢); exact OpT.entryStore (M := drM) (v := s.id) rfl rfl rfl takesA) ?_) | (refine gOp ?_; first | refine RGl.rdA ?_ | refine RGl.rdX (fun e hk => by (try dsimp only [bndR, ensR, oksR, fcutR, List.append_nil, List.nil_append, List.cons_append, List.append_assoc] at hk ⊢); exact readB) ?_) | (refine RGl.fin (fun e hk => ?_); (try dsimp only [bndA, ensAR, oksA, List.append_nil, List.nil_append, List.cons_append, List.append_assoc] at hk ⊢); (repeat (obtain ⟨hk1, hk⟩ := hk))) | fail)
         | (refine isCond ?_; first | refine WPc.cT ?_ | refine WPc.cF ?_ | (refine WPc.cQ (fun hc => ?_) (fun hc => ?_) <;> try exact prA))
         | (refine isD 3 ?_; first | (refine isAl ?_; refine WPl.nw fun g3 => ?_) | (refine isBx ?_; refine WPl.nw fun g3 => ?_))
         | (refine isD 10 ?_; refine WPl.rdX (readP) ?_)
         | (refine isC 13 ?_; refine WPl.cV c13 ?_ (hΔ := provsM))
         | (refine isD 23 ?_; refine WPl.rdX (ReadR.lookOk (M := idM) (k := s.id) hwi rfl rfl memA hp1' hb1') ?_)
         | (refine isC 32 ?_; refine WPl.cV (c32) ?_)
         | (refine isD 33 ?_; refine WPl.rdX (ReadR.lookOk (M := drM) (k := s.door) hwd rfl rfl memA hg2 hb2) ?_)
         | (refine isD 46 ?_; refine WPl.rdX (ReadR.mlen rfl memA) ?_)
         | (refine isD 47 ?_; refine WPl.rdX (ReadR.binE rfl rfl BinR.geq (congrArg Value.bool (decide_eq_false hge))) ?_)
         | (refine isC 60 ?_; refine WPl.cV (c60) ?_)
         | (refine isOp ?_; first | refine WPl.rd ?_ | refine WPl.sk ?_ | refine WPl.rdB ?_)
         | (refine isBx ?_; refine WPl.nw fun g => ?_)
         | (refine isSt ?_; first | refine WPl.st1 ?_ | refine WPl.stA ?_ | refine WPl.stEB ?_ | refine WPl.stRB ?_)
         | (show WPl _ _ _ _ _ _ _ (⟨_, .indexAddr _ _ _, _, _, _, _⟩ :: _) _; refine WPl.rdX (ReadR.indexE rfl rfl hasA (by first | assumption | omega)) ?_)
         | (show WPl _ _ _ _ _ _ _ (⟨_, .fieldAddr _ _ _, _, _, _, _⟩ :: _) _; refine WPl.rdX (ReadR.fieldE rfl hasA (by first | assumption | omega)) ?_)
         | (show WPl _ _ _ _ _ _ _ (⟨_, .load _ _, _, _, _, _⟩ :: _) _; first | refine WPl.rdX (ReadR.loadE rfl hasA (by assumption)) ?_ | refine WPl.rdX (ReadR.loadES (by assumption) (by first | assumption | omega) rfl hasA) ?_)
         | (show WPl _ _ _ _ _ _ _ (⟨_, .slice _ _ _ _ _, _, _, _, _⟩ :: _) _; first | refine WPl.rdX (ReadR.sliceH rfl rfl hasA (by omega)) ?_ | refine WPl.rdX (ReadR.sliceL rfl rfl hasA (by omega)) ?_ | refine WPl.rdX (ReadR.sliceLH rfl rfl rfl hasA (by omega) (by omega)) ?_)
         | (refine WPl.spQ (fun hc => ?_) (fun hc => ?_) <;> try exact prA)
         | fail)
        obtain ⟨q1, q2, q3⟩ := hpi g3
        rw [mput_mput, mput_mput, q2, q3]
        refine WPq.gbagI (row := prow) (es := F.ps ++ [⟨g3, .slice none 0 0, s, []⟩]) (es' := F.ps) (x := ⟨g3, .slice none 0 0, s, []⟩) prow_own List.perm_append_comm (by show Takes _ [gbag prow F.ps, bx g3 33 (shC s (.slice none 0 0)), rowN 36 21 (.slice none 0 0) 0 (bks [])] _; rw [e0]; exact takesA) ?_
        exact WPq.dX (ho := ownsG) (vs := [.int .i64 0]) [bx gF 66 (fac mi md), mp idM mi (ies (F.ps ++ [⟨g3, .slice none 0 0, s, []⟩])), mp drM md (F.ds ++ [(s.door, s.id)]), gbag prow (F.ps ++ [⟨g3, .slice none 0 0, s, []⟩])] ⟨⟨_, _⟩, rfl, q1, rfl⟩
theorem gdrop0_t (h : PInv L F) (id : Int) (hw : in64 id) (hf : findS L id = none) : Triple Try.prog 11 #[hF gF, .int .i64 id] (fmA gF mi md F) (RFm gF mi md (.int .i64 6) L) := by
  obtain ⟨hget, hb⟩ := ies_get (h.no hf)
  have hget : idM.vc (mget idM (ies F.ps) id) = .pointer none := hget
  have hb : mhas (ies F.ps) id = false := hb
  refine Triple.enter Try.func11 rfl Try.ntmps11 rfl (fun W => ?_)
  dsimp only [argsF, Nat.reduceAdd]
  repeat' (first
   | refine WPl.nil ?_ | refine WPq.then ?_ | refine WPq.thenR ?_ | refine WPq.thenE ?_ | refine WPq.blockN ?_ | refine WPq.blockR ?_ | refine WPq.blockE ?_ | refine WPq.blockO rfl ?_ | refine WPc.seq ?_ | refine WPc.block ?_ | refine WPc.ret ?_ | refine WPc.exit ?_ | refine WPc.skip ?_ | refine WPc.region ?_
   | (refine isCond ?_; first | refine WPc.cT ?_ | refine WPc.cF ?_ | (refine WPc.cQ (fun hc => ?_) (fun hc => ?_) <;> try exact prA))
   | (refine isD 8 ?_; refine WPl.rdX (readP) ?_)
   | (refine isD 15 ?_; refine WPl.rdX (ReadR.lookOk (M := idM) (k := id) hw rfl rfl memA hget hb) ?_)
   | (refine isOp ?_; first | refine WPl.rd ?_ | refine WPl.sk ?_ | refine WPl.rdB ?_)
   | (show WPl _ _ _ _ _ _ _ (⟨_, .indexAddr _ _ _, _, _, _, _⟩ :: _) _; refine WPl.rdX (ReadR.indexE rfl rfl hasA (by first | assumption | omega)) ?_)
   | (show WPl _ _ _ _ _ _ _ (⟨_, .fieldAddr _ _ _, _, _, _, _⟩ :: _) _; refine WPl.rdX (ReadR.fieldE rfl hasA (by first | assumption | omega)) ?_)
   | (show WPl _ _ _ _ _ _ _ (⟨_, .load _ _, _, _, _, _⟩ :: _) _; first | refine WPl.rdX (ReadR.loadE rfl hasA (by assumption)) ?_ | refine WPl.rdX (ReadR.loadES (by assumption) (by first | assumption | omega) rfl hasA) ?_)
   | (show WPl _ _ _ _ _ _ _ (⟨_, .slice _ _ _ _ _, _, _, _, _⟩ :: _) _; first | refine WPl.rdX (ReadR.sliceH rfl rfl hasA (by omega)) ?_ | refine WPl.rdX (ReadR.sliceL rfl rfl hasA (by omega)) ?_ | refine WPl.rdX (ReadR.sliceLH rfl rfl rfl hasA (by omega) (by omega)) ?_)
   | (refine WPl.spQ (fun hc => ?_) (fun hc => ?_) <;> try exact prA)
   | fail)
  exact WPq.dX (ho := ownsG) (vs := [.int .i64 6]) [bx gF 66 (fac mi md), mp idM mi (ies F.ps), mp drM md F.ds, gbag prow F.ps] ⟨F, rfl, h, rfl⟩
theorem gdrop1_t (h : PInv L F) (id : Int) (hw : in64 id) (y : Sb) (hf : findS L id = some y) : Triple Try.prog 11 #[hF gF, .int .i64 id] (fmA gF mi md F) (RFm gF mi md (.int .i64 0) (L.filter fun x => !decide (x.s.id = id))) := by
  obtain ⟨A, B, x, hps, hxy, hxi, hm⟩ := h.at hf
  subst hxy
  subst hxi
  obtain ⟨hpi, hdel⟩ := h.del hps hf
  obtain ⟨hget, hb⟩ := ies_get hm
  have hget : idM.vc (mget idM (ies F.ps) x.s.id) = .pointer (some ⟨x.g, 0, none⟩) := hget
  have hb : mhas (ies F.ps) x.s.id = true := hb
  have hwf : idM.wf x.s.id := hw
  have hwd : drM.wf x.s.door := h.portr _ (findS_some hf).1
  have hxv : x.v.oneCell' = true := h.one x (by rw [hps]; exact List.mem_append_right _ (List.mem_cons_self ..))
  have c32 := gof_t x.s x.v hxv
  have hal := x.s.ad.len
  have hpp : F.ps.Perm (x :: (A ++ B)) := by rw [hps]; exact List.perm_middle
  refine Triple.enter Try.func11 rfl Try.ntmps11 rfl (fun W => ?_)
  dsimp only [argsF, Nat.reduceAdd]
  refine WPc.gbagO (row := prow) prow_own hpp ?_
  rw [show prow x = [bx x.g 33 (shC x.s x.v), rowN 36 21 x.v x.bs.length (bks x.bs)] from rfl, List.cons_append, List.cons_append, List.nil_append]
  repeat' (first
   | refine WPl.nil ?_ | refine WPq.then ?_ | refine WPq.thenR ?_ | refine WPq.thenE ?_ | refine WPq.blockN ?_ | refine WPq.blockR ?_ | refine WPq.blockE ?_ | refine WPq.blockO rfl ?_ | refine WPc.seq ?_ | refine WPc.block ?_ | refine WPc.ret ?_ | refine WPc.exit ?_ | refine WPc.skip ?_ | refine WPc.region ?_
   | (refine isReg 7 ?_; refine WPc.drA [([9], [29, 30, 31, 32]), ([0, 9], [25, 29, 30, 31, 32]), ([0, 1, 9], [25, 26, 29, 30, 31, 32]), ([0, 1, 2, 9], [25, 26, 27, 29, 30, 31, 32]), ([9], [25, 26, 27, 28]), ([4, 9], [25, 26, 27, 28, 29]), ([4, 5, 9], [25, 26, 27, 28, 29, 30]), ([4, 5, 6, 9], [25, 26, 27, 28, 29, 30, 31]), ([0, 1, 2, 3, 4, 5, 6, 7, 9], [25, 26, 27, 28, 29, 30, 31, 32])] [(9, 8), (9, 0), (9, 1), (9, 2), (9, 3), (9, 4), (9, 5), (9, 6), (9, 7)] (Γx := [mp drM md F.ds]) (hox := ownsA) ?_; dsimp only [prev0, List.length_nil, List.length_cons])
   | (refine gAny ?_; first | (refine gOp ?_; refine RGl.turn (fun e hk => by (try dsimp only [bndR, ensR, oksR, fcutR, List.append_nil, List.nil_append, List.cons_append, List.append_assoc] at hk ⊢); exact OpT.mdel (k := x.s.id) (hwf) rfl rfl takesA) ?_) | (refine gC 32 ?_; refine RGl.vl (fun e hk => OpT.callN (c32)) ?_) | (refine gD 8 ?_; refine RGl.rdX (fun e hk => by (try dsimp only [bndR, ensR, oksR, fcutR, List.append_nil, List.nil_append, List.cons_append, List.append_assoc] at hk ⊢); exact readP) ?_) | (refine gD 15 ?_; refine RGl.rdX (fun e hk => by (try dsimp only [bndR, ensR, oksR, fcutR, List.append_nil, List.nil_append, List.cons_append, List.append_assoc] at hk ⊢); exact ReadR.lookOk (M := idM) (k := x.s.id) hw rfl rfl memA hget hb) ?_) | (refine gOp ?_; (refine RGl.turn (fun e hk => by (try dsimp only [bndR, ensR, oksR, fcutR, List.append_nil, List.nil_append, List.cons_append, List.append_assoc] at hk ⊢); exact OpT.mdel (M := drM) (k := x.s.door) hwd rfl rfl takesA) ?_)) | (refine gOp ?_; first | refine RGl.rdA ?_ | refine RGl.rdX (fun e hk => by (try dsimp only [bndR, ensR, oksR, fcutR, List.append_nil, List.nil_append, List.cons_append, List.append_assoc] at hk ⊢); exact readB) ?_) | (refine RGl.fin (fun e hk => ?_); (try dsimp only [bndA, ensAR, oksA, List.append_nil, List.nil_append, List.cons_append, List.append_assoc] at hk ⊢); (repeat (obtain ⟨hk1, hk⟩ := hk))) | fail)
   | (refine isCond ?_; first | refine WPc.cT ?_ | refine WPc.cF ?_ | (refine WPc.cQ (fun hc => ?_) (fun hc => ?_) <;> try exact prA))
   | (refine isD 8 ?_; refine WPl.rdX (readP) ?_)
   | (refine isD 15 ?_; refine WPl.rdX (ReadR.lookOk (M := idM) (k := x.s.id) hw rfl rfl memA hget hb) ?_)
   | (refine WPl.mdel (x.s.id) (hwf) ?_)
   | (refine isC 32 ?_; refine WPl.cV (c32) ?_)
   | (refine isOp ?_; first | refine WPl.rd ?_ | refine WPl.sk ?_ | refine WPl.rdB ?_)
   | (show WPl _ _ _ _ _ _ _ (⟨_, .indexAddr _ _ _, _, _, _, _⟩ :: _) _; refine WPl.rdX (ReadR.indexE rfl rfl hasA (by first | assumption | omega)) ?_)
   | (show WPl _ _ _ _ _ _ _ (⟨_, .fieldAddr _ _ _, _, _, _, _⟩ :: _) _; refine WPl.rdX (ReadR.fieldE rfl hasA (by first | assumption | omega)) ?_)
   | (show WPl _ _ _ _ _ _ _ (⟨_, .load _ _, _, _, _, _⟩ :: _) _; first | refine WPl.rdX (ReadR.loadE rfl hasA (by assumption)) ?_ | refine WPl.rdX (ReadR.loadES (by assumption) (by first | assumption | omega) rfl hasA) ?_)
   | (show WPl _ _ _ _ _ _ _ (⟨_, .slice _ _ _ _ _, _, _, _, _⟩ :: _) _; first | refine WPl.rdX (ReadR.sliceH rfl rfl hasA (by omega)) ?_ | refine WPl.rdX (ReadR.sliceL rfl rfl hasA (by omega)) ?_ | refine WPl.rdX (ReadR.sliceLH rfl rfl rfl hasA (by omega) (by omega)) ?_)
   | (refine WPl.spQ (fun hc => ?_) (fun hc => ?_) <;> try exact prA)
   | fail)
  rw [hdel]
  exact WPq.dX (ho := ownsG) (vs := [.int .i64 0]) [bx gF 66 (fac mi md), mp idM mi (ies (A ++ B)), mp drM md (mdel F.ds x.s.door), gbag prow (A ++ B)] ⟨⟨A ++ B, mdel F.ds x.s.door⟩, rfl, hpi, rfl⟩
theorem bks_1 {l : List Bk} {i : Nat} {b b' : Bk} (h : l[i]? = some b) {o : Nat} {u : Value} (ho : o < 21) (hu : flat (bkC b') = (flat (bkC b)).set o u) : (bks l).set (i * 21 + o) u = bks (l.set i b') := by
  with_unfolding_all exact rows_set (f := fun b => flat (bkC b)) bkC_len hu ho h
theorem gdrain_t (h : PInv L F) (sid b : Int) (on : Bool) (hw : in64 sid) : Triple Try.prog 20 #[hF gF, .int .i64 sid, .int .i64 b, .bool on] (fmA gF mi md F) (RFm gF mi md (.int .i64 (turnS L sid b (setBy b fun k => { k with dr := on })).2) (turnS L sid b (setBy b fun k => { k with dr := on })).1) := by
  cases hf : findS L sid with
  | none =>
    have hr : turnS L sid b (setBy b fun k => { k with dr := on }) = (L, 6) := by unfold turnS; rw [hf]
    rw [hr]
    have c16 := gfind0_t gF mi md L F h sid b hw hf
    refine Triple.enter Try.func20 rfl Try.ntmps20 rfl (fun W => ?_)
    dsimp only [argsF, Nat.reduceAdd]
    repeat' (first
     | refine WPl.nil ?_ | refine WPq.then ?_ | refine WPq.thenR ?_ | refine WPq.thenE ?_ | refine WPq.blockN ?_ | refine WPq.blockR ?_ | refine WPq.blockE ?_ | refine WPq.blockO rfl ?_ | refine WPc.seq ?_ | refine WPc.block ?_ | refine WPc.ret ?_ | refine WPc.exit ?_ | refine WPc.skip ?_ | refine WPc.region ?_
     | (refine isCond ?_; first | refine WPc.cT ?_ | refine WPc.cF ?_ | (refine WPc.cQ (fun hc => ?_) (fun hc => ?_) <;> try exact prA))
     | (refine isC 16 ?_; refine WPl.cV c16 ?_ (hΔ := provsM))
     | (refine isD 21 ?_; refine WPl.rdX (ReadR.binE rfl rfl BinR.eql (congrArg Value.bool (decide_eq_false (show ¬ (6 : Int) = 0 by omega)))) ?_)
     | (refine isOp ?_; first | refine WPl.rd ?_ | refine WPl.sk ?_ | refine WPl.rdB ?_)
     | (refine isSt ?_; first | refine WPl.st1 ?_ | refine WPl.stA ?_ | refine WPl.stEB ?_ | refine WPl.stRB ?_)
     | (show WPl _ _ _ _ _ _ _ (⟨_, .indexAddr _ _ _, _, _, _, _⟩ :: _) _; refine WPl.rdX (ReadR.indexE rfl rfl hasA (by first | assumption | omega)) ?_)
     | (show WPl _ _ _ _ _ _ _ (⟨_, .fieldAddr _ _ _, _, _, _, _⟩ :: _) _; refine WPl.rdX (ReadR.fieldE rfl hasA (by first | assumption | omega)) ?_)
     | (show WPl _ _ _ _ _ _ _ (⟨_, .load _ _, _, _, _, _⟩ :: _) _; first | refine WPl.rdX (ReadR.loadE rfl hasA (by assumption)) ?_ | refine WPl.rdX (ReadR.loadES (by assumption) (by first | assumption | omega) rfl hasA) ?_)
     | (show WPl _ _ _ _ _ _ _ (⟨_, .slice _ _ _ _ _, _, _, _, _⟩ :: _) _; first | refine WPl.rdX (ReadR.sliceH rfl rfl hasA (by omega)) ?_ | refine WPl.rdX (ReadR.sliceL rfl rfl hasA (by omega)) ?_ | refine WPl.rdX (ReadR.sliceLH rfl rfl rfl hasA (by omega) (by omega)) ?_)
     | (refine WPl.spQ (fun hc => ?_) (fun hc => ?_) <;> try exact prA)
     | fail)
    exact WPq.dX (ho := ownsG) (vs := [.int .i64 6]) [bx gF 66 (fac mi md), mp idM mi (ies F.ps), mp drM md F.ds, gbag prow F.ps] ⟨F, rfl, h, rfl⟩
  | some y =>
    obtain ⟨A, B, x, hps, hxy, hxi, hm⟩ := h.at hf
    subst hxy
    subst hxi
    have hxL := (findS_some hf).1
    have hsx : SrtB x.bs := h.bsrt _ hxL
    have hlx : x.bs.length ≤ 16 := h.blen _ hxL
    have hxv : x.v.oneCell' = true := h.one x (by rw [hps]; exact List.mem_append_right _ (List.mem_cons_self ..))
    have hal := x.s.ad.len
    have hpp : F.ps.Perm (x :: (A ++ B)) := by rw [hps]; exact List.perm_middle
    have hL := bks_len (l := x.bs)
    have c16 := gfind1_t gF mi md F x.s.id b hw x hm hsx hlx
    cases hh : hasB x.bs b with
    | false =>
      have hr : turnS L x.s.id b (setBy b fun k => { k with dr := on }) = (L, 6) := by unfold turnS; rw [hf]; dsimp only; rw [if_neg (by rw [hh]; simp)]
      rw [hr]
      rw [if_neg (by rw [hh]; simp)] at c16
      refine Triple.enter Try.func20 rfl Try.ntmps20 rfl (fun W => ?_)
      dsimp only [argsF, Nat.reduceAdd]
      refine WPc.gbagO (row := prow) prow_own hpp ?_
      rw [show prow x = [bx x.g 33 (shC x.s x.v), rowN 36 21 x.v x.bs.length (bks x.bs)] from rfl, List.cons_append, List.cons_append, List.nil_append]
      repeat' (first
       | refine WPl.nil ?_ | refine WPq.then ?_ | refine WPq.thenR ?_ | refine WPq.thenE ?_ | refine WPq.blockN ?_ | refine WPq.blockR ?_ | refine WPq.blockE ?_ | refine WPq.blockO rfl ?_ | refine WPc.seq ?_ | refine WPc.block ?_ | refine WPc.ret ?_ | refine WPc.exit ?_ | refine WPc.skip ?_ | refine WPc.region ?_
       | (refine isCond ?_; first | refine WPc.cT ?_ | refine WPc.cF ?_ | (refine WPc.cQ (fun hc => ?_) (fun hc => ?_) <;> try exact prA))
       | (refine isC 16 ?_; refine WPl.cV c16 ?_ (hΔ := provsM))
       | (refine isD 21 ?_; refine WPl.rdX (ReadR.binE rfl rfl BinR.eql (congrArg Value.bool (decide_eq_false (show ¬ (6 : Int) = 0 by omega)))) ?_)
       | (refine isOp ?_; first | refine WPl.rd ?_ | refine WPl.sk ?_ | refine WPl.rdB ?_)
       | (refine isSt ?_; first | refine WPl.st1 ?_ | refine WPl.stA ?_ | refine WPl.stEB ?_ | refine WPl.stRB ?_)
       | (show WPl _ _ _ _ _ _ _ (⟨_, .indexAddr _ _ _, _, _, _, _⟩ :: _) _; refine WPl.rdX (ReadR.indexE rfl rfl hasA (by first | assumption | omega)) ?_)
       | (show WPl _ _ _ _ _ _ _ (⟨_, .fieldAddr _ _ _, _, _, _, _⟩ :: _) _; refine WPl.rdX (ReadR.fieldE rfl hasA (by first | assumption | omega)) ?_)
       | (show WPl _ _ _ _ _ _ _ (⟨_, .load _ _, _, _, _, _⟩ :: _) _; first | refine WPl.rdX (ReadR.loadE rfl hasA (by assumption)) ?_ | refine WPl.rdX (ReadR.loadES (by assumption) (by first | assumption | omega) rfl hasA) ?_)
       | (show WPl _ _ _ _ _ _ _ (⟨_, .slice _ _ _ _ _, _, _, _, _⟩ :: _) _; first | refine WPl.rdX (ReadR.sliceH rfl rfl hasA (by omega)) ?_ | refine WPl.rdX (ReadR.sliceL rfl rfl hasA (by omega)) ?_ | refine WPl.rdX (ReadR.sliceLH rfl rfl rfl hasA (by omega) (by omega)) ?_)
       | (refine WPl.spQ (fun hc => ?_) (fun hc => ?_) <;> try exact prA)
       | fail)
      refine WPq.gbagI (row := prow) (es := F.ps) (es' := A ++ B) (x := x) prow_own hpp (by show Takes _ [gbag prow (A ++ B), bx x.g 33 (shC x.s x.v), rowN 36 21 x.v x.bs.length (bks x.bs)] _; exact takesA) ?_
      exact WPq.dX (ho := ownsG) (vs := [.int .i64 6]) [bx gF 66 (fac mi md), mp idM mi (ies F.ps), mp drM md F.ds, gbag prow F.ps] ⟨F, rfl, h, rfl⟩
    | true =>
      rw [if_pos hh] at c16
      obtain ⟨z, hz, hzi⟩ := has_lb hsx hh
      subst hzi
      have hzl := (List.getElem?_eq_some_iff.1 hz).1
      have hr : turnS L x.s.id z.id (setBy z.id fun k => { k with dr := on }) = (updB L x.s.id (setBy z.id fun k => { k with dr := on }), 0) := by unfold turnS; rw [hf]; dsimp only; rw [if_pos hh]
      rw [hr]
      have hset := set_setBy hsx hz (fun k => { k with dr := on })
      have hs := bks_1 (b' := { z with dr := on }) (o := 20) (u := .bool on) hz (by omega) (by simp [flat_eq, z.ad.len, u8s_length])
      obtain ⟨hpi, hie⟩ := h.upd hps hf (f := setBy z.id fun k => { k with dr := on }) hxv (setBy_srt hsx fun k => rfl) (by rw [setBy_len]; exact hlx)
      refine Triple.enter Try.func20 rfl Try.ntmps20 rfl (fun W => ?_)
      dsimp only [argsF, Nat.reduceAdd]
      refine WPc.gbagO (row := prow) prow_own hpp ?_
      rw [show prow x = [bx x.g 33 (shC x.s x.v), rowN 36 21 x.v x.bs.length (bks x.bs)] from rfl, List.cons_append, List.cons_append, List.nil_append]
      repeat' (first
       | refine WPl.nil ?_ | refine WPq.then ?_ | refine WPq.thenR ?_ | refine WPq.thenE ?_ | refine WPq.blockN ?_ | refine WPq.blockR ?_ | refine WPq.blockE ?_ | refine WPq.blockO rfl ?_ | refine WPc.seq ?_ | refine WPc.block ?_ | refine WPc.ret ?_ | refine WPc.exit ?_ | refine WPc.skip ?_ | refine WPc.region ?_
       | (refine isCond ?_; first | refine WPc.cT ?_ | refine WPc.cF ?_ | (refine WPc.cQ (fun hc => ?_) (fun hc => ?_) <;> try exact prA))
       | (refine isC 16 ?_; refine WPl.cV c16 ?_ (hΔ := provsM))
       | (refine isD 21 ?_; refine WPl.rdX (ReadR.binE rfl rfl BinR.eql (congrArg Value.bool (decide_eq_true (rfl : (0 : Int) = 0)))) ?_)
       | (refine isD 28 ?_; refine WPl.rdX (ReadR.indexE (i := lbB x.bs z.id) rfl rfl hasA hzl) ?_)
       | (refine isD 29 ?_; refine WPl.rdX (ReadR.fieldE rfl hasA (by omega)) ?_)
       | (show WPl _ _ _ _ _ _ _ (⟨_, .store _ (.tmp 29) _, _, _, _, _⟩ :: _) _; refine WPl.stEN (i := lbB x.bs z.id * 21 + 20) (m := x.bs.length) (xs := bks x.bs) (by omega) ?_)
       | (refine isOp ?_; first | refine WPl.rd ?_ | refine WPl.sk ?_ | refine WPl.rdB ?_)
       | (refine isSt ?_; first | refine WPl.st1 ?_ | refine WPl.stA ?_ | refine WPl.stEB ?_ | refine WPl.stRB ?_)
       | (show WPl _ _ _ _ _ _ _ (⟨_, .indexAddr _ _ _, _, _, _, _⟩ :: _) _; refine WPl.rdX (ReadR.indexE rfl rfl hasA (by first | assumption | omega)) ?_)
       | (show WPl _ _ _ _ _ _ _ (⟨_, .fieldAddr _ _ _, _, _, _, _⟩ :: _) _; refine WPl.rdX (ReadR.fieldE rfl hasA (by first | assumption | omega)) ?_)
       | (show WPl _ _ _ _ _ _ _ (⟨_, .load _ _, _, _, _, _⟩ :: _) _; first | refine WPl.rdX (ReadR.loadE rfl hasA (by assumption)) ?_ | refine WPl.rdX (ReadR.loadES (by assumption) (by first | assumption | omega) rfl hasA) ?_)
       | (show WPl _ _ _ _ _ _ _ (⟨_, .slice _ _ _ _ _, _, _, _, _⟩ :: _) _; first | refine WPl.rdX (ReadR.sliceH rfl rfl hasA (by omega)) ?_ | refine WPl.rdX (ReadR.sliceL rfl rfl hasA (by omega)) ?_ | refine WPl.rdX (ReadR.sliceLH rfl rfl rfl hasA (by omega) (by omega)) ?_)
       | (refine WPl.spQ (fun hc => ?_) (fun hc => ?_) <;> try exact prA)
       | fail)
      rw [hs, hset, ← hie]
      obtain ⟨bs', hbs'⟩ : ∃ bs', bs' = setBy z.id (fun k => { k with dr := on }) x.bs := ⟨_, rfl⟩
      rw [← hbs'] at hpi ⊢
      have hlb' : bs'.length = x.bs.length := by rw [hbs', setBy_len]
      rw [← hlb']
      refine WPq.gbagI (row := prow) (es := A ++ ⟨x.g, x.v, x.s, bs'⟩ :: B) (es' := A ++ B) (x := ⟨x.g, x.v, x.s, bs'⟩) prow_own List.perm_middle (by show Takes _ [gbag prow (A ++ B), bx x.g 33 (shC x.s x.v), rowN 36 21 x.v bs'.length (bks bs')] _; exact takesA) ?_
      exact WPq.dX (ho := ownsG) (vs := [.int .i64 0]) [bx gF 66 (fac mi md), mp idM mi (ies (A ++ ⟨x.g, x.v, x.s, bs'⟩ :: B)), mp drM md F.ds, gbag prow (A ++ ⟨x.g, x.v, x.s, bs'⟩ :: B)] ⟨⟨_, _⟩, rfl, hpi, rfl⟩
theorem gweigh_t (h : PInv L F) (sid b n : Int) (hw : in64 sid) : Triple Try.prog 21 #[hF gF, .int .i64 sid, .int .i64 b, .int .i64 n] (fmA gF mi md F) (RFm gF mi md (.int .i64 (weighS L sid b n).2) (weighS L sid b n).1) := by
  cases hf : findS L sid with
  | none =>
    have hr : weighS L sid b n = (L, 6) := by unfold weighS; rw [hf]
    rw [hr]
    have c16 := gfind0_t gF mi md L F h sid b hw hf
    refine Triple.enter Try.func21 rfl Try.ntmps21 rfl (fun W => ?_)
    dsimp only [argsF, Nat.reduceAdd]
    repeat' (first
     | refine WPl.nil ?_ | refine WPq.then ?_ | refine WPq.thenR ?_ | refine WPq.thenE ?_ | refine WPq.blockN ?_ | refine WPq.blockR ?_ | refine WPq.blockE ?_ | refine WPq.blockO rfl ?_ | refine WPc.seq ?_ | refine WPc.block ?_ | refine WPc.ret ?_ | refine WPc.exit ?_ | refine WPc.skip ?_ | refine WPc.region ?_
     | (refine isCond ?_; first | refine WPc.cT ?_ | refine WPc.cF ?_ | (refine WPc.cQ (fun hc => ?_) (fun hc => ?_) <;> try exact prA))
     | (refine isC 16 ?_; refine WPl.cV c16 ?_ (hΔ := provsM))
     | (refine isD 22 ?_; refine WPl.rdX (ReadR.binE rfl rfl BinR.neq (congrArg (fun q => Value.bool (!q)) (decide_eq_false (show ¬ (6 : Int) = 0 by omega)))) ?_)
     | (refine isOp ?_; first | refine WPl.rd ?_ | refine WPl.sk ?_ | refine WPl.rdB ?_)
     | (refine isSt ?_; first | refine WPl.st1 ?_ | refine WPl.stA ?_ | refine WPl.stEB ?_ | refine WPl.stRB ?_)
     | (show WPl _ _ _ _ _ _ _ (⟨_, .indexAddr _ _ _, _, _, _, _⟩ :: _) _; refine WPl.rdX (ReadR.indexE rfl rfl hasA (by first | assumption | omega)) ?_)
     | (show WPl _ _ _ _ _ _ _ (⟨_, .fieldAddr _ _ _, _, _, _, _⟩ :: _) _; refine WPl.rdX (ReadR.fieldE rfl hasA (by first | assumption | omega)) ?_)
     | (show WPl _ _ _ _ _ _ _ (⟨_, .load _ _, _, _, _, _⟩ :: _) _; first | refine WPl.rdX (ReadR.loadE rfl hasA (by assumption)) ?_ | refine WPl.rdX (ReadR.loadES (by assumption) (by first | assumption | omega) rfl hasA) ?_)
     | (show WPl _ _ _ _ _ _ _ (⟨_, .slice _ _ _ _ _, _, _, _, _⟩ :: _) _; first | refine WPl.rdX (ReadR.sliceH rfl rfl hasA (by omega)) ?_ | refine WPl.rdX (ReadR.sliceL rfl rfl hasA (by omega)) ?_ | refine WPl.rdX (ReadR.sliceLH rfl rfl rfl hasA (by omega) (by omega)) ?_)
     | (refine WPl.spQ (fun hc => ?_) (fun hc => ?_) <;> try exact prA)
     | fail)
    exact WPq.dX (ho := ownsG) (vs := [.int .i64 6]) [bx gF 66 (fac mi md), mp idM mi (ies F.ps), mp drM md F.ds, gbag prow F.ps] ⟨F, rfl, h, rfl⟩
  | some y =>
    obtain ⟨A, B, x, hps, hxy, hxi, hm⟩ := h.at hf
    subst hxy
    subst hxi
    have hxL := (findS_some hf).1
    have hsx : SrtB x.bs := h.bsrt _ hxL
    have hlx : x.bs.length ≤ 16 := h.blen _ hxL
    have hxv : x.v.oneCell' = true := h.one x (by rw [hps]; exact List.mem_append_right _ (List.mem_cons_self ..))
    have hal := x.s.ad.len
    have hpp : F.ps.Perm (x :: (A ++ B)) := by rw [hps]; exact List.perm_middle
    have hL := bks_len (l := x.bs)
    have c16 := gfind1_t gF mi md F x.s.id b hw x hm hsx hlx
    have c26 := gwt_t n
    cases hh : hasB x.bs b with
    | false =>
      have hr : weighS L x.s.id b n = (L, 6) := by unfold weighS turnS; rw [hf]; dsimp only; rw [if_neg (by rw [hh]; simp), if_neg (by rw [hh]; simp)]
      rw [hr]
      rw [if_neg (by rw [hh]; simp)] at c16
      refine Triple.enter Try.func21 rfl Try.ntmps21 rfl (fun W => ?_)
      dsimp only [argsF, Nat.reduceAdd]
      refine WPc.gbagO (row := prow) prow_own hpp ?_
      rw [show prow x = [bx x.g 33 (shC x.s x.v), rowN 36 21 x.v x.bs.length (bks x.bs)] from rfl, List.cons_append, List.cons_append, List.nil_append]
      repeat' (first
       | refine WPl.nil ?_ | refine WPq.then ?_ | refine WPq.thenR ?_ | refine WPq.thenE ?_ | refine WPq.blockN ?_ | refine WPq.blockR ?_ | refine WPq.blockE ?_ | refine WPq.blockO rfl ?_ | refine WPc.seq ?_ | refine WPc.block ?_ | refine WPc.ret ?_ | refine WPc.exit ?_ | refine WPc.skip ?_ | refine WPc.region ?_
       | (refine isCond ?_; first | refine WPc.cT ?_ | refine WPc.cF ?_ | (refine WPc.cQ (fun hc => ?_) (fun hc => ?_) <;> try exact prA))
       | (refine isC 16 ?_; refine WPl.cV c16 ?_ (hΔ := provsM))
       | (refine isD 22 ?_; refine WPl.rdX (ReadR.binE rfl rfl BinR.neq (congrArg (fun q => Value.bool (!q)) (decide_eq_false (show ¬ (6 : Int) = 0 by omega)))) ?_)
       | (refine isOp ?_; first | refine WPl.rd ?_ | refine WPl.sk ?_ | refine WPl.rdB ?_)
       | (refine isSt ?_; first | refine WPl.st1 ?_ | refine WPl.stA ?_ | refine WPl.stEB ?_ | refine WPl.stRB ?_)
       | (show WPl _ _ _ _ _ _ _ (⟨_, .indexAddr _ _ _, _, _, _, _⟩ :: _) _; refine WPl.rdX (ReadR.indexE rfl rfl hasA (by first | assumption | omega)) ?_)
       | (show WPl _ _ _ _ _ _ _ (⟨_, .fieldAddr _ _ _, _, _, _, _⟩ :: _) _; refine WPl.rdX (ReadR.fieldE rfl hasA (by first | assumption | omega)) ?_)
       | (show WPl _ _ _ _ _ _ _ (⟨_, .load _ _, _, _, _, _⟩ :: _) _; first | refine WPl.rdX (ReadR.loadE rfl hasA (by assumption)) ?_ | refine WPl.rdX (ReadR.loadES (by assumption) (by first | assumption | omega) rfl hasA) ?_)
       | (show WPl _ _ _ _ _ _ _ (⟨_, .slice _ _ _ _ _, _, _, _, _⟩ :: _) _; first | refine WPl.rdX (ReadR.sliceH rfl rfl hasA (by omega)) ?_ | refine WPl.rdX (ReadR.sliceL rfl rfl hasA (by omega)) ?_ | refine WPl.rdX (ReadR.sliceLH rfl rfl rfl hasA (by omega) (by omega)) ?_)
       | (refine WPl.spQ (fun hc => ?_) (fun hc => ?_) <;> try exact prA)
       | fail)
      refine WPq.gbagI (row := prow) (es := F.ps) (es' := A ++ B) (x := x) prow_own hpp (by show Takes _ [gbag prow (A ++ B), bx x.g 33 (shC x.s x.v), rowN 36 21 x.v x.bs.length (bks x.bs)] _; exact takesA) ?_
      exact WPq.dX (ho := ownsG) (vs := [.int .i64 6]) [bx gF 66 (fac mi md), mp idM mi (ies F.ps), mp drM md F.ds, gbag prow F.ps] ⟨F, rfl, h, rfl⟩
    | true =>
      rw [if_pos hh] at c16
      by_cases hn : 0 ≤ n ∧ n ≤ 10
      · rw [decide_eq_true hn] at c26
        obtain ⟨z, hz, hzi⟩ := has_lb hsx hh
        subst hzi
        have hzl := (List.getElem?_eq_some_iff.1 hz).1
        have hr : weighS L x.s.id z.id n = (updB L x.s.id (setBy z.id fun k => { k with wt := n }), 0) := by unfold weighS turnS; rw [hf]; dsimp only; rw [if_pos hh, if_neg (by rintro ⟨_, h2⟩; exact h2 hn)]
        rw [hr]
        have hset := set_setBy hsx hz (fun k => { k with wt := n })
        have hs := bks_1 (b' := { z with wt := n }) (o := 19) (u := .int .i64 n) hz (by omega) (by simp [flat_eq, z.ad.len, u8s_length])
        obtain ⟨hpi, hie⟩ := h.upd hps hf (f := setBy z.id fun k => { k with wt := n }) hxv (setBy_srt hsx fun k => rfl) (by rw [setBy_len]; exact hlx)
        refine Triple.enter Try.func21 rfl Try.ntmps21 rfl (fun W => ?_)
        dsimp only [argsF, Nat.reduceAdd]
        refine WPc.gbagO (row := prow) prow_own hpp ?_
        rw [show prow x = [bx x.g 33 (shC x.s x.v), rowN 36 21 x.v x.bs.length (bks x.bs)] from rfl, List.cons_append, List.cons_append, List.nil_append]
        repeat' (first
         | refine WPl.nil ?_ | refine WPq.then ?_ | refine WPq.thenR ?_ | refine WPq.thenE ?_ | refine WPq.blockN ?_ | refine WPq.blockR ?_ | refine WPq.blockE ?_ | refine WPq.blockO rfl ?_ | refine WPc.seq ?_ | refine WPc.block ?_ | refine WPc.ret ?_ | refine WPc.exit ?_ | refine WPc.skip ?_ | refine WPc.region ?_
         | (refine isCond ?_; first | refine WPc.cT ?_ | refine WPc.cF ?_ | (refine WPc.cQ (fun hc => ?_) (fun hc => ?_) <;> try exact prA))
         | (refine isC 16 ?_; refine WPl.cV c16 ?_ (hΔ := provsM))
         | (refine isD 22 ?_; refine WPl.rdX (ReadR.binE rfl rfl BinR.neq (congrArg (fun q => Value.bool (!q)) (decide_eq_true (rfl : (0 : Int) = 0)))) ?_)
         | (refine isC 26 ?_; refine WPl.cV (c26) ?_)
         | (refine isD 34 ?_; refine WPl.rdX (ReadR.indexE (i := lbB x.bs z.id) rfl rfl hasA hzl) ?_)
         | (refine isD 35 ?_; refine WPl.rdX (ReadR.fieldE rfl hasA (by omega)) ?_)
         | (show WPl _ _ _ _ _ _ _ (⟨_, .store _ (.tmp 35) _, _, _, _, _⟩ :: _) _; refine WPl.stEN (i := lbB x.bs z.id * 21 + 19) (m := x.bs.length) (xs := bks x.bs) (by omega) ?_)
         | (refine isOp ?_; first | refine WPl.rd ?_ | refine WPl.sk ?_ | refine WPl.rdB ?_)
         | (refine isSt ?_; first | refine WPl.st1 ?_ | refine WPl.stA ?_ | refine WPl.stEB ?_ | refine WPl.stRB ?_)
         | (show WPl _ _ _ _ _ _ _ (⟨_, .indexAddr _ _ _, _, _, _, _⟩ :: _) _; refine WPl.rdX (ReadR.indexE rfl rfl hasA (by first | assumption | omega)) ?_)
         | (show WPl _ _ _ _ _ _ _ (⟨_, .fieldAddr _ _ _, _, _, _, _⟩ :: _) _; refine WPl.rdX (ReadR.fieldE rfl hasA (by first | assumption | omega)) ?_)
         | (show WPl _ _ _ _ _ _ _ (⟨_, .load _ _, _, _, _, _⟩ :: _) _; first | refine WPl.rdX (ReadR.loadE rfl hasA (by assumption)) ?_ | refine WPl.rdX (ReadR.loadES (by assumption) (by first | assumption | omega) rfl hasA) ?_)
         | (show WPl _ _ _ _ _ _ _ (⟨_, .slice _ _ _ _ _, _, _, _, _⟩ :: _) _; first | refine WPl.rdX (ReadR.sliceH rfl rfl hasA (by omega)) ?_ | refine WPl.rdX (ReadR.sliceL rfl rfl hasA (by omega)) ?_ | refine WPl.rdX (ReadR.sliceLH rfl rfl rfl hasA (by omega) (by omega)) ?_)
         | (refine WPl.spQ (fun hc => ?_) (fun hc => ?_) <;> try exact prA)
         | fail)
        rw [hs, hset, ← hie]
        obtain ⟨bs', hbs'⟩ : ∃ bs', bs' = setBy z.id (fun k => { k with wt := n }) x.bs := ⟨_, rfl⟩
        rw [← hbs'] at hpi ⊢
        have hlb' : bs'.length = x.bs.length := by rw [hbs', setBy_len]
        rw [← hlb']
        refine WPq.gbagI (row := prow) (es := A ++ ⟨x.g, x.v, x.s, bs'⟩ :: B) (es' := A ++ B) (x := ⟨x.g, x.v, x.s, bs'⟩) prow_own List.perm_middle (by show Takes _ [gbag prow (A ++ B), bx x.g 33 (shC x.s x.v), rowN 36 21 x.v bs'.length (bks bs')] _; exact takesA) ?_
        exact WPq.dX (ho := ownsG) (vs := [.int .i64 0]) [bx gF 66 (fac mi md), mp idM mi (ies (A ++ ⟨x.g, x.v, x.s, bs'⟩ :: B)), mp drM md F.ds, gbag prow (A ++ ⟨x.g, x.v, x.s, bs'⟩ :: B)] ⟨⟨_, _⟩, rfl, hpi, rfl⟩
      · rw [decide_eq_false hn] at c26
        have hr : weighS L x.s.id b n = (L, 1) := by unfold weighS; rw [hf]; dsimp only; rw [if_pos ⟨hh, hn⟩]
        rw [hr]
        refine Triple.enter Try.func21 rfl Try.ntmps21 rfl (fun W => ?_)
        dsimp only [argsF, Nat.reduceAdd]
        refine WPc.gbagO (row := prow) prow_own hpp ?_
        rw [show prow x = [bx x.g 33 (shC x.s x.v), rowN 36 21 x.v x.bs.length (bks x.bs)] from rfl, List.cons_append, List.cons_append, List.nil_append]
        repeat' (first
         | refine WPl.nil ?_ | refine WPq.then ?_ | refine WPq.thenR ?_ | refine WPq.thenE ?_ | refine WPq.blockN ?_ | refine WPq.blockR ?_ | refine WPq.blockE ?_ | refine WPq.blockO rfl ?_ | refine WPc.seq ?_ | refine WPc.block ?_ | refine WPc.ret ?_ | refine WPc.exit ?_ | refine WPc.skip ?_ | refine WPc.region ?_
         | (refine isCond ?_; first | refine WPc.cT ?_ | refine WPc.cF ?_ | (refine WPc.cQ (fun hc => ?_) (fun hc => ?_) <;> try exact prA))
         | (refine isC 16 ?_; refine WPl.cV c16 ?_ (hΔ := provsM))
         | (refine isD 22 ?_; refine WPl.rdX (ReadR.binE rfl rfl BinR.neq (congrArg (fun q => Value.bool (!q)) (decide_eq_true (rfl : (0 : Int) = 0)))) ?_)
         | (refine isC 26 ?_; refine WPl.cV (c26) ?_)
         | (refine isOp ?_; first | refine WPl.rd ?_ | refine WPl.sk ?_ | refine WPl.rdB ?_)
         | (refine isSt ?_; first | refine WPl.st1 ?_ | refine WPl.stA ?_ | refine WPl.stEB ?_ | refine WPl.stRB ?_)
         | (show WPl _ _ _ _ _ _ _ (⟨_, .indexAddr _ _ _, _, _, _, _⟩ :: _) _; refine WPl.rdX (ReadR.indexE rfl rfl hasA (by first | assumption | omega)) ?_)
         | (show WPl _ _ _ _ _ _ _ (⟨_, .fieldAddr _ _ _, _, _, _, _⟩ :: _) _; refine WPl.rdX (ReadR.fieldE rfl hasA (by first | assumption | omega)) ?_)
         | (show WPl _ _ _ _ _ _ _ (⟨_, .load _ _, _, _, _, _⟩ :: _) _; first | refine WPl.rdX (ReadR.loadE rfl hasA (by assumption)) ?_ | refine WPl.rdX (ReadR.loadES (by assumption) (by first | assumption | omega) rfl hasA) ?_)
         | (show WPl _ _ _ _ _ _ _ (⟨_, .slice _ _ _ _ _, _, _, _, _⟩ :: _) _; first | refine WPl.rdX (ReadR.sliceH rfl rfl hasA (by omega)) ?_ | refine WPl.rdX (ReadR.sliceL rfl rfl hasA (by omega)) ?_ | refine WPl.rdX (ReadR.sliceLH rfl rfl rfl hasA (by omega) (by omega)) ?_)
         | (refine WPl.spQ (fun hc => ?_) (fun hc => ?_) <;> try exact prA)
         | fail)
        refine WPq.gbagI (row := prow) (es := F.ps) (es' := A ++ B) (x := x) prow_own hpp (by show Takes _ [gbag prow (A ++ B), bx x.g 33 (shC x.s x.v), rowN 36 21 x.v x.bs.length (bks x.bs)] _; exact takesA) ?_
        exact WPq.dX (ho := ownsG) (vs := [.int .i64 1]) [bx gF 66 (fac mi md), mp idM mi (ies F.ps), mp drM md F.ds, gbag prow F.ps] ⟨F, rfl, h, rfl⟩
end
end Go.Proofs.Ytpjfkomicehinaa
/- Layer 20 (farm): a service is matched; what is told of no farm. -/
namespace Go.Proofs.Ytpjfkomicehinaa
/-- What is done to a farm. -/
structure FA where
  k : Int
  id : Int
  b : Int
  w : Int
  s : Sh
  v : Value
  l : List Bk
  c : Bk
abbrev faC (x : FA) : Ch := [(1, [.int .i64 x.k]), (1, [.int .i64 x.id]), (1, [.int .i64 x.b]), (1, [.int .i64 x.w]), (1, [.int .i64 x.s.id]), (1, [.bool x.s.ad.six]), (16, u8s x.s.ad.b), (1, [.int .u16 (x.s.port : Int)]), (1, [.int .u8 ((x.s.proto.toNat : Nat) : Int)]), (1, [.int .i64 x.s.bits]), (1, [.int .u64 x.s.lasts]), (1, [x.v]), (1, [.int .i64 x.c.id]), (1, [.bool x.c.ad.six]), (16, u8s x.c.ad.b), (1, [.int .u16 (x.c.port : Int)]), (1, [.int .i64 x.c.wt]), (1, [.bool x.c.dr])]
def faW (x : FA) : Prop := in64 x.k ∧ in64 x.id ∧ in64 x.b ∧ in64 x.w ∧ shW x.s ∧ x.v.oneCell' = true ∧ x.c.port < 65536 ∧ in64 x.c.id ∧ in64 x.c.wt
theorem faC_ok {x : FA} (h : x.v.oneCell' = true) : FOk (faC x) := .one1 rfl (.one1 rfl (.one1 rfl (.one1 rfl (.one1 rfl (.one1 rfl (.bytes x.s.ad.len (.one1 rfl (.one1 rfl (.one1 rfl (.one1 rfl (.one1 h (.one1 rfl (.one1 rfl (.bytes x.c.ad.len (.one1 rfl (.one1 rfl (.one1 rfl .nil)))))))))))))))))
def lvS : Sh := ⟨7, Adr.zero, 80, 6, 0, 1⟩
theorem lv_add : addS [] lvS ([] : List Bk).length = ([⟨lvS, []⟩], 0) := by with_unfolding_all decide
theorem lv_match : matchV [⟨lvS, []⟩] ⟨Adr.zero, 80, 6⟩ = .tuple #[.int .i64 7, .bool true] := by
  have h : doorS [⟨lvS, []⟩] ⟨Adr.zero, 80, 6⟩ = some ⟨lvS, []⟩ := by decide
  unfold matchV
  rw [h]
  rfl
open Go.RowKit
set_option linter.unusedSimpArgs false
set_option linter.unusedVariables false
set_option maxRecDepth 20000
set_option maxHeartbeats 4000000
attribute [local irreducible] WPc WPl WPq ReadR OpT BinR HasS bx rdN rowN Take Takes Prov Triple ResF BuildP Done ag Int.decLt Int.decLe Int.instDecidableEq
attribute [local irreducible] mp rmp rg rgo mput mget mfind mdel gbag bks ies lbB hasB findS doorS mpe lvS
theorem glives_t : Triple Try.prog 13 #[] [] (RVal (.bool true)) := by
  have c8 := fun gF mi md => gadd_t gF mi md [] ⟨[], []⟩ PInv.empty lvS (.slice none 0 0) [] rfl (by with_unfolding_all exact ⟨⟨by decide, by decide⟩, by decide⟩)
  rw [lv_add] at c8
  have c12 := fun gF mi md F (h : PInv [⟨lvS, []⟩] F) => gmatch_t gF mi md [⟨lvS, []⟩] F h Adr.zero 80 6 (by decide)
  rw [lv_match] at c12
  have e0 : bks ([] : List Bk) = [] := by with_unfolding_all rfl
  rw [e0] at c8
  have c8 : ∀ gF mi md, Triple Try.prog 8 #[hF gF, ag (shC lvS (.slice none 0 0))] ([rdN (.slice none 0 0) 0 []] ++ fmA gF mi md ⟨[], []⟩) (RFm gF mi md (.int .i64 0) [⟨lvS, []⟩]) := c8
  refine Triple.enter Try.func13 rfl Try.ntmps13 rfl (fun W => ?_)
  dsimp only [argsF, Nat.reduceAdd]
  refine WPc.nilRowN 36 21 ?_
  repeat' (first
   | refine WPl.nil ?_ | refine WPq.then ?_ | refine WPq.thenR ?_ | refine WPq.thenE ?_ | refine WPq.blockN ?_ | refine WPq.blockR ?_ | refine WPq.blockE ?_ | refine WPq.blockO rfl ?_ | refine WPc.seq ?_ | refine WPc.block ?_ | refine WPc.ret ?_ | refine WPc.exit ?_ | refine WPc.skip ?_ | refine WPc.region ?_
   | (refine isCond ?_; first | refine WPc.cT ?_ | refine WPc.cF ?_ | (refine WPc.cQ (fun hc => ?_) (fun hc => ?_) <;> try exact prA))
   | (refine isC 5 ?_; refine WPl.cXs (gnew_t) fun v Γ1 hR => ?_; obtain ⟨gF, mi, md, rfl, rfl⟩ := hR; (try dsimp only [putF, List.cons_append, List.nil_append]))
   | (refine isD 7 ?_; refine WPl.rdX (ReadR.build (cs' := shC lvS (.slice none 0 0)) (by with_unfolding_all exact buildA)) ?_)
   | (refine isC 8 ?_; refine WPl.cO (c8 gF mi md) (fun v Γ1 hR => ?_) ?_; rotate_left; exact fpA; obtain ⟨F1, rfl, hp1, rfl⟩ := hR; (try dsimp only [putF, List.cons_append, List.nil_append]))
   | (refine isOp ?_; first | refine WPl.rd ?_ | refine WPl.sk ?_ | refine WPl.rdB ?_)
   | (show WPl _ _ _ _ _ _ _ (⟨_, .indexAddr _ _ _, _, _, _, _⟩ :: _) _; refine WPl.rdX (ReadR.indexE rfl rfl hasA (by first | assumption | omega)) ?_)
   | (show WPl _ _ _ _ _ _ _ (⟨_, .fieldAddr _ _ _, _, _, _, _⟩ :: _) _; refine WPl.rdX (ReadR.fieldE rfl hasA (by first | assumption | omega)) ?_)
   | (show WPl _ _ _ _ _ _ _ (⟨_, .load _ _, _, _, _, _⟩ :: _) _; first | refine WPl.rdX (ReadR.loadE rfl hasA (by assumption)) ?_ | refine WPl.rdX (ReadR.loadES (by assumption) (by first | assumption | omega) rfl hasA) ?_)
   | (show WPl _ _ _ _ _ _ _ (⟨_, .slice _ _ _ _ _, _, _, _, _⟩ :: _) _; first | refine WPl.rdX (ReadR.sliceH rfl rfl hasA (by omega)) ?_ | refine WPl.rdX (ReadR.sliceL rfl rfl hasA (by omega)) ?_ | refine WPl.rdX (ReadR.sliceLH rfl rfl rfl hasA (by omega) (by omega)) ?_)
   | (refine WPl.spQ (fun hc => ?_) (fun hc => ?_) <;> try exact prA)
   | fail)
  repeat' (first
   | refine WPl.nil ?_ | refine WPq.then ?_ | refine WPq.thenR ?_ | refine WPq.thenE ?_ | refine WPq.blockN ?_ | refine WPq.blockR ?_ | refine WPq.blockE ?_ | refine WPq.blockO rfl ?_ | refine WPc.seq ?_ | refine WPc.block ?_ | refine WPc.ret ?_ | refine WPc.exit ?_ | refine WPc.skip ?_ | refine WPc.region ?_
   | (refine isCond ?_; first | refine WPc.cT ?_ | refine WPc.cF ?_ | (refine WPc.cQ (fun hc => ?_) (fun hc => ?_) <;> try exact prA))
   | (refine isD 11 ?_; refine WPl.rdX (ReadR.build (cs' := adc Adr.zero) buildA) ?_)
   | (refine isC 12 ?_; refine WPl.cV (c12 gF mi md F1 hp1) ?_ (hΔ := provsM))
   | (refine isD 16 ?_; refine WPl.rdX (ReadR.binE rfl rfl BinR.eql (congrArg Value.bool (decide_eq_true (rfl : (0 : Int) = 0)))) ?_)
   | (refine isD 19 ?_; refine WPl.rdX (ReadR.binE rfl rfl BinR.eql (congrArg Value.bool (decide_eq_true (rfl : (7 : Int) = 7)))) ?_)
   | (refine isOp ?_; first | refine WPl.rd ?_ | refine WPl.sk ?_ | refine WPl.rdB ?_)
   | (show WPl _ _ _ _ _ _ _ (⟨_, .indexAddr _ _ _, _, _, _, _⟩ :: _) _; refine WPl.rdX (ReadR.indexE rfl rfl hasA (by first | assumption | omega)) ?_)
   | (show WPl _ _ _ _ _ _ _ (⟨_, .fieldAddr _ _ _, _, _, _, _⟩ :: _) _; refine WPl.rdX (ReadR.fieldE rfl hasA (by first | assumption | omega)) ?_)
   | (show WPl _ _ _ _ _ _ _ (⟨_, .load _ _, _, _, _, _⟩ :: _) _; first | refine WPl.rdX (ReadR.loadE rfl hasA (by assumption)) ?_ | refine WPl.rdX (ReadR.loadES (by assumption) (by first | assumption | omega) rfl hasA) ?_)
   | (show WPl _ _ _ _ _ _ _ (⟨_, .slice _ _ _ _ _, _, _, _, _⟩ :: _) _; first | refine WPl.rdX (ReadR.sliceH rfl rfl hasA (by omega)) ?_ | refine WPl.rdX (ReadR.sliceL rfl rfl hasA (by omega)) ?_ | refine WPl.rdX (ReadR.sliceLH rfl rfl rfl hasA (by omega) (by omega)) ?_)
   | (refine WPl.spQ (fun hc => ?_) (fun hc => ?_) <;> try exact prA)
   | fail)
  exact WPq.dV
end Go.Proofs.Ytpjfkomicehinaa
/- What is done to a farm, opened. -/
namespace Go.Proofs.Ytpjfkomicehinaa
open Go.ChangeShapes Go.WideShapes Go.ChangeAt Go.RowKit
set_option linter.unusedSimpArgs false
set_option linter.unusedVariables false
def bkKs : List (Option IntKind) := some .i64 :: (adKinds ++ [some .u16, some .i64, none])
def shKs : List (Option IntKind) := some .i64 :: (adKinds ++ [some .u16, some .u8, some .i64, some .u64])
def faKs : List KW := (some .i64 :: some .i64 :: some .i64 :: some .i64 :: shKs).map KW.k ++ KW.r (bkKs.map KW.k) :: bkKs.map KW.k
def bkW (b : Bk) : Prop := in64 b.id ∧ b.port < 65536 ∧ in64 b.wt
section
variable {H : Type} {enc : TypeId × Value → H} {P : Program} {W : World}
theorem fits_bk {vs : List Value} (h : Fits bkKs vs) : ∃ b : Bk, vs = flat (bkC b) ∧ bkW b := by
  obtain ⟨n1, r1, rfl, a1, b1, k1⟩ := fits_i64 h
  obtain ⟨v3, v4, rfl, g3, g4⟩ := Fits.split k1
  obtain ⟨a, rfl⟩ := fits_adr g3
  obtain ⟨n3, r3, rfl, b3, k3⟩ := fits_uint rfl g4
  obtain ⟨n4, r4, rfl, a4, b4, k4⟩ := fits_i64 k3
  obtain ⟨d, r5, rfl, k5⟩ := fits_bool k4
  obtain rfl := fits_nil k5
  exact ⟨⟨n1, a, n3, n4, d⟩, by simp [flat_eq], ⟨a1, b1⟩, by simpa [IntKind.bits] using b3, a4, b4⟩
theorem fits_sh {vs : List Value} (h : Fits shKs vs) : ∃ s : Sh, vs = .int .i64 s.id :: .bool s.ad.six :: (u8s s.ad.b ++ [.int .u16 (s.port : Int), .int .u8 ((s.proto.toNat : Nat) : Int), .int .i64 s.bits, .int .u64 s.lasts]) ∧ shW s := by
  obtain ⟨n1, r1, rfl, a1, b1, k1⟩ := fits_i64 h
  obtain ⟨v3, v4, rfl, g3, g4⟩ := Fits.split k1
  obtain ⟨a, rfl⟩ := fits_adr g3
  obtain ⟨n3, r3, rfl, b3, k3⟩ := fits_uint rfl g4
  obtain ⟨c, r4, rfl, k4⟩ := fits_u8n k3
  obtain ⟨n5, r5, rfl, a5, b5, k5⟩ := fits_i64 k4
  obtain ⟨n6, r6, rfl, b6, k6⟩ := fits_uint rfl k5
  obtain rfl := fits_nil k6
  exact ⟨⟨n1, a, n3, c, n5, n6⟩, by simp [flat_eq], ⟨a1, b1⟩, by simpa [IntKind.bits] using b3⟩
theorem fits_fa {es : List Value} (h : FitsW W faKs es) : ∃ x : FA, es = flat (faC x) ∧ faW x ∧ (rdN x.v x.l.length (bks x.l)).holds W := by
  obtain ⟨v1, v2, rfl, h1, h2⟩ := FitsW.split h
  obtain ⟨n1, r1, rfl, a1, b1, k1⟩ := fits_i64 h1
  obtain ⟨n2, r2, rfl, a2, b2, k2⟩ := fits_i64 k1
  obtain ⟨n3, r3, rfl, a3, b3, k3⟩ := fits_i64 k2
  obtain ⟨n4, r4, rfl, a4, b4, k4⟩ := fits_i64 k3
  obtain ⟨s, rfl, hs⟩ := fits_sh k4
  obtain ⟨v, r, ess, rfl, hr, he, h3⟩ := FitsW.row h2
  obtain ⟨c, rfl, hc1, hc2, hc3⟩ := fits_bk h3.flat
  obtain ⟨l, rfl, hl⟩ := list_of (c := fun b => flat (bkC b)) (p := bkW) fun es hes => fits_bk (he es hes).flat
  refine ⟨⟨n1, n2, n3, n4, s, v, l, c⟩, by simp [flat_eq], ⟨⟨a1, b1⟩, ⟨a2, b2⟩, ⟨a3, b3⟩, ⟨a4, b4⟩, hs, readsW_one hr, hc2, hc1, hc3⟩, ?_⟩
  show (rdN v l.length (l.map fun b => flat (bkC b)).flatten).holds W
  rwa [List.length_map] at hr
def fas (l : List FA) : List Value := (l.map fun x => flat (faC x)).flatten
theorem open_fas {v : Value} {d : DataW H} {p : List MemPlace} {base : Nat} {t e : TypeId} (ht : P.underlying t = some (.slice e)) (hk : flatW P 8 e = some faKs) (hc : P.cellsOf e = 48)
    (hval : Value.okWide P W .any base t v) (h : DataW.Trod enc P W 0 (fun _ => true) true t v d p) : ∃ l : List FA, (rdN v l.length (fas l)).holds W ∧ (∀ x ∈ l, (rdN x.v x.l.length (bks x.l)).holds W) ∧ ∀ x ∈ l, faW x := by
  obtain ⟨l, h1, h2⟩ := open_listW (q := fun x : FA => faW x ∧ (rdN x.v x.l.length (bks x.l)).holds W) faC (fun es he => fits_fa he) 8 ht hk hc (by decide) hval h
  exact ⟨l, h1, fun x hx => (h2 x hx).2, fun x hx => (h2 x hx).1⟩
end
end Go.Proofs.Ytpjfkomicehinaa
/- Rows: their capacity; copy, append and growth within them. -/
namespace Go.Proofs.Ytpjfkomicehinaa
open Go.RowKit
set_option linter.unusedSimpArgs false
set_option linter.unusedVariables false
theorem run_copyN {P : Program} (w : World) (dT sT ty elem : TypeId) (i : TypeInfo) (hu : P.underlying dT = some (.slice elem)) (hi : P.info? elem = some i) (g o dLen dCap : Nat) (a : Addr) (sLen sCap : Nat) (cur : Array Value) (t : TypeId) (cs : List Value)
    (hg : w.heap[g]? = some (.cells cur t (0, 0))) (hn : cs.length = Nat.min sLen dLen * i.size) (hsrc : ∀ j v, cs[j]? = some v → w.cell? (a.add j) = some v) (hfit : o + cs.length ≤ cur.size) (h1 : ∀ v ∈ cs, v.oneCell' = true) :
    (Builtin.copy_ #[dT, sT] ty #[.slice (some ⟨g, o, none⟩) dLen dCap, .slice (some a) sLen sCap]).run P w =
      .ok (goInt (Nat.min sLen dLen)) (w.setRow g (cur.toList.take o ++ cs ++ cur.toList.drop (o + cs.length)).toArray) := by
  have hf := run_firstCells_some (P := P) w i.size (Nat.min sLen dLen) a sLen sCap cs hn hsrc
  have hst := run_storeCells_at P g o t cs 0 cur w hg (by simpa using hfit) h1
  simp only [Nat.add_zero] at hst
  simp [Builtin.copy_, run_underlying hu, Builtin.lenOf, sizeOf, typeInfo, hi, hf, hst]
/-- A row that is not empty, and its room. -/
theorem row_room {Γ : List Asn} {e : TypeId} {sz m : Nat} {v : Value} {xs : List Value} (h : rowN e sz v m xs ∈ Γ) (hm : m ≠ 0) : ∀ w, Holds Γ w → ∃ g cap, v = .slice (some ⟨g, 0, none⟩) m cap ∧ m ≤ cap := fun w hw => by
  rcases (hw _ h).2 with ⟨_, h0⟩ | ⟨g, cap, cur, rfl, hB, hg, hnc, _⟩
  · exact absurd h0 hm
  · exact ⟨g, cap, rfl, hnc⟩
section
variable {P : Program} {n : Nat} {W : World} {S : Nat → Prop} {Γ : List Asn} {F : List (Nat × Value)} {Q : Exit → Act → World → Prop} {ops : Array Oper} {os : List Oper}
variable {d : Option Tmp} {ty : TypeId} {pos : String} {af : Array Edge} {gd : Option (Nat × Bool)}
theorem Good.rowTo {A B : Asn} {Γf : List Asn} {w : World} (ho : A.own = true) (hfp : ∀ g, B.fp g → A.fp g) (hh : A.holds w → B.holds w) (h : Good W S (A :: Γf) w) : Good W S (B :: Γf) w := by
  refine h.conv (fun ha C hC => ?_) (fun ha => ?_) (fun C hC hco g hg => ?_)
  · rcases List.mem_cons.1 hC with rfl | hC
    · exact hh (ha _ (List.mem_cons_self ..))
    · exact ha _ (List.mem_cons_of_mem _ hC)
  · rw [List.pairwise_cons] at ha ⊢
    exact ⟨fun C hC hor g hg => ha.1 C hC (.inl ho) g (hfp g hg), ha.2⟩
  · rcases List.mem_cons.1 hC with rfl | hC
    · exact ⟨A, List.mem_cons_self .., ho, hfp g hg⟩
    · exact ⟨C, List.mem_cons_of_mem _ hC, hco, hg⟩
/-- A row as one that is longer, within its room. -/
theorem WPc.rowUp {e : TypeId} {sz g cap m m' : Nat} {xs : List Value} {Γf : List Asn} {c : Code} (hm : m ≤ m') (hm0 : 0 < m) (hc : m' ≤ cap) (k : ∀ ys, xs.length + ys.length = m' * sz → WPc P n W S (rowN e sz (.slice (some ⟨g, 0, none⟩) m' cap) m' (xs ++ ys) :: Γf) F c Q) (hp : Take Γ (rowN e sz (.slice (some ⟨g, 0, none⟩) m cap) m xs) Γf := by first | exact takeA | fail) : WPc P n W S Γ F c Q := fun a w hf hg => by
  have hg' := hg.perm hp
  have hb : (rowN e sz (.slice (some ⟨g, 0, none⟩) m cap) m xs).holds w := hg'.all _ (List.mem_cons_self ..)
  obtain ⟨h2, h3⟩ := hb
  have hxl : xs.length = m * sz := h2
  rcases h3 with ⟨hv, _⟩ | ⟨g2, cap2, cur, hv, hB, hgg, hnc, hcm, hcs, ht⟩
  · cases hv
  · cases hv
    have e1 : m * sz ≤ m' * sz := Nat.mul_le_mul_right sz hm
    have e2 : m' * sz ≤ cap * sz := Nat.mul_le_mul_right sz hc
    have hl : xs.length + ((cur.toList.drop (m * sz)).take (m' * sz - m * sz)).length = m' * sz := by
      have hcl : cur.toList.length = cap * sz := by rw [Array.length_toList]; exact hcs
      rw [List.length_take, List.length_drop]; omega
    have he : xs ++ (cur.toList.drop (m * sz)).take (m' * sz - m * sz) = cur.toList.take (m' * sz) := by
      conv => rhs; rw [← List.take_append_drop (m * sz) (cur.toList.take (m' * sz))]
      rw [List.take_take, Nat.min_eq_left e1, List.drop_take, ht]
    refine k _ hl a w hf (hg'.rowTo rowN_own (fun g hg => by cases hg; rfl) fun _ => ⟨by rw [List.length_append]; exact hl, .inr ⟨g, cap, cur, rfl, hB, hgg, hc, hcm, hcs, ?_⟩⟩)
    exact he.symm
/-- A row as one that is shorter. -/
theorem row_down {e : TypeId} {sz g cap m m' : Nat} {xs : List Value} {w : World} (hm : m' ≤ m) (hm0 : 0 < m) (h : (rowN e sz (.slice (some ⟨g, 0, none⟩) m cap) m xs).holds w) : (rowN e sz (.slice (some ⟨g, 0, none⟩) m' cap) m' (xs.take (m' * sz))).holds w := by
  obtain ⟨h2, h3⟩ := h
  have hxl : xs.length = m * sz := h2
  have e1 : m' * sz ≤ m * sz := Nat.mul_le_mul_right sz hm
  rcases h3 with ⟨hv, _⟩ | ⟨g2, cap2, cur, hv, hB, hgg, hnc, hcm, hcs, ht⟩
  · cases hv
  · cases hv
    refine ⟨by rw [List.length_take]; omega, .inr ⟨g, cap, cur, rfl, hB, hgg, by omega, hcm, hcs, ?_⟩⟩
    rw [← ht, List.take_take, Nat.min_eq_left e1]
theorem WPq.rowDown {e : TypeId} {sz g cap m : Nat} {xs : List Value} {Γf : List Asn} {ex : Exit} (m' : Nat) (hm : m' ≤ m) (hm0 : 0 < m) (k : WPq n W S (rowN e sz (.slice (some ⟨g, 0, none⟩) m' cap) m' (xs.take (m' * sz)) :: Γf) F Q ex) (hp : Take Γ (rowN e sz (.slice (some ⟨g, 0, none⟩) m cap) m xs) Γf := by first | exact takeA | fail) : WPq n W S Γ F Q ex := fun a w hf hg =>
  k a w hf ((hg.perm hp).rowTo rowN_own (fun g hg => by cases hg; rfl) (row_down hm hm0))
/-- A copy into a row: of what can be read, also of the row itself. -/
theorem OpT.copyN {dT sT e : TypeId} {sz : Nat} [hT : SliI P dT e] [he : EltN P e sz] {x y : Operand} {g cap m k dLen dCap m2 : Nat} {v2 : Value} {xs ys : List Value} {Γf : List Asn} (hx : evF F x = some (.slice (some ⟨g, k * sz, none⟩) dLen dCap)) (hy : evF F y = some v2) (hp : Takes Γ [rowN e sz (.slice (some ⟨g, 0, none⟩) m cap) m xs] Γf) (h2 : HasS Γ v2 m2 ys) (hm2 : ys.length = m2 * sz) (c : Nat) (h1 : ∀ u ∈ ys.take (c * sz), u.oneCell' = true) (hmin : Nat.min m2 dLen = c) (hfit : k + c ≤ m) (hpos : 0 < m2) :
    OpT P n Γ F ⟨d, .call { callee := .builtin .copy, args := #[x, y], argTypes := #[dT, sT] }, ty, pos, af, gd⟩ [rowN e sz (.slice (some ⟨g, 0, none⟩) m cap) m xs] (RLeave [rowN e sz (.slice (some ⟨g, 0, none⟩) m cap) m (xs.take (k * sz) ++ ys.take (c * sz) ++ xs.drop (k * sz + c * sz))]) := fun ρ w hf hw _ => by
  obtain ⟨i0, z, hi, hz0, hz1, hzs, hby, hsz⟩ := he.parts
  have hb : (rowN e sz (.slice (some ⟨g, 0, none⟩) m cap) m xs).holds w := hw _ (hp.mem_iff.2 (List.mem_cons_self ..))
  obtain ⟨a, cap2, hv2, g1, g2, g3, g4⟩ := (h2 w hw).at
  obtain ⟨h2', h3⟩ := hb
  have hxl : xs.length = m * sz := h2'
  have e3 : k * sz + c * sz ≤ m * sz := by rw [← Nat.add_mul]; exact Nat.mul_le_mul_right sz hfit
  rcases h3 with ⟨hv, _⟩ | ⟨g5, cap5, cur, hv, hB, hgg, hnc, hcm, hcs, ht⟩
  · cases hv
  cases hv
  have e2 : m * sz ≤ cap * sz := Nat.mul_le_mul_right sz hnc
  cases a with
  | none =>
    have := g3 rfl
    omega
  | some q =>
    subst hv2
    have hcm2 : c ≤ m2 := by rw [← hmin]; exact Nat.min_le_left _ _
    have e4 : c * sz ≤ m2 * sz := Nat.mul_le_mul_right sz hcm2
    obtain ⟨zs, hzz⟩ : ∃ zs, zs = ys.take (c * sz) := ⟨_, rfl⟩
    have hzl : zs.length = c * sz := by rw [hzz, List.length_take]; omega
    have hz1' : ∀ u ∈ zs, u.oneCell' = true := fun u hu => h1 u (by rw [hzz] at hu; exact hu)
    rw [← hzz]
    have hq : ∀ j u, zs[j]? = some u → w.cell? (q.add j) = some u := fun j u hj => by
      have hjl : j < zs.length := (List.getElem?_eq_some_iff.1 hj).1
      obtain ⟨ad, h, hc⟩ := g4 j u (by rw [hzz, List.getElem?_take_of_lt (by omega)] at hj; exact hj)
      cases h; exact hc
    have hrun := run_copyN (P := P) w dT sT ty e i0 hT.und hi g (k * sz) dLen dCap q m2 cap2 cur e zs hgg (by rw [hmin, hz1]; exact hzl) hq (by omega) hz1'
    have : (execOp ρ.eval ⟨d, .call { callee := .builtin .copy, args := #[x, y], argTypes := #[dT, sT] }, ty, pos, af, gd⟩).run P w = .ok (.value (goInt (Nat.min m2 dLen))) (w.setRow g (cur.toList.take (k * sz) ++ zs ++ cur.toList.drop (k * sz + zs.length)).toArray) := by
      simp only [execOp, resolve, invoke, builtin, Sem.run_bind, Sem.run_pure, Result.andThen_ok, List.map_toArray, List.map_cons, List.map_nil, hf.eval hx, hf.eval hy, hrun]
    unfold DoesW
    rw [this]
    have hg' : ownFp [rowN e sz (.slice (some ⟨g, 0, none⟩) m cap) m xs] g := ⟨_, List.mem_singleton.2 rfl, rfl, rfl⟩
    have hA : (cur.toList.take (k * sz)).length = k * sz := by rw [List.length_take]; simp; omega
    have hX : (xs.take (k * sz)).length = k * sz := by rw [List.length_take]; omega
    have hcl : cur.toList.length = cap * sz := by rw [Array.length_toList]; exact hcs
    rw [← hzl]
    refine ⟨_, rfl, .one (Mod.setRow hg' _ _) ⟨?_, .inr ⟨g, cap, _, rfl, hB, setRow_heap w g _ _ e (0, 0) hgg, hnc, hcm, ?_, ?_⟩⟩ fun k hk => .inr (by cases hk; exact hg')⟩
    · rw [List.length_append, List.length_append, hX, List.length_drop]; omega
    · simp only [List.size_toArray, List.length_append, hA, List.length_drop, hcl]
      omega
    · have e5 : cur.toList.take (k * sz) = xs.take (k * sz) := by rw [← ht, List.take_take]; congr 1; omega
      have e6 : (cur.toList.drop (k * sz + zs.length)).take (m * sz - (k * sz + zs.length)) = xs.drop (k * sz + zs.length) := by rw [← ht, List.drop_take]
      rw [List.toList_toArray, List.append_assoc, List.take_append, List.take_of_length_le (l := cur.toList.take (k * sz)) (by omega), List.take_append, hA, List.take_of_length_le (l := zs) (by omega), e5, List.append_assoc]
      congr 2
      rw [← e6]
      congr 1
      omega
/-- An append into what stands within the row. -/
theorem OpT.appIn {T e : TypeId} {sz : Nat} [hT : SliI P T e] [he : EltN P e sz] {x y : Operand} {g cap m k m2 : Nat} {v2 : Value} {xs ys : List Value} {Γf : List Asn} (hx : evF F x = some (.slice (some ⟨g, 0, none⟩) k cap)) (hy : evF F y = some v2) (hp : Takes Γ [rowN e sz (.slice (some ⟨g, 0, none⟩) m cap) m xs] Γf) (h2 : HasS Γ v2 m2 ys) (hm2 : ys.length = m2 * sz) (h1 : ∀ u ∈ ys, u.oneCell' = true) (hfit : k + m2 ≤ m) (hpos : 0 < m) :
    OpT P n Γ F ⟨d, .call { callee := .builtin .append, args := #[x, y], argTypes := #[T, T] }, ty, pos, af, gd⟩ [rowN e sz (.slice (some ⟨g, 0, none⟩) m cap) m xs] (RTurns (.slice (some ⟨g, 0, none⟩) (k + m2) cap) [rowN e sz (.slice (some ⟨g, 0, none⟩) m cap) m (xs.take (k * sz) ++ ys ++ xs.drop (k * sz + ys.length))]) := fun ρ w hf hw _ => by
  obtain ⟨i0, z, hi, hz0, hz1, hzs, hby, hsz⟩ := he.parts
  have hb : (rowN e sz (.slice (some ⟨g, 0, none⟩) m cap) m xs).holds w := hw _ (hp.mem_iff.2 (List.mem_cons_self ..))
  have hb0 := hb
  obtain ⟨a, cap2, hv2, g1, g2, g3, g4⟩ := (h2 w hw).at
  obtain ⟨h2', h3⟩ := hb
  have hxl : xs.length = m * sz := h2'
  have e3 : k * sz + m2 * sz ≤ m * sz := by rw [← Nat.add_mul]; exact Nat.mul_le_mul_right sz hfit
  rcases h3 with ⟨hv, _⟩ | ⟨g5, cap5, cur, hv, hB, hgg, hnc, hcm, hcs, ht⟩
  · cases hv
  cases hv
  have e2 : m * sz ≤ cap * sz := Nat.mul_le_mul_right sz hnc
  have hg' : ownFp [rowN e sz (.slice (some ⟨g, 0, none⟩) m cap) m xs] g := ⟨_, List.mem_singleton.2 rfl, rfl, rfl⟩
  cases a with
  | none =>
    have hc0 := g3 rfl
    have hm0 : m2 = 0 := by omega
    subst hm0 hc0 hv2
    have hy0 : ys = [] := List.length_eq_zero_iff.1 (by simpa using hm2)
    subst hy0
    have hk : k ≤ cap := by omega
    have hrun : (Builtin.append_ #[T, T] ty #[.slice (some ⟨g, 0, none⟩) k cap, .slice none 0 0]).run P w = .ok (.slice (some ⟨g, 0, none⟩) k cap) w := by
      simp [Builtin.append_, run_underlying hT.und, sizeOf, typeInfo, hi, Builtin.lenOf, hk, Builtin.firstCells, storeCells]
    have : (execOp ρ.eval ⟨d, .call { callee := .builtin .append, args := #[x, y], argTypes := #[T, T] }, ty, pos, af, gd⟩).run P w = .ok (.value (.slice (some ⟨g, 0, none⟩) k cap)) w := by
      simp only [execOp, resolve, invoke, builtin, Sem.run_bind, Sem.run_pure, Result.andThen_ok, List.map_toArray, List.map_cons, List.map_nil, hf.eval hx, hf.eval hy, hrun]
    unfold DoesW
    rw [this]
    have e : xs.take (k * sz) ++ [] ++ xs.drop (k * sz + ([] : List Value).length) = xs := by simp
    rw [e]
    exact ⟨_, ⟨rfl, rfl⟩, .one (Mod.refl _ _) hb0 fun g hg => .inr ⟨_, List.mem_singleton.2 rfl, rfl, hg⟩⟩
  | some q =>
    subst hv2
    have hq : ∀ j u, ys[j]? = some u → w.cell? (q.add j) = some u := fun j u hj => by
      obtain ⟨ad, h, hc⟩ := g4 j u hj
      cases h; exact hc
    have hrun := run_append_room (P := P) w T ty e i0 hT.und hi g k cap cur hgg q m2 cap2 ys (by rw [hz1]; exact hm2) hq h1 (by omega) (by rw [hz1]; omega)
    rw [hz1] at hrun
    have : (execOp ρ.eval ⟨d, .call { callee := .builtin .append, args := #[x, y], argTypes := #[T, T] }, ty, pos, af, gd⟩).run P w = .ok (.value (.slice (some ⟨g, 0, none⟩) (k + m2) cap)) (w.setRow g (cur.toList.take (k * sz) ++ ys ++ cur.toList.drop (k * sz + ys.length)).toArray) := by
      simp only [execOp, resolve, invoke, builtin, Sem.run_bind, Sem.run_pure, Result.andThen_ok, List.map_toArray, List.map_cons, List.map_nil, hf.eval hx, hf.eval hy, hrun]
    unfold DoesW
    rw [this]
    have hA : (cur.toList.take (k * sz)).length = k * sz := by rw [List.length_take]; simp; omega
    have hX : (xs.take (k * sz)).length = k * sz := by rw [List.length_take]; omega
    have hcl : cur.toList.length = cap * sz := by rw [Array.length_toList]; exact hcs
    refine ⟨_, ⟨rfl, rfl⟩, .one (Mod.setRow hg' _ _) ⟨?_, .inr ⟨g, cap, _, rfl, hB, setRow_heap w g _ _ e (0, 0) hgg, hnc, hcm, ?_, ?_⟩⟩ fun k hk => .inr (by cases hk; exact hg')⟩
    · rw [List.length_append, List.length_append, hX, List.length_drop]; omega
    · simp only [List.size_toArray, List.length_append, hA, List.length_drop, hcl]
      omega
    · have e5 : cur.toList.take (k * sz) = xs.take (k * sz) := by rw [← ht, List.take_take]; congr 1; omega
      have e6 : (cur.toList.drop (k * sz + ys.length)).take (m * sz - (k * sz + ys.length)) = xs.drop (k * sz + ys.length) := by rw [← ht, List.drop_take]
      rw [List.toList_toArray, List.append_assoc, List.take_append, List.take_of_length_le (l := cur.toList.take (k * sz)) (by omega), List.take_append, hA, List.take_of_length_le (l := ys) (by omega), e5, List.append_assoc]
      congr 2
      rw [← e6]
      congr 1
      omega
/-- Growth by so many elements of no value. -/
theorem OpT.appZ {T tn e : TypeId} {sz : Nat} [hT : SliI P T e] [he : EltN P e sz] {x y : Operand} {a : Addr} {k cap j : Nat} {ys : List Value} (htn : P.underlying tn = some (.int .i64)) (hx : evF F x = some (.slice (some a) k cap)) (hy : evF F y = some (.int .i64 (j : Int))) (h2 : HasS Γ (.slice (some a) k cap) k ys) (hm2 : ys.length = k * sz) (hj : 0 < j) (hcap : cap < k + j) (hk : k + j ≤ 1000000000) :
    OpT P n Γ F ⟨d, .call { callee := .builtin .append, args := #[x, y], argTypes := #[T, tn] }, ty, pos, af, gd⟩ [] (RRow e sz (k + j) (ys ++ clr P e j)) := fun ρ w hf hw _ => by
  obtain ⟨i0, z, hi, hz0, hz1, hzs, hby, hsz⟩ := he.parts
  have hq : ∀ i u, ys[i]? = some u → w.cell? (a.add i) = some u := fun i u hi' => by
    obtain ⟨a', cap', hv, _, _, _, g4⟩ := (h2 w hw).at
    cases hv
    obtain ⟨ad, h, hc⟩ := g4 i u hi'
    cases h; exact hc
  have hold : (Builtin.firstCells i0.size k (.slice (some a) k cap)).run P w.drew = .ok ys.toArray w.drew := run_firstCells_some (w := w.drew) (P := P) i0.size k a k cap ys (by rw [hz1]; exact hm2) hq
  have hcl : clr P e j = (Builtin.zeroCells z.cells j).toList := by unfold clr; rw [hi]; simp [hz0]
  have hlen : (clr P e j).length = j * sz := by rw [hcl]; simp [Builtin.zeroCells, hzs]
  have hb1 : j * i0.bytes ≤ 1000000000 * 512 := Nat.mul_le_mul (by omega) hby
  have hb2 : (k + j) * i0.bytes ≤ 1000000000 * 512 := Nat.mul_le_mul hk hby
  have hnx := growslice_fits (bytes := i0.bytes) hcap (by omega)
  have hrun := Lib.run_append_grow_zeros (P := P) w T tn ty e i0 z .i64 .i64 hT.und htn hi hz0 (some a) k cap ys hold j hj (by rw [hz1]; exact hsz) hcap (by omega) (by omega) hnx
  have : (execOp ρ.eval ⟨d, .call { callee := .builtin .append, args := #[x, y], argTypes := #[T, tn] }, ty, pos, af, gd⟩).run P w = .ok (.value (.slice (some ⟨w.heap.size, 0, none⟩) (k + j) (grownCap w (k + j) cap e))) (w.drew.alloc (.cells (ys.toArray ++ Builtin.zeroCells z.cells j ++ Builtin.zeroCells z.cells (grownCap w (k + j) cap e - (k + j))) e)) := by
    simp only [execOp, resolve, invoke, builtin, Sem.run_bind, Sem.run_pure, Result.andThen_ok, List.map_toArray, List.map_cons, List.map_nil, hf.eval hx, hf.eval hy, hrun]
  unfold DoesW
  rw [this]
  have hge := grownCap_ge w (k + j) cap e
  have hcm : grownCap w (k + j) cap e ≤ maxLen := grownCap_le_maxLen w (k + j) cap e (by unfold maxLen; omega)
  have h4 : w.grownBy (w.drew.alloc (.cells (ys.toArray ++ Builtin.zeroCells z.cells j ++ Builtin.zeroCells z.cells (grownCap w (k + j) cap e - (k + j))) e)) none := ⟨rfl, rfl, rfl, by simp, fun k hk _ => heap_alloc_old w.drew _ hk⟩
  refine ⟨_, ⟨rfl, rfl⟩, .one ⟨h4.os, h4.tape, h4.output, h4.size, h4.size, fun g hg hn => h4.block g hg (fun hh => by cases hh)⟩ ⟨?_, .inr ⟨w.heap.size, _, _, rfl, Nat.zero_le _, heap_alloc_new w.drew _, hge, hcm, ?_, ?_⟩⟩ fun g hg => .inl (by cases hg; exact Nat.le_refl _)⟩
  · rw [List.length_append, hm2, hlen, Nat.add_mul]
  · simp only [Array.size_append, List.size_toArray, size_zeroCells, hzs, hm2, ← Nat.add_mul]
    congr 1
    omega
  · rw [Array.toList_append, Array.toList_append, List.toList_toArray, ← hcl]
    have : (k + j) * sz = (ys ++ clr P e j).length := by rw [List.length_append, hm2, hlen, Nat.add_mul]
    rw [this]
    exact List.take_left
theorem ReadR.capV {x : Operand} {T : TypeId} {a : Option Addr} {l cap : Nat} (hT : ∃ e, P.underlying T = some (.slice e)) (hx : evF F x = some (.slice a l cap)) : ReadR P n Γ F ⟨d, .call { callee := .builtin .cap, args := #[x], argTypes := #[T] }, ty, pos, af, gd⟩ (.int .i64 (cap : Int)) := fun ρ w hf hw => by
  obtain ⟨e, hT⟩ := hT
  simp [execOp, resolve, invoke, builtin, Builtin.cap_, hf.eval hx, run_underlying hT, goInt]
theorem ReadR.sliceCap {T e : TypeId} {ag : Bool} {sz : Nat} [hT : SliI P T e] [he : TyI P e ag sz] {x hi : Operand} {a : Addr} {l cap j : Nat} {k2 : IntKind} (hx : evF F x = some (.slice (some a) l cap)) (hh : evF F hi = some (.int k2 (Int.ofNat j))) (hj : j ≤ cap) :
    ReadR P n Γ F ⟨d, .slice T x none (some hi) none, ty, pos, af, gd⟩ (.slice (some a) j cap) := fun ρ w hf hw => by
  have b1 : ∀ c, (Instr.sliceBound (.int k2 (Int.ofNat j)) cap c).run P w = .ok j w := fun c => run_bound hj
  simp only [execOp, hf.eval hx, hf.eval hh, Option.map_some, Option.map_none, Instr.sliceAt, Instr.slice, run_underlying hT.und, Sem.run_bind, Result.andThen_ok, Instr.sliceBounds, Sem.run_pure, if_true, b1, he.run_sizeOf, Option.isSome_none, Bool.false_eq_true, if_false]
  split <;> simp [Addr.add]
theorem ReadR.sliceLoV {T e : TypeId} {ag : Bool} {sz : Nat} [hT : SliI P T e] [he : TyI P e ag sz] {x lo : Operand} {g l cap i : Nat} {k1 : IntKind} (hx : evF F x = some (.slice (some ⟨g, 0, none⟩) l cap)) (hl : evF F lo = some (.int k1 (Int.ofNat i))) (hi : i ≤ l) (hc : i < cap) :
    ReadR P n Γ F ⟨d, .slice T x (some lo) none none, ty, pos, af, gd⟩ (.slice (some ⟨g, i * sz, none⟩) (l - i) (cap - i)) := fun ρ w hf hw => by
  have b2 : ∀ c, (Instr.sliceBound (.int k1 (Int.ofNat i)) l c).run P w = .ok i w := fun c => run_bound hi
  have hne : ¬ cap - i = 0 := by omega
  have hne2 : ¬ cap = i := by omega
  have ha : (⟨g, 0, none⟩ : Addr).add (i * sz) = ⟨g, i * sz, none⟩ := by
    unfold Addr.add
    split
    · rename_i h0; rw [h0]
    · simp
  simp only [execOp, hf.eval hx, hf.eval hl, Option.map_some, Option.map_none, Instr.sliceAt, Instr.slice, run_underlying hT.und, Sem.run_bind, Result.andThen_ok, Instr.sliceBounds, Sem.run_pure, if_true, b2, he.run_sizeOf, Option.isSome_none, Bool.false_eq_true, if_false]
  split <;> simp_all
theorem ReadR.sliceLHV {T e : TypeId} {ag : Bool} {sz : Nat} [hT : SliI P T e] [he : TyI P e ag sz] {x lo hi : Operand} {g l cap i j m : Nat} {k1 k2 : IntKind} (hx : evF F x = some (.slice (some ⟨g, 0, none⟩) l cap)) (hl : evF F lo = some (.int k1 (Int.ofNat i))) (hh : evF F hi = some (.int k2 (Int.ofNat j))) (hij : i ≤ j) (hj : j ≤ cap) :
    ReadR P n Γ F ⟨d, .slice T x (some lo) (some hi) none, ty, pos, af, gd⟩ (subv sz (.slice (some ⟨g, 0, none⟩) m cap) i (j - i)) := fun ρ w hf hw => by
  have b1 : ∀ c, (Instr.sliceBound (.int k2 (Int.ofNat j)) cap c).run P w = .ok j w := fun c => run_bound hj
  have b2 : ∀ c, (Instr.sliceBound (.int k1 (Int.ofNat i)) j c).run P w = .ok i w := fun c => run_bound hij
  simp only [execOp, hf.eval hx, hf.eval hl, hf.eval hh, Option.map_some, Option.map_none, Instr.sliceAt, Instr.slice, run_underlying hT.und, Sem.run_bind, Result.andThen_ok, Instr.sliceBounds, Sem.run_pure, if_true, b1, b2, he.run_sizeOf, Option.isSome_none, Bool.false_eq_true, if_false]
  simp only [subv]; split <;> simp
theorem ReadR.slice3V {T e : TypeId} {ag : Bool} {sz : Nat} [hT : SliI P T e] [he : TyI P e ag sz] {x lo hi mx : Operand} {g l cap i j m : Nat} {k1 k2 k3 : IntKind} (hx : evF F x = some (.slice (some ⟨g, 0, none⟩) l cap)) (hl : evF F lo = some (.int k1 (Int.ofNat i))) (hh : evF F hi = some (.int k2 (Int.ofNat j))) (hm : evF F mx = some (.int k3 (Int.ofNat m))) (hij : i ≤ j) (hj : j ≤ m) (hmc : m ≤ cap) :
    ReadR P n Γ F ⟨d, .slice T x (some lo) (some hi) (some mx), ty, pos, af, gd⟩ (.slice (some (if m = i then ⟨g, 0, none⟩ else (⟨g, 0, none⟩ : Addr).add (i * sz))) (j - i) (m - i)) := fun ρ w hf hw => by
  have b0 : ∀ c, (Instr.sliceBound (.int k3 (Int.ofNat m)) cap c).run P w = .ok m w := fun c => run_bound hmc
  have b1 : ∀ c, (Instr.sliceBound (.int k2 (Int.ofNat j)) m c).run P w = .ok j w := fun c => run_bound hj
  have b2 : ∀ c, (Instr.sliceBound (.int k1 (Int.ofNat i)) j c).run P w = .ok i w := fun c => run_bound hij
  simp only [execOp, hf.eval hx, hf.eval hl, hf.eval hh, hf.eval hm, Option.map_some, Option.map_none, Instr.sliceAt, Instr.slice, run_underlying hT.und, Sem.run_bind, Result.andThen_ok, Instr.sliceBounds, Sem.run_pure, if_true, b0, b1, b2, he.run_sizeOf, Option.isSome_some, Option.isSome_none, Bool.false_eq_true, if_false]
  split <;> simp_all
theorem ReadR.lenV {x : Operand} {T : TypeId} {a : Option Addr} {l cap : Nat} (hT : ∃ e, P.underlying T = some (.slice e)) (hx : evF F x = some (.slice a l cap)) : ReadR P n Γ F ⟨d, .call { callee := .builtin .len, args := #[x], argTypes := #[T] }, ty, pos, af, gd⟩ (.int .i64 (l : Int)) := fun ρ w hf hw => by
  obtain ⟨e, hT⟩ := hT
  simp [execOp, resolve, invoke, builtin, Builtin.len_, hf.eval hx, run_underlying hT, goInt]
theorem subv_0 {sz g m cap j : Nat} : subv sz (.slice (some ⟨g, 0, none⟩) m cap) 0 j = .slice (some ⟨g, 0, none⟩) j cap := by
  unfold subv
  simp [Addr.add]
theorem subv_k {sz g m cap k j : Nat} (h : cap ≠ k) : subv sz (.slice (some ⟨g, 0, none⟩) m cap) k j = .slice (some ⟨g, k * sz, none⟩) j (cap - k) := by
  show Value.slice (some (if cap = k then (⟨g, 0, none⟩ : Addr) else (⟨g, 0, none⟩ : Addr).add (k * sz))) j (cap - k) = _
  rw [if_neg h]
  unfold Addr.add
  split
  · rename_i h0; rw [h0]
  · simp
theorem WPl.copyN {dT sT e : TypeId} {sz d' : Nat} [hT : SliI P dT e] [he : EltN P e sz] {x y : Operand} {g cap m k dLen dCap m2 : Nat} {v2 : Value} {xs ys : List Value} {Γf : List Asn} (h2 : HasS Γ v2 m2 ys) (hm2 : ys.length = m2 * sz) (c : Nat) (h1 : ∀ u ∈ ys.take (c * sz), u.oneCell' = true) (hmin : Nat.min m2 dLen = c) (hfit : k + c ≤ m) (hpos : 0 < m2)
    (k0 : ∀ v, WPl P n W S (rowN e sz (.slice (some ⟨g, 0, none⟩) m cap) m (xs.take (k * sz) ++ ys.take (c * sz) ++ xs.drop (k * sz + c * sz)) :: Γf) ((d', v) :: F) ops os Q)
    (hx : evF F x = some (.slice (some ⟨g, k * sz, none⟩) dLen dCap)) (hy : evF F y = some v2 := by first | rfl | fail) (hp : Take Γ (rowN e sz (.slice (some ⟨g, 0, none⟩) m cap) m xs) Γf := by first | exact takeA | fail) (hlt : Nat.blt d' n = true := by first | rfl | fail) (hw : wantG F ops gd = some true := by first | rfl | fail) :
    WPl P n W S Γ F ops (⟨some d', .call { callee := .builtin .copy, args := #[x, y], argTypes := #[dT, sT] }, ty, pos, af, gd⟩ :: os) Q :=
  WPl.op (.cons hp .nil) hlt hw (OpT.copyN hx hy (.cons hp .nil) h2 hm2 c h1 hmin hfit hpos) (by rintro v Γ' rfl; exact k0 v)
theorem WPl.appZ {T tn e : TypeId} {sz d' : Nat} [hT : SliI P T e] [he : EltN P e sz] {x y : Operand} {a : Addr} {k cap j : Nat} {ys : List Value} (htn : P.underlying tn = some (.int .i64)) (h2 : HasS Γ (.slice (some a) k cap) k ys) (hm2 : ys.length = k * sz) (hj : 0 < j) (hcap : cap < k + j) (hk : k + j ≤ 1000000000)
    (k0 : ∀ v, v.oneCell' = true → WPl P n W S (rowN e sz v (k + j) (ys ++ clr P e j) :: Γ) ((d', v) :: F) ops os Q)
    (hx : evF F x = some (.slice (some a) k cap) := by first | rfl | fail) (hy : evF F y = some (.int .i64 (j : Int)) := by first | rfl | fail) (hlt : Nat.blt d' n = true := by first | rfl | fail) (hw : wantG F ops gd = some true := by first | rfl | fail) :
    WPl P n W S Γ F ops (⟨some d', .call { callee := .builtin .append, args := #[x, y], argTypes := #[T, tn] }, ty, pos, af, gd⟩ :: os) Q :=
  WPl.row .nil rfl hlt hw (OpT.appZ htn hx hy h2 hm2 hj hcap hk) k0
end
end Go.Proofs.Ytpjfkomicehinaa
