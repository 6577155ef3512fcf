/- What the row of natRewrites_holds needs: part 9. -/
import Derived.Test.YtjfhiifpnpokpaaNrw6
import Derived.Test.YtjfhiifpnpokpaaNrw8
import Derived.Test.YtjfhiifpnpokpaaNrw7
/- Reference of layer 16 (pkt): packets read: contracts. -/
namespace Go.Proofs.Ytjfhiifpnpokpaa
open Go.RowKit
set_option linter.unusedSimpArgs false
set_option linter.unusedVariables false
set_option maxRecDepth 20000
set_option maxHeartbeats 4000000
attribute [local irreducible] WPc WPl WPq ReadR OpT BinR HasS bx rdN rowN Take Takes Prov Triple ResF BuildP Done ag Int.decLt Int.decLe Int.instDecidableEq
attribute [local irreducible] phH phE sgR sgE xread xerr fread ferr
theorem rparse_t (v : Value) (b : List UInt8) (hl : b.length ≤ 100000) : Triple Try.prog 8 #[v] [rb v b] (RVal (pkVal b)) := by
  have hb0 := byteN_lt b 0
  have u0 : byteN b 0 = (b.getD 0 0).toNat := rfl
  have c4 := rf_t v b (by omega)
  have c6 := rx_t v b hl
  by_cases h0 : b.length = 0
  · have hE : phE b = 9 := by unfold phE; rw [if_pos h0]
    have hE2 : pkE b = 9 := by unfold pkE; rw [hE]; simp
    rw [show pkVal b = .tuple #[ag (pkc Pk.none), .int .i64 9] by unfold pkVal pkR; rw [hE2, if_neg (by omega)]]
    refine Triple.enter Try.func8 rfl Try.ntmps8 rfl (fun W => ?_)
    dsimp only [argsF, Nat.reduceAdd]
    repeat' (first
     | refine WPl.nil ?_ | refine WPq.then ?_ | refine WPq.thenR ?_ | refine WPq.thenE ?_ | refine WPq.blockN ?_ | refine WPq.blockR ?_ | refine WPq.blockE ?_ | refine WPq.blockO rfl ?_ | refine WPc.seq ?_ | refine WPc.block ?_ | refine WPc.ret ?_ | refine WPc.exit ?_ | refine WPc.skip ?_ | refine WPc.region ?_
     | (refine isReg 13 ?_; refine WPc.drA [([], [7, 51, 52, 53, 54]), ([], [7, 50, 52, 53]), ([], [7, 50, 51]), ([2], [7, 50, 51, 52]), ([1, 2, 3], [7, 50, 51, 52, 53]), ([0, 1, 2, 3, 4], [7, 50, 51, 52, 53, 54]), ([0, 1, 2, 3, 4, 5], [7, 50, 51, 52, 53, 54, 55]), ([0, 1, 2, 3, 4, 5, 6], [7, 49, 50, 51, 52, 53, 54, 55, 57]), ([0, 1, 2, 3, 4, 5, 6], [7, 49, 50, 51, 52, 53, 54, 55, 56]), ([], [49, 50, 51, 52, 53, 54, 55, 56, 57]), ([0, 1, 2, 3, 4, 5, 6, 7, 9], [7, 49, 50, 51, 52, 53, 54, 55, 56, 57]), ([0, 1, 2, 3, 4, 5, 6, 7, 8, 9, 10], [7, 49, 50, 51, 52, 53, 54, 55, 56, 57])] [(9, 10)] (Γx := []) ?_; dsimp only [prev0, List.length_nil, List.length_cons])
     | (refine gAny ?_; first | (refine gOp ?_; first | refine RGl.rdA ?_ | refine RGl.rdX (fun e hk => by (try dsimp only [bndR, ensR, oksR, fcutR, List.append_nil, List.nil_append, List.cons_append, List.append_assoc] at hk ⊢); exact readB) ?_) | (refine gAl ?_; refine RGl.nwA ?_) | (refine gSt ?_; refine RGl.stA ?_) | (refine RGl.fin (fun e hk => ?_); (try dsimp only [bndA, ensAR, oksA, List.append_nil, List.nil_append, List.cons_append, List.append_assoc] at hk ⊢); (repeat (obtain ⟨hk1, hk⟩ := hk))) | fail)
     | (refine isCond ?_; first | refine WPc.cT ?_ | refine WPc.cF ?_ | (refine WPc.cQ (fun hc => ?_) (fun hc => ?_) <;> try exact prA))
     | (refine isOp ?_; first | refine WPl.rd ?_ | refine WPl.sk ?_ | refine WPl.rdB ?_)
     | (refine isAl ?_; refine WPl.nw fun g => ?_)
     | (refine isSt ?_; first | refine WPl.st1 ?_ | refine WPl.stA ?_ | refine WPl.stEB ?_ | refine WPl.stRB ?_)
     | (show WPl _ _ _ _ _ _ _ (⟨_, .indexAddr _ _ _, _, _, _, _⟩ :: _) _; refine WPl.rdX (ReadR.indexE rfl rfl hasA (by first | assumption | omega)) ?_)
     | (show WPl _ _ _ _ _ _ _ (⟨_, .fieldAddr _ _ _, _, _, _, _⟩ :: _) _; refine WPl.rdX (ReadR.fieldE rfl hasA (by first | assumption | omega)) ?_)
     | (show WPl _ _ _ _ _ _ _ (⟨_, .load _ _, _, _, _, _⟩ :: _) _; first | refine WPl.rdX (ReadR.loadE rfl hasA (by assumption)) ?_ | refine WPl.rdX (ReadR.loadES (by assumption) (by first | assumption | omega) rfl hasA) ?_)
     | (show WPl _ _ _ _ _ _ _ (⟨_, .slice _ _ _ _ _, _, _, _, _⟩ :: _) _; first | refine WPl.rdX (ReadR.sliceH rfl rfl hasA (by omega)) ?_ | refine WPl.rdX (ReadR.sliceL rfl rfl hasA (by omega)) ?_ | refine WPl.rdX (ReadR.sliceLH rfl rfl rfl hasA (by omega) (by omega)) ?_)
     | (refine WPl.spQ (fun hc => ?_) (fun hc => ?_) <;> try exact prA)
     | fail)
    all_goals try (first | exact WPq.dTp | exact WPq.dTs | exact WPq.dV | exact WPq.dR | exact WPq.dR2 | exact WPq.dH | exact WPq.dBH | exact WPq.dT)
  · by_cases h4 : byteN b 0 / 16 = 4
    · have c1 : Triple Try.prog 18 #[v] [rb v b] (RVal (phVal b)) := by
        rw [show phVal b = fVal b by unfold phVal phH phE; rw [if_neg h0, if_neg h0, if_pos h4, if_pos h4]]
        exact c4
      simp only [phVal] at c1
      clear c4 c6
      by_cases he : phE b = 0
      · obtain ⟨p1, p2⟩ := phE_pos he
        have c2 := fun u => rsread_t (phH b) u (pkS b) (by unfold pkS; rw [seg_len]; omega)
        simp only [gVal] at c2
        have hE : pkE b = if (phH b).part then 13 else sgE (phH b) (pkS b) := by unfold pkE; rw [if_neg (by rw [he]; simp)]
        obtain ⟨k, hk⟩ : ∃ k : Nat, (phH b).pos = (k : Int) := ⟨(phH b).pos.toNat, by omega⟩
        have hS : pkS b = seg b k (b.length - k) := by unfold pkS; rw [hk]; rfl
        have hval : pkVal b = .tuple #[ag (pkc (if pkE b = 0 then pkOf (phH b) (sgR (phH b) (pkS b)) else Pk.none)), .int .i64 (pkE b)] := rfl
        rw [hval, hE]
        rw [he] at c1
        clear hval hE he
        obtain ⟨Y, hY⟩ : ∃ Y, Y = sgR (phH b) (pkS b) := ⟨_, rfl⟩
        obtain ⟨c, hc⟩ : ∃ c, c = sgE (phH b) (pkS b) := ⟨_, rfl⟩
        rw [← hY, ← hc] at c2 ⊢
        clear hY hc
        rw [hS] at c2
        clear hS
        obtain ⟨X, hX⟩ : ∃ X, X = phH b := ⟨_, rfl⟩
        rw [← hX] at c1 c2 hk p1 p2 ⊢
        clear hX
        obtain ⟨six, pr, pos, a1, a2, pt, hp⟩ := X
        dsimp only at hk p1 p2
        subst hk
        have k1 := a1.len
        have k2 := a2.len
        have hkb : k ≤ b.length := by omega
        cases pt with
        | true =>
          simp only [if_true]
          rw [if_neg (by omega)]
          refine Triple.enter Try.func8 rfl Try.ntmps8 rfl (fun W => ?_)
          dsimp only [argsF, Nat.reduceAdd]
          repeat' (first
           | refine WPl.nil ?_ | refine WPq.then ?_ | refine WPq.thenR ?_ | refine WPq.thenE ?_ | refine WPq.blockN ?_ | refine WPq.blockR ?_ | refine WPq.blockE ?_ | refine WPq.blockO rfl ?_ | refine WPc.seq ?_ | refine WPc.block ?_ | refine WPc.ret ?_ | refine WPc.exit ?_ | refine WPc.skip ?_ | refine WPc.region ?_
           | (refine isReg 13 ?_; refine WPc.drA [([], [7, 51, 52, 53, 54]), ([], [7, 50, 52, 53]), ([], [7, 50, 51]), ([2], [7, 50, 51, 52]), ([1, 2, 3], [7, 50, 51, 52, 53]), ([0, 1, 2, 3, 4], [7, 50, 51, 52, 53, 54]), ([0, 1, 2, 3, 4, 5], [7, 50, 51, 52, 53, 54, 55]), ([0, 1, 2, 3, 4, 5, 6], [7, 49, 50, 51, 52, 53, 54, 55, 57]), ([0, 1, 2, 3, 4, 5, 6], [7, 49, 50, 51, 52, 53, 54, 55, 56]), ([], [49, 50, 51, 52, 53, 54, 55, 56, 57]), ([0, 1, 2, 3, 4, 5, 6, 7, 9], [7, 49, 50, 51, 52, 53, 54, 55, 56, 57]), ([0, 1, 2, 3, 4, 5, 6, 7, 8, 9, 10], [7, 49, 50, 51, 52, 53, 54, 55, 56, 57])] [(9, 10)] (Γx := []) ?_; dsimp only [prev0, List.length_nil, List.length_cons])
           | (refine gAny ?_; first | (refine gC 29 ?_; refine RGl.vl (fun e hk => OpT.callN (c1)) ?_) | (refine gOp ?_; first | refine RGl.rdA ?_ | refine RGl.rdX (fun e hk => by (try dsimp only [bndR, ensR, oksR, fcutR, List.append_nil, List.nil_append, List.cons_append, List.append_assoc] at hk ⊢); exact readB) ?_) | (refine gAl ?_; refine RGl.nwA ?_) | (refine gSt ?_; refine RGl.stA ?_) | (refine RGl.fin (fun e hk => ?_); (try dsimp only [bndA, ensAR, oksA, List.append_nil, List.nil_append, List.cons_append, List.append_assoc] at hk ⊢); (repeat (obtain ⟨hk1, hk⟩ := hk))) | fail)
           | (refine isCond ?_; first | refine WPc.cT ?_ | refine WPc.cF ?_ | (refine WPc.cQ (fun hc => ?_) (fun hc => ?_) <;> try exact prA))
           | (refine isC 29 ?_; refine WPl.cV (c1) ?_)
           | (refine isOp ?_; first | refine WPl.rd ?_ | refine WPl.sk ?_ | refine WPl.rdB ?_)
           | (refine isAl ?_; refine WPl.nw fun g => ?_)
           | (refine isSt ?_; first | refine WPl.st1 ?_ | refine WPl.stA ?_ | refine WPl.stEB ?_ | refine WPl.stRB ?_)
           | (show WPl _ _ _ _ _ _ _ (⟨_, .indexAddr _ _ _, _, _, _, _⟩ :: _) _; refine WPl.rdX (ReadR.indexE rfl rfl hasA (by first | assumption | omega)) ?_)
           | (show WPl _ _ _ _ _ _ _ (⟨_, .fieldAddr _ _ _, _, _, _, _⟩ :: _) _; refine WPl.rdX (ReadR.fieldE rfl hasA (by first | assumption | omega)) ?_)
           | (show WPl _ _ _ _ _ _ _ (⟨_, .load _ _, _, _, _, _⟩ :: _) _; first | refine WPl.rdX (ReadR.loadE rfl hasA (by assumption)) ?_ | refine WPl.rdX (ReadR.loadES (by assumption) (by first | assumption | omega) rfl hasA) ?_)
           | (show WPl _ _ _ _ _ _ _ (⟨_, .slice _ _ _ _ _, _, _, _, _⟩ :: _) _; first | refine WPl.rdX (ReadR.sliceH rfl rfl hasA (by omega)) ?_ | refine WPl.rdX (ReadR.sliceL rfl rfl hasA (by omega)) ?_ | refine WPl.rdX (ReadR.sliceLH rfl rfl rfl hasA (by omega) (by omega)) ?_)
           | (refine WPl.spQ (fun hc => ?_) (fun hc => ?_) <;> try exact prA)
           | fail)
          all_goals try (first | exact WPq.dTp | exact WPq.dTs | exact WPq.dV | exact WPq.dR | exact WPq.dR2 | exact WPq.dH | exact WPq.dBH | exact WPq.dT)
        | false =>
          simp only [Bool.false_eq_true, if_false]
          by_cases hc0 : c = 0
          · rw [if_pos hc0]
            subst hc0
            refine Triple.enter Try.func8 rfl Try.ntmps8 rfl (fun W => ?_)
            dsimp only [argsF, Nat.reduceAdd]
            repeat' (first
             | refine WPl.nil ?_ | refine WPq.then ?_ | refine WPq.thenR ?_ | refine WPq.thenE ?_ | refine WPq.blockN ?_ | refine WPq.blockR ?_ | refine WPq.blockE ?_ | refine WPq.blockO rfl ?_ | refine WPc.seq ?_ | refine WPc.block ?_ | refine WPc.ret ?_ | refine WPc.exit ?_ | refine WPc.skip ?_ | refine WPc.region ?_
             | (refine isReg 13 ?_; refine WPc.drA [([], [7, 51, 52, 53, 54]), ([], [7, 50, 52, 53]), ([], [7, 50, 51]), ([2], [7, 50, 51, 52]), ([1, 2, 3], [7, 50, 51, 52, 53]), ([0, 1, 2, 3, 4], [7, 50, 51, 52, 53, 54]), ([0, 1, 2, 3, 4, 5], [7, 50, 51, 52, 53, 54, 55]), ([0, 1, 2, 3, 4, 5, 6], [7, 49, 50, 51, 52, 53, 54, 55, 57]), ([0, 1, 2, 3, 4, 5, 6], [7, 49, 50, 51, 52, 53, 54, 55, 56]), ([], [49, 50, 51, 52, 53, 54, 55, 56, 57]), ([0, 1, 2, 3, 4, 5, 6, 7, 9], [7, 49, 50, 51, 52, 53, 54, 55, 56, 57]), ([0, 1, 2, 3, 4, 5, 6, 7, 8, 9, 10], [7, 49, 50, 51, 52, 53, 54, 55, 56, 57])] [(9, 10)] (Γx := []) ?_; dsimp only [prev0, List.length_nil, List.length_cons])
             | (refine gAny ?_; first | (refine gC 29 ?_; refine RGl.vl (fun e hk => OpT.callN (c1)) ?_) | (refine gC 55 ?_; refine RGl.vl (fun e hk => OpT.callN (c2 (subv 1 v k (b.length - k)))) ?_) | (refine gD 75 ?_; refine RGl.rdX (fun e hk => by (try dsimp only [bndR, ensR, oksR, fcutR, List.append_nil, List.nil_append, List.cons_append, List.append_assoc] at hk ⊢); exact ReadR.build (cs' := pkc (pkOf ⟨six, pr, (k : Int), a1, a2, false, hp⟩ Y)) buildA) ?_) | (refine gOp ?_; first | refine RGl.rdA ?_ | refine RGl.rdX (fun e hk => by (try dsimp only [bndR, ensR, oksR, fcutR, List.append_nil, List.nil_append, List.cons_append, List.append_assoc] at hk ⊢); exact readB) ?_) | (refine gAl ?_; refine RGl.nwA ?_) | (refine gSt ?_; refine RGl.stA ?_) | (refine RGl.fin (fun e hk => ?_); (try dsimp only [bndA, ensAR, oksA, List.append_nil, List.nil_append, List.cons_append, List.append_assoc] at hk ⊢); (repeat (obtain ⟨hk1, hk⟩ := hk))) | fail)
             | (refine isCond ?_; first | refine WPc.cT ?_ | refine WPc.cF ?_ | (refine WPc.cQ (fun hc => ?_) (fun hc => ?_) <;> try exact prA))
             | (refine isC 29 ?_; refine WPl.cV (c1) ?_)
             | (refine isC 55 ?_; refine WPl.cV (c2 (subv 1 v k (b.length - k))) ?_)
             | (refine isD 75 ?_; refine WPl.rdX (ReadR.build (cs' := pkc (pkOf ⟨six, pr, (k : Int), a1, a2, false, hp⟩ Y)) buildA) ?_)
             | (show WPl _ _ _ _ _ _ _ (⟨_, .store 39 (.tmp 2) _, _, _, _, _⟩ :: _) _; refine WPl.stA (new := pkc (pkOf ⟨six, pr, (k : Int), a1, a2, false, hp⟩ Y)) ?_ (ht := by kernel_rfl))
             | (refine isOp ?_; first | refine WPl.rd ?_ | refine WPl.sk ?_ | refine WPl.rdB ?_)
             | (refine isAl ?_; refine WPl.nw fun g => ?_)
             | (refine isSt ?_; first | refine WPl.st1 ?_ | refine WPl.stA ?_ | refine WPl.stEB ?_ | refine WPl.stRB ?_)
             | (show WPl _ _ _ _ _ _ _ (⟨_, .indexAddr _ _ _, _, _, _, _⟩ :: _) _; refine WPl.rdX (ReadR.indexE rfl rfl hasA (by first | assumption | omega)) ?_)
             | (show WPl _ _ _ _ _ _ _ (⟨_, .fieldAddr _ _ _, _, _, _, _⟩ :: _) _; refine WPl.rdX (ReadR.fieldE rfl hasA (by first | assumption | omega)) ?_)
             | (show WPl _ _ _ _ _ _ _ (⟨_, .load _ _, _, _, _, _⟩ :: _) _; first | refine WPl.rdX (ReadR.loadE rfl hasA (by assumption)) ?_ | refine WPl.rdX (ReadR.loadES (by assumption) (by first | assumption | omega) rfl hasA) ?_)
             | (show WPl _ _ _ _ _ _ _ (⟨_, .slice _ _ _ _ _, _, _, _, _⟩ :: _) _; first | refine WPl.rdX (ReadR.sliceH rfl rfl hasA (by omega)) ?_ | refine WPl.rdX (ReadR.sliceL rfl rfl hasA (by omega)) ?_ | refine WPl.rdX (ReadR.sliceLH rfl rfl rfl hasA (by omega) (by omega)) ?_)
             | (refine WPl.spQ (fun hc => ?_) (fun hc => ?_) <;> try exact prA)
             | fail)
            all_goals try (first | exact WPq.dTp | exact WPq.dTs | exact WPq.dV | exact WPq.dR | exact WPq.dR2 | exact WPq.dH | exact WPq.dBH | exact WPq.dT)
          · rw [if_neg hc0]
            refine Triple.enter Try.func8 rfl Try.ntmps8 rfl (fun W => ?_)
            dsimp only [argsF, Nat.reduceAdd]
            repeat' (first
             | refine WPl.nil ?_ | refine WPq.then ?_ | refine WPq.thenR ?_ | refine WPq.thenE ?_ | refine WPq.blockN ?_ | refine WPq.blockR ?_ | refine WPq.blockE ?_ | refine WPq.blockO rfl ?_ | refine WPc.seq ?_ | refine WPc.block ?_ | refine WPc.ret ?_ | refine WPc.exit ?_ | refine WPc.skip ?_ | refine WPc.region ?_
             | (refine isReg 13 ?_; refine WPc.drA [([], [7, 51, 52, 53, 54]), ([], [7, 50, 52, 53]), ([], [7, 50, 51]), ([2], [7, 50, 51, 52]), ([1, 2, 3], [7, 50, 51, 52, 53]), ([0, 1, 2, 3, 4], [7, 50, 51, 52, 53, 54]), ([0, 1, 2, 3, 4, 5], [7, 50, 51, 52, 53, 54, 55]), ([0, 1, 2, 3, 4, 5, 6], [7, 49, 50, 51, 52, 53, 54, 55, 57]), ([0, 1, 2, 3, 4, 5, 6], [7, 49, 50, 51, 52, 53, 54, 55, 56]), ([], [49, 50, 51, 52, 53, 54, 55, 56, 57]), ([0, 1, 2, 3, 4, 5, 6, 7, 9], [7, 49, 50, 51, 52, 53, 54, 55, 56, 57]), ([0, 1, 2, 3, 4, 5, 6, 7, 8, 9, 10], [7, 49, 50, 51, 52, 53, 54, 55, 56, 57])] [(9, 10)] (Γx := []) ?_; dsimp only [prev0, List.length_nil, List.length_cons])
             | (refine gAny ?_; first | (refine gC 29 ?_; refine RGl.vl (fun e hk => OpT.callN (c1)) ?_) | (refine gC 55 ?_; refine RGl.vl (fun e hk => OpT.callN (c2 (subv 1 v k (b.length - k)))) ?_) | (refine gOp ?_; first | refine RGl.rdA ?_ | refine RGl.rdX (fun e hk => by (try dsimp only [bndR, ensR, oksR, fcutR, List.append_nil, List.nil_append, List.cons_append, List.append_assoc] at hk ⊢); exact readB) ?_) | (refine gAl ?_; refine RGl.nwA ?_) | (refine gSt ?_; refine RGl.stA ?_) | (refine RGl.fin (fun e hk => ?_); (try dsimp only [bndA, ensAR, oksA, List.append_nil, List.nil_append, List.cons_append, List.append_assoc] at hk ⊢); (repeat (obtain ⟨hk1, hk⟩ := hk))) | fail)
             | (refine isCond ?_; first | refine WPc.cT ?_ | refine WPc.cF ?_ | (refine WPc.cQ (fun hc => ?_) (fun hc => ?_) <;> try exact prA))
             | (refine isC 29 ?_; refine WPl.cV (c1) ?_)
             | (refine isC 55 ?_; refine WPl.cV (c2 (subv 1 v k (b.length - k))) ?_)
             | (refine isOp ?_; first | refine WPl.rd ?_ | refine WPl.sk ?_ | refine WPl.rdB ?_)
             | (refine isAl ?_; refine WPl.nw fun g => ?_)
             | (refine isSt ?_; first | refine WPl.st1 ?_ | refine WPl.stA ?_ | refine WPl.stEB ?_ | refine WPl.stRB ?_)
             | (show WPl _ _ _ _ _ _ _ (⟨_, .indexAddr _ _ _, _, _, _, _⟩ :: _) _; refine WPl.rdX (ReadR.indexE rfl rfl hasA (by first | assumption | omega)) ?_)
             | (show WPl _ _ _ _ _ _ _ (⟨_, .fieldAddr _ _ _, _, _, _, _⟩ :: _) _; refine WPl.rdX (ReadR.fieldE rfl hasA (by first | assumption | omega)) ?_)
             | (show WPl _ _ _ _ _ _ _ (⟨_, .load _ _, _, _, _, _⟩ :: _) _; first | refine WPl.rdX (ReadR.loadE rfl hasA (by assumption)) ?_ | refine WPl.rdX (ReadR.loadES (by assumption) (by first | assumption | omega) rfl hasA) ?_)
             | (show WPl _ _ _ _ _ _ _ (⟨_, .slice _ _ _ _ _, _, _, _, _⟩ :: _) _; first | refine WPl.rdX (ReadR.sliceH rfl rfl hasA (by omega)) ?_ | refine WPl.rdX (ReadR.sliceL rfl rfl hasA (by omega)) ?_ | refine WPl.rdX (ReadR.sliceLH rfl rfl rfl hasA (by omega) (by omega)) ?_)
             | (refine WPl.spQ (fun hc => ?_) (fun hc => ?_) <;> try exact prA)
             | fail)
            all_goals try (first | exact WPq.dTp | exact WPq.dTs | exact WPq.dV | exact WPq.dR | exact WPq.dR2 | exact WPq.dH | exact WPq.dBH | exact WPq.dT)
      · have hE : pkE b = phE b := by unfold pkE; rw [if_pos he]
        rw [show pkVal b = .tuple #[ag (pkc Pk.none), .int .i64 (phE b)] by unfold pkVal pkR; rw [hE, if_neg he]]
        obtain ⟨X, hX⟩ : ∃ X, X = phH b := ⟨_, rfl⟩
        obtain ⟨c, hc⟩ : ∃ c, c = phE b := ⟨_, rfl⟩
        rw [← hc] at he
        rw [← hX, ← hc] at c1
        rw [← hc]
        clear hX hc hE
        have k1 := X.src.len
        have k2 := X.dst.len
        refine Triple.enter Try.func8 rfl Try.ntmps8 rfl (fun W => ?_)
        dsimp only [argsF, Nat.reduceAdd]
        repeat' (first
         | refine WPl.nil ?_ | refine WPq.then ?_ | refine WPq.thenR ?_ | refine WPq.thenE ?_ | refine WPq.blockN ?_ | refine WPq.blockR ?_ | refine WPq.blockE ?_ | refine WPq.blockO rfl ?_ | refine WPc.seq ?_ | refine WPc.block ?_ | refine WPc.ret ?_ | refine WPc.exit ?_ | refine WPc.skip ?_ | refine WPc.region ?_
         | (refine isReg 13 ?_; refine WPc.drA [([], [7, 51, 52, 53, 54]), ([], [7, 50, 52, 53]), ([], [7, 50, 51]), ([2], [7, 50, 51, 52]), ([1, 2, 3], [7, 50, 51, 52, 53]), ([0, 1, 2, 3, 4], [7, 50, 51, 52, 53, 54]), ([0, 1, 2, 3, 4, 5], [7, 50, 51, 52, 53, 54, 55]), ([0, 1, 2, 3, 4, 5, 6], [7, 49, 50, 51, 52, 53, 54, 55, 57]), ([0, 1, 2, 3, 4, 5, 6], [7, 49, 50, 51, 52, 53, 54, 55, 56]), ([], [49, 50, 51, 52, 53, 54, 55, 56, 57]), ([0, 1, 2, 3, 4, 5, 6, 7, 9], [7, 49, 50, 51, 52, 53, 54, 55, 56, 57]), ([0, 1, 2, 3, 4, 5, 6, 7, 8, 9, 10], [7, 49, 50, 51, 52, 53, 54, 55, 56, 57])] [(9, 10)] (Γx := []) ?_; dsimp only [prev0, List.length_nil, List.length_cons])
         | (refine gAny ?_; first | (refine gC 29 ?_; refine RGl.vl (fun e hk => OpT.callN (c1)) ?_) | (refine gOp ?_; first | refine RGl.rdA ?_ | refine RGl.rdX (fun e hk => by (try dsimp only [bndR, ensR, oksR, fcutR, List.append_nil, List.nil_append, List.cons_append, List.append_assoc] at hk ⊢); exact readB) ?_) | (refine gAl ?_; refine RGl.nwA ?_) | (refine gSt ?_; refine RGl.stA ?_) | (refine RGl.fin (fun e hk => ?_); (try dsimp only [bndA, ensAR, oksA, List.append_nil, List.nil_append, List.cons_append, List.append_assoc] at hk ⊢); (repeat (obtain ⟨hk1, hk⟩ := hk))) | fail)
         | (refine isCond ?_; first | refine WPc.cT ?_ | refine WPc.cF ?_ | (refine WPc.cQ (fun hc => ?_) (fun hc => ?_) <;> try exact prA))
         | (refine isC 29 ?_; refine WPl.cV (c1) ?_)
         | (refine isOp ?_; first | refine WPl.rd ?_ | refine WPl.sk ?_ | refine WPl.rdB ?_)
         | (refine isAl ?_; refine WPl.nw fun g => ?_)
         | (refine isSt ?_; first | refine WPl.st1 ?_ | refine WPl.stA ?_ | refine WPl.stEB ?_ | refine WPl.stRB ?_)
         | (show WPl _ _ _ _ _ _ _ (⟨_, .indexAddr _ _ _, _, _, _, _⟩ :: _) _; refine WPl.rdX (ReadR.indexE rfl rfl hasA (by first | assumption | omega)) ?_)
         | (show WPl _ _ _ _ _ _ _ (⟨_, .fieldAddr _ _ _, _, _, _, _⟩ :: _) _; refine WPl.rdX (ReadR.fieldE rfl hasA (by first | assumption | omega)) ?_)
         | (show WPl _ _ _ _ _ _ _ (⟨_, .load _ _, _, _, _, _⟩ :: _) _; first | refine WPl.rdX (ReadR.loadE rfl hasA (by assumption)) ?_ | refine WPl.rdX (ReadR.loadES (by assumption) (by first | assumption | omega) rfl hasA) ?_)
         | (show WPl _ _ _ _ _ _ _ (⟨_, .slice _ _ _ _ _, _, _, _, _⟩ :: _) _; first | refine WPl.rdX (ReadR.sliceH rfl rfl hasA (by omega)) ?_ | refine WPl.rdX (ReadR.sliceL rfl rfl hasA (by omega)) ?_ | refine WPl.rdX (ReadR.sliceLH rfl rfl rfl hasA (by omega) (by omega)) ?_)
         | (refine WPl.spQ (fun hc => ?_) (fun hc => ?_) <;> try exact prA)
         | fail)
        all_goals try (first | exact WPq.dTp | exact WPq.dTs | exact WPq.dV | exact WPq.dR | exact WPq.dR2 | exact WPq.dH | exact WPq.dBH | exact WPq.dT)
    · by_cases h6 : byteN b 0 / 16 = 6
      · have c1 : Triple Try.prog 19 #[v] [rb v b] (RVal (phVal b)) := by
          rw [show phVal b = sVal b by unfold phVal phH phE; rw [if_neg h0, if_neg h0, if_neg h4, if_neg h4, if_pos h6, if_pos h6]]
          exact c6
        simp only [phVal] at c1
        simp only [fVal] at c4
        generalize fread b = X0 at c4
        generalize ferr b = e0 at c4
        have k01 := X0.src.len
        have k02 := X0.dst.len
        clear c6
        by_cases he : phE b = 0
        · obtain ⟨p1, p2⟩ := phE_pos he
          have c2 := fun u => rsread_t (phH b) u (pkS b) (by unfold pkS; rw [seg_len]; omega)
          simp only [gVal] at c2
          have hE : pkE b = if (phH b).part then 13 else sgE (phH b) (pkS b) := by unfold pkE; rw [if_neg (by rw [he]; simp)]
          obtain ⟨k, hk⟩ : ∃ k : Nat, (phH b).pos = (k : Int) := ⟨(phH b).pos.toNat, by omega⟩
          have hS : pkS b = seg b k (b.length - k) := by unfold pkS; rw [hk]; rfl
          have hval : pkVal b = .tuple #[ag (pkc (if pkE b = 0 then pkOf (phH b) (sgR (phH b) (pkS b)) else Pk.none)), .int .i64 (pkE b)] := rfl
          rw [hval, hE]
          rw [he] at c1
          clear hval hE he
          obtain ⟨Y, hY⟩ : ∃ Y, Y = sgR (phH b) (pkS b) := ⟨_, rfl⟩
          obtain ⟨c, hc⟩ : ∃ c, c = sgE (phH b) (pkS b) := ⟨_, rfl⟩
          rw [← hY, ← hc] at c2 ⊢
          clear hY hc
          rw [hS] at c2
          clear hS
          obtain ⟨X, hX⟩ : ∃ X, X = phH b := ⟨_, rfl⟩
          rw [← hX] at c1 c2 hk p1 p2 ⊢
          clear hX
          obtain ⟨six, pr, pos, a1, a2, pt, hp⟩ := X
          dsimp only at hk p1 p2
          subst hk
          have k1 := a1.len
          have k2 := a2.len
          have hkb : k ≤ b.length := by omega
          cases pt with
          | true =>
            simp only [if_true]
            rw [if_neg (by omega)]
            refine Triple.enter Try.func8 rfl Try.ntmps8 rfl (fun W => ?_)
            dsimp only [argsF, Nat.reduceAdd]
            repeat' (first
             | refine WPl.nil ?_ | refine WPq.then ?_ | refine WPq.thenR ?_ | refine WPq.thenE ?_ | refine WPq.blockN ?_ | refine WPq.blockR ?_ | refine WPq.blockE ?_ | refine WPq.blockO rfl ?_ | refine WPc.seq ?_ | refine WPc.block ?_ | refine WPc.ret ?_ | refine WPc.exit ?_ | refine WPc.skip ?_ | refine WPc.region ?_
             | (refine isReg 13 ?_; refine WPc.drA [([], [7, 51, 52, 53, 54]), ([], [7, 50, 52, 53]), ([], [7, 50, 51]), ([2], [7, 50, 51, 52]), ([1, 2, 3], [7, 50, 51, 52, 53]), ([0, 1, 2, 3, 4], [7, 50, 51, 52, 53, 54]), ([0, 1, 2, 3, 4, 5], [7, 50, 51, 52, 53, 54, 55]), ([0, 1, 2, 3, 4, 5, 6], [7, 49, 50, 51, 52, 53, 54, 55, 57]), ([0, 1, 2, 3, 4, 5, 6], [7, 49, 50, 51, 52, 53, 54, 55, 56]), ([], [49, 50, 51, 52, 53, 54, 55, 56, 57]), ([0, 1, 2, 3, 4, 5, 6, 7, 9], [7, 49, 50, 51, 52, 53, 54, 55, 56, 57]), ([0, 1, 2, 3, 4, 5, 6, 7, 8, 9, 10], [7, 49, 50, 51, 52, 53, 54, 55, 56, 57])] [(9, 10)] (Γx := []) ?_; dsimp only [prev0, List.length_nil, List.length_cons])
             | (refine gAny ?_; first | (refine gC 29 ?_; refine RGl.vl (fun e hk => OpT.callN (c4)) ?_) | (refine gC 39 ?_; refine RGl.vl (fun e hk => OpT.callN (c1)) ?_) | (refine gOp ?_; first | refine RGl.rdA ?_ | refine RGl.rdX (fun e hk => by (try dsimp only [bndR, ensR, oksR, fcutR, List.append_nil, List.nil_append, List.cons_append, List.append_assoc] at hk ⊢); exact readB) ?_) | (refine gAl ?_; refine RGl.nwA ?_) | (refine gSt ?_; refine RGl.stA ?_) | (refine RGl.fin (fun e hk => ?_); (try dsimp only [bndA, ensAR, oksA, List.append_nil, List.nil_append, List.cons_append, List.append_assoc] at hk ⊢); (repeat (obtain ⟨hk1, hk⟩ := hk))) | fail)
             | (refine isCond ?_; first | refine WPc.cT ?_ | refine WPc.cF ?_ | (refine WPc.cQ (fun hc => ?_) (fun hc => ?_) <;> try exact prA))
             | (refine isC 29 ?_; refine WPl.cV (c4) ?_)
             | (refine isC 39 ?_; refine WPl.cV (c1) ?_)
             | (refine isOp ?_; first | refine WPl.rd ?_ | refine WPl.sk ?_ | refine WPl.rdB ?_)
             | (refine isAl ?_; refine WPl.nw fun g => ?_)
             | (refine isSt ?_; first | refine WPl.st1 ?_ | refine WPl.stA ?_ | refine WPl.stEB ?_ | refine WPl.stRB ?_)
             | (show WPl _ _ _ _ _ _ _ (⟨_, .indexAddr _ _ _, _, _, _, _⟩ :: _) _; refine WPl.rdX (ReadR.indexE rfl rfl hasA (by first | assumption | omega)) ?_)
             | (show WPl _ _ _ _ _ _ _ (⟨_, .fieldAddr _ _ _, _, _, _, _⟩ :: _) _; refine WPl.rdX (ReadR.fieldE rfl hasA (by first | assumption | omega)) ?_)
             | (show WPl _ _ _ _ _ _ _ (⟨_, .load _ _, _, _, _, _⟩ :: _) _; first | refine WPl.rdX (ReadR.loadE rfl hasA (by assumption)) ?_ | refine WPl.rdX (ReadR.loadES (by assumption) (by first | assumption | omega) rfl hasA) ?_)
             | (show WPl _ _ _ _ _ _ _ (⟨_, .slice _ _ _ _ _, _, _, _, _⟩ :: _) _; first | refine WPl.rdX (ReadR.sliceH rfl rfl hasA (by omega)) ?_ | refine WPl.rdX (ReadR.sliceL rfl rfl hasA (by omega)) ?_ | refine WPl.rdX (ReadR.sliceLH rfl rfl rfl hasA (by omega) (by omega)) ?_)
             | (refine WPl.spQ (fun hc => ?_) (fun hc => ?_) <;> try exact prA)
             | fail)
            all_goals try (first | exact WPq.dTp | exact WPq.dTs | exact WPq.dV | exact WPq.dR | exact WPq.dR2 | exact WPq.dH | exact WPq.dBH | exact WPq.dT)
          | false =>
            simp only [Bool.false_eq_true, if_false]
            by_cases hc0 : c = 0
            · rw [if_pos hc0]
              subst hc0
              refine Triple.enter Try.func8 rfl Try.ntmps8 rfl (fun W => ?_)
              dsimp only [argsF, Nat.reduceAdd]
              repeat' (first
               | refine WPl.nil ?_ | refine WPq.then ?_ | refine WPq.thenR ?_ | refine WPq.thenE ?_ | refine WPq.blockN ?_ | refine WPq.blockR ?_ | refine WPq.blockE ?_ | refine WPq.blockO rfl ?_ | refine WPc.seq ?_ | refine WPc.block ?_ | refine WPc.ret ?_ | refine WPc.exit ?_ | refine WPc.skip ?_ | refine WPc.region ?_
               | (refine isReg 13 ?_; refine WPc.drA [([], [7, 51, 52, 53, 54]), ([], [7, 50, 52, 53]), ([], [7, 50, 51]), ([2], [7, 50, 51, 52]), ([1, 2, 3], [7, 50, 51, 52, 53]), ([0, 1, 2, 3, 4], [7, 50, 51, 52, 53, 54]), ([0, 1, 2, 3, 4, 5], [7, 50, 51, 52, 53, 54, 55]), ([0, 1, 2, 3, 4, 5, 6], [7, 49, 50, 51, 52, 53, 54, 55, 57]), ([0, 1, 2, 3, 4, 5, 6], [7, 49, 50, 51, 52, 53, 54, 55, 56]), ([], [49, 50, 51, 52, 53, 54, 55, 56, 57]), ([0, 1, 2, 3, 4, 5, 6, 7, 9], [7, 49, 50, 51, 52, 53, 54, 55, 56, 57]), ([0, 1, 2, 3, 4, 5, 6, 7, 8, 9, 10], [7, 49, 50, 51, 52, 53, 54, 55, 56, 57])] [(9, 10)] (Γx := []) ?_; dsimp only [prev0, List.length_nil, List.length_cons])
               | (refine gAny ?_; first | (refine gC 29 ?_; refine RGl.vl (fun e hk => OpT.callN (c4)) ?_) | (refine gC 39 ?_; refine RGl.vl (fun e hk => OpT.callN (c1)) ?_) | (refine gC 55 ?_; refine RGl.vl (fun e hk => OpT.callN (c2 (subv 1 v k (b.length - k)))) ?_) | (refine gD 75 ?_; refine RGl.rdX (fun e hk => by (try dsimp only [bndR, ensR, oksR, fcutR, List.append_nil, List.nil_append, List.cons_append, List.append_assoc] at hk ⊢); exact ReadR.build (cs' := pkc (pkOf ⟨six, pr, (k : Int), a1, a2, false, hp⟩ Y)) buildA) ?_) | (refine gOp ?_; first | refine RGl.rdA ?_ | refine RGl.rdX (fun e hk => by (try dsimp only [bndR, ensR, oksR, fcutR, List.append_nil, List.nil_append, List.cons_append, List.append_assoc] at hk ⊢); exact readB) ?_) | (refine gAl ?_; refine RGl.nwA ?_) | (refine gSt ?_; refine RGl.stA ?_) | (refine RGl.fin (fun e hk => ?_); (try dsimp only [bndA, ensAR, oksA, List.append_nil, List.nil_append, List.cons_append, List.append_assoc] at hk ⊢); (repeat (obtain ⟨hk1, hk⟩ := hk))) | fail)
               | (refine isCond ?_; first | refine WPc.cT ?_ | refine WPc.cF ?_ | (refine WPc.cQ (fun hc => ?_) (fun hc => ?_) <;> try exact prA))
               | (refine isC 29 ?_; refine WPl.cV (c4) ?_)
               | (refine isC 39 ?_; refine WPl.cV (c1) ?_)
               | (refine isC 55 ?_; refine WPl.cV (c2 (subv 1 v k (b.length - k))) ?_)
               | (refine isD 75 ?_; refine WPl.rdX (ReadR.build (cs' := pkc (pkOf ⟨six, pr, (k : Int), a1, a2, false, hp⟩ Y)) buildA) ?_)
               | (show WPl _ _ _ _ _ _ _ (⟨_, .store 39 (.tmp 2) _, _, _, _, _⟩ :: _) _; refine WPl.stA (new := pkc (pkOf ⟨six, pr, (k : Int), a1, a2, false, hp⟩ Y)) ?_ (ht := by kernel_rfl))
               | (refine isOp ?_; first | refine WPl.rd ?_ | refine WPl.sk ?_ | refine WPl.rdB ?_)
               | (refine isAl ?_; refine WPl.nw fun g => ?_)
               | (refine isSt ?_; first | refine WPl.st1 ?_ | refine WPl.stA ?_ | refine WPl.stEB ?_ | refine WPl.stRB ?_)
               | (show WPl _ _ _ _ _ _ _ (⟨_, .indexAddr _ _ _, _, _, _, _⟩ :: _) _; refine WPl.rdX (ReadR.indexE rfl rfl hasA (by first | assumption | omega)) ?_)
               | (show WPl _ _ _ _ _ _ _ (⟨_, .fieldAddr _ _ _, _, _, _, _⟩ :: _) _; refine WPl.rdX (ReadR.fieldE rfl hasA (by first | assumption | omega)) ?_)
               | (show WPl _ _ _ _ _ _ _ (⟨_, .load _ _, _, _, _, _⟩ :: _) _; first | refine WPl.rdX (ReadR.loadE rfl hasA (by assumption)) ?_ | refine WPl.rdX (ReadR.loadES (by assumption) (by first | assumption | omega) rfl hasA) ?_)
               | (show WPl _ _ _ _ _ _ _ (⟨_, .slice _ _ _ _ _, _, _, _, _⟩ :: _) _; first | refine WPl.rdX (ReadR.sliceH rfl rfl hasA (by omega)) ?_ | refine WPl.rdX (ReadR.sliceL rfl rfl hasA (by omega)) ?_ | refine WPl.rdX (ReadR.sliceLH rfl rfl rfl hasA (by omega) (by omega)) ?_)
               | (refine WPl.spQ (fun hc => ?_) (fun hc => ?_) <;> try exact prA)
               | fail)
              all_goals try (first | exact WPq.dTp | exact WPq.dTs | exact WPq.dV | exact WPq.dR | exact WPq.dR2 | exact WPq.dH | exact WPq.dBH | exact WPq.dT)
            · rw [if_neg hc0]
              refine Triple.enter Try.func8 rfl Try.ntmps8 rfl (fun W => ?_)
              dsimp only [argsF, Nat.reduceAdd]
              repeat' (first
               | refine WPl.nil ?_ | refine WPq.then ?_ | refine WPq.thenR ?_ | refine WPq.thenE ?_ | refine WPq.blockN ?_ | refine WPq.blockR ?_ | refine WPq.blockE ?_ | refine WPq.blockO rfl ?_ | refine WPc.seq ?_ | refine WPc.block ?_ | refine WPc.ret ?_ | refine WPc.exit ?_ | refine WPc.skip ?_ | refine WPc.region ?_
               | (refine isReg 13 ?_; refine WPc.drA [([], [7, 51, 52, 53, 54]), ([], [7, 50, 52, 53]), ([], [7, 50, 51]), ([2], [7, 50, 51, 52]), ([1, 2, 3], [7, 50, 51, 52, 53]), ([0, 1, 2, 3, 4], [7, 50, 51, 52, 53, 54]), ([0, 1, 2, 3, 4, 5], [7, 50, 51, 52, 53, 54, 55]), ([0, 1, 2, 3, 4, 5, 6], [7, 49, 50, 51, 52, 53, 54, 55, 57]), ([0, 1, 2, 3, 4, 5, 6], [7, 49, 50, 51, 52, 53, 54, 55, 56]), ([], [49, 50, 51, 52, 53, 54, 55, 56, 57]), ([0, 1, 2, 3, 4, 5, 6, 7, 9], [7, 49, 50, 51, 52, 53, 54, 55, 56, 57]), ([0, 1, 2, 3, 4, 5, 6, 7, 8, 9, 10], [7, 49, 50, 51, 52, 53, 54, 55, 56, 57])] [(9, 10)] (Γx := []) ?_; dsimp only [prev0, List.length_nil, List.length_cons])
               | (refine gAny ?_; first | (refine gC 29 ?_; refine RGl.vl (fun e hk => OpT.callN (c4)) ?_) | (refine gC 39 ?_; refine RGl.vl (fun e hk => OpT.callN (c1)) ?_) | (refine gC 55 ?_; refine RGl.vl (fun e hk => OpT.callN (c2 (subv 1 v k (b.length - k)))) ?_) | (refine gOp ?_; first | refine RGl.rdA ?_ | refine RGl.rdX (fun e hk => by (try dsimp only [bndR, ensR, oksR, fcutR, List.append_nil, List.nil_append, List.cons_append, List.append_assoc] at hk ⊢); exact readB) ?_) | (refine gAl ?_; refine RGl.nwA ?_) | (refine gSt ?_; refine RGl.stA ?_) | (refine RGl.fin (fun e hk => ?_); (try dsimp only [bndA, ensAR, oksA, List.append_nil, List.nil_append, List.cons_append, List.append_assoc] at hk ⊢); (repeat (obtain ⟨hk1, hk⟩ := hk))) | fail)
               | (refine isCond ?_; first | refine WPc.cT ?_ | refine WPc.cF ?_ | (refine WPc.cQ (fun hc => ?_) (fun hc => ?_) <;> try exact prA))
               | (refine isC 29 ?_; refine WPl.cV (c4) ?_)
               | (refine isC 39 ?_; refine WPl.cV (c1) ?_)
               | (refine isC 55 ?_; refine WPl.cV (c2 (subv 1 v k (b.length - k))) ?_)
               | (refine isOp ?_; first | refine WPl.rd ?_ | refine WPl.sk ?_ | refine WPl.rdB ?_)
               | (refine isAl ?_; refine WPl.nw fun g => ?_)
               | (refine isSt ?_; first | refine WPl.st1 ?_ | refine WPl.stA ?_ | refine WPl.stEB ?_ | refine WPl.stRB ?_)
               | (show WPl _ _ _ _ _ _ _ (⟨_, .indexAddr _ _ _, _, _, _, _⟩ :: _) _; refine WPl.rdX (ReadR.indexE rfl rfl hasA (by first | assumption | omega)) ?_)
               | (show WPl _ _ _ _ _ _ _ (⟨_, .fieldAddr _ _ _, _, _, _, _⟩ :: _) _; refine WPl.rdX (ReadR.fieldE rfl hasA (by first | assumption | omega)) ?_)
               | (show WPl _ _ _ _ _ _ _ (⟨_, .load _ _, _, _, _, _⟩ :: _) _; first | refine WPl.rdX (ReadR.loadE rfl hasA (by assumption)) ?_ | refine WPl.rdX (ReadR.loadES (by assumption) (by first | assumption | omega) rfl hasA) ?_)
               | (show WPl _ _ _ _ _ _ _ (⟨_, .slice _ _ _ _ _, _, _, _, _⟩ :: _) _; first | refine WPl.rdX (ReadR.sliceH rfl rfl hasA (by omega)) ?_ | refine WPl.rdX (ReadR.sliceL rfl rfl hasA (by omega)) ?_ | refine WPl.rdX (ReadR.sliceLH rfl rfl rfl hasA (by omega) (by omega)) ?_)
               | (refine WPl.spQ (fun hc => ?_) (fun hc => ?_) <;> try exact prA)
               | fail)
              all_goals try (first | exact WPq.dTp | exact WPq.dTs | exact WPq.dV | exact WPq.dR | exact WPq.dR2 | exact WPq.dH | exact WPq.dBH | exact WPq.dT)
        · have hE : pkE b = phE b := by unfold pkE; rw [if_pos he]
          rw [show pkVal b = .tuple #[ag (pkc Pk.none), .int .i64 (phE b)] by unfold pkVal pkR; rw [hE, if_neg he]]
          obtain ⟨X, hX⟩ : ∃ X, X = phH b := ⟨_, rfl⟩
          obtain ⟨c, hc⟩ : ∃ c, c = phE b := ⟨_, rfl⟩
          rw [← hc] at he
          rw [← hX, ← hc] at c1
          rw [← hc]
          clear hX hc hE
          have k1 := X.src.len
          have k2 := X.dst.len
          refine Triple.enter Try.func8 rfl Try.ntmps8 rfl (fun W => ?_)
          dsimp only [argsF, Nat.reduceAdd]
          repeat' (first
           | refine WPl.nil ?_ | refine WPq.then ?_ | refine WPq.thenR ?_ | refine WPq.thenE ?_ | refine WPq.blockN ?_ | refine WPq.blockR ?_ | refine WPq.blockE ?_ | refine WPq.blockO rfl ?_ | refine WPc.seq ?_ | refine WPc.block ?_ | refine WPc.ret ?_ | refine WPc.exit ?_ | refine WPc.skip ?_ | refine WPc.region ?_
           | (refine isReg 13 ?_; refine WPc.drA [([], [7, 51, 52, 53, 54]), ([], [7, 50, 52, 53]), ([], [7, 50, 51]), ([2], [7, 50, 51, 52]), ([1, 2, 3], [7, 50, 51, 52, 53]), ([0, 1, 2, 3, 4], [7, 50, 51, 52, 53, 54]), ([0, 1, 2, 3, 4, 5], [7, 50, 51, 52, 53, 54, 55]), ([0, 1, 2, 3, 4, 5, 6], [7, 49, 50, 51, 52, 53, 54, 55, 57]), ([0, 1, 2, 3, 4, 5, 6], [7, 49, 50, 51, 52, 53, 54, 55, 56]), ([], [49, 50, 51, 52, 53, 54, 55, 56, 57]), ([0, 1, 2, 3, 4, 5, 6, 7, 9], [7, 49, 50, 51, 52, 53, 54, 55, 56, 57]), ([0, 1, 2, 3, 4, 5, 6, 7, 8, 9, 10], [7, 49, 50, 51, 52, 53, 54, 55, 56, 57])] [(9, 10)] (Γx := []) ?_; dsimp only [prev0, List.length_nil, List.length_cons])
           | (refine gAny ?_; first | (refine gC 29 ?_; refine RGl.vl (fun e hk => OpT.callN (c4)) ?_) | (refine gC 39 ?_; refine RGl.vl (fun e hk => OpT.callN (c1)) ?_) | (refine gOp ?_; first | refine RGl.rdA ?_ | refine RGl.rdX (fun e hk => by (try dsimp only [bndR, ensR, oksR, fcutR, List.append_nil, List.nil_append, List.cons_append, List.append_assoc] at hk ⊢); exact readB) ?_) | (refine gAl ?_; refine RGl.nwA ?_) | (refine gSt ?_; refine RGl.stA ?_) | (refine RGl.fin (fun e hk => ?_); (try dsimp only [bndA, ensAR, oksA, List.append_nil, List.nil_append, List.cons_append, List.append_assoc] at hk ⊢); (repeat (obtain ⟨hk1, hk⟩ := hk))) | fail)
           | (refine isCond ?_; first | refine WPc.cT ?_ | refine WPc.cF ?_ | (refine WPc.cQ (fun hc => ?_) (fun hc => ?_) <;> try exact prA))
           | (refine isC 29 ?_; refine WPl.cV (c4) ?_)
           | (refine isC 39 ?_; refine WPl.cV (c1) ?_)
           | (refine isOp ?_; first | refine WPl.rd ?_ | refine WPl.sk ?_ | refine WPl.rdB ?_)
           | (refine isAl ?_; refine WPl.nw fun g => ?_)
           | (refine isSt ?_; first | refine WPl.st1 ?_ | refine WPl.stA ?_ | refine WPl.stEB ?_ | refine WPl.stRB ?_)
           | (show WPl _ _ _ _ _ _ _ (⟨_, .indexAddr _ _ _, _, _, _, _⟩ :: _) _; refine WPl.rdX (ReadR.indexE rfl rfl hasA (by first | assumption | omega)) ?_)
           | (show WPl _ _ _ _ _ _ _ (⟨_, .fieldAddr _ _ _, _, _, _, _⟩ :: _) _; refine WPl.rdX (ReadR.fieldE rfl hasA (by first | assumption | omega)) ?_)
           | (show WPl _ _ _ _ _ _ _ (⟨_, .load _ _, _, _, _, _⟩ :: _) _; first | refine WPl.rdX (ReadR.loadE rfl hasA (by assumption)) ?_ | refine WPl.rdX (ReadR.loadES (by assumption) (by first | assumption | omega) rfl hasA) ?_)
           | (show WPl _ _ _ _ _ _ _ (⟨_, .slice _ _ _ _ _, _, _, _, _⟩ :: _) _; first | refine WPl.rdX (ReadR.sliceH rfl rfl hasA (by omega)) ?_ | refine WPl.rdX (ReadR.sliceL rfl rfl hasA (by omega)) ?_ | refine WPl.rdX (ReadR.sliceLH rfl rfl rfl hasA (by omega) (by omega)) ?_)
           | (refine WPl.spQ (fun hc => ?_) (fun hc => ?_) <;> try exact prA)
           | fail)
          all_goals try (first | exact WPq.dTp | exact WPq.dTs | exact WPq.dV | exact WPq.dR | exact WPq.dR2 | exact WPq.dH | exact WPq.dBH | exact WPq.dT)
      · have hE : phE b = 12 := by unfold phE; rw [if_neg h0, if_neg h4, if_neg h6]
        have hE2 : pkE b = 12 := by unfold pkE; rw [hE]; simp
        rw [show pkVal b = .tuple #[ag (pkc Pk.none), .int .i64 12] by unfold pkVal pkR; rw [hE2, if_neg (by omega)]]
        refine Triple.enter Try.func8 rfl Try.ntmps8 rfl (fun W => ?_)
        dsimp only [argsF, Nat.reduceAdd]
        repeat' (first
         | refine WPl.nil ?_ | refine WPq.then ?_ | refine WPq.thenR ?_ | refine WPq.thenE ?_ | refine WPq.blockN ?_ | refine WPq.blockR ?_ | refine WPq.blockE ?_ | refine WPq.blockO rfl ?_ | refine WPc.seq ?_ | refine WPc.block ?_ | refine WPc.ret ?_ | refine WPc.exit ?_ | refine WPc.skip ?_ | refine WPc.region ?_
         | (refine isReg 13 ?_; refine WPc.drA [([], [7, 51, 52, 53, 54]), ([], [7, 50, 52, 53]), ([], [7, 50, 51]), ([2], [7, 50, 51, 52]), ([1, 2, 3], [7, 50, 51, 52, 53]), ([0, 1, 2, 3, 4], [7, 50, 51, 52, 53, 54]), ([0, 1, 2, 3, 4, 5], [7, 50, 51, 52, 53, 54, 55]), ([0, 1, 2, 3, 4, 5, 6], [7, 49, 50, 51, 52, 53, 54, 55, 57]), ([0, 1, 2, 3, 4, 5, 6], [7, 49, 50, 51, 52, 53, 54, 55, 56]), ([], [49, 50, 51, 52, 53, 54, 55, 56, 57]), ([0, 1, 2, 3, 4, 5, 6, 7, 9], [7, 49, 50, 51, 52, 53, 54, 55, 56, 57]), ([0, 1, 2, 3, 4, 5, 6, 7, 8, 9, 10], [7, 49, 50, 51, 52, 53, 54, 55, 56, 57])] [(9, 10)] (Γx := []) ?_; dsimp only [prev0, List.length_nil, List.length_cons])
         | (refine gAny ?_; first | (refine gOp ?_; first | refine RGl.rdA ?_ | refine RGl.rdX (fun e hk => by (try dsimp only [bndR, ensR, oksR, fcutR, List.append_nil, List.nil_append, List.cons_append, List.append_assoc] at hk ⊢); exact readB) ?_) | (refine gAl ?_; refine RGl.nwA ?_) | (refine gSt ?_; refine RGl.stA ?_) | (refine RGl.fin (fun e hk => ?_); (try dsimp only [bndA, ensAR, oksA, List.append_nil, List.nil_append, List.cons_append, List.append_assoc] at hk ⊢); (repeat (obtain ⟨hk1, hk⟩ := hk))) | fail)
         | (refine isCond ?_; first | refine WPc.cT ?_ | refine WPc.cF ?_ | (refine WPc.cQ (fun hc => ?_) (fun hc => ?_) <;> try exact prA))
         | (refine isOp ?_; first | refine WPl.rd ?_ | refine WPl.sk ?_ | refine WPl.rdB ?_)
         | (refine isAl ?_; refine WPl.nw fun g => ?_)
         | (refine isSt ?_; first | refine WPl.st1 ?_ | refine WPl.stA ?_ | refine WPl.stEB ?_ | refine WPl.stRB ?_)
         | (show WPl _ _ _ _ _ _ _ (⟨_, .indexAddr _ _ _, _, _, _, _⟩ :: _) _; refine WPl.rdX (ReadR.indexE rfl rfl hasA (by first | assumption | omega)) ?_)
         | (show WPl _ _ _ _ _ _ _ (⟨_, .fieldAddr _ _ _, _, _, _, _⟩ :: _) _; refine WPl.rdX (ReadR.fieldE rfl hasA (by first | assumption | omega)) ?_)
         | (show WPl _ _ _ _ _ _ _ (⟨_, .load _ _, _, _, _, _⟩ :: _) _; first | refine WPl.rdX (ReadR.loadE rfl hasA (by assumption)) ?_ | refine WPl.rdX (ReadR.loadES (by assumption) (by first | assumption | omega) rfl hasA) ?_)
         | (show WPl _ _ _ _ _ _ _ (⟨_, .slice _ _ _ _ _, _, _, _, _⟩ :: _) _; first | refine WPl.rdX (ReadR.sliceH rfl rfl hasA (by omega)) ?_ | refine WPl.rdX (ReadR.sliceL rfl rfl hasA (by omega)) ?_ | refine WPl.rdX (ReadR.sliceLH rfl rfl rfl hasA (by omega) (by omega)) ?_)
         | (refine WPl.spQ (fun hc => ?_) (fun hc => ?_) <;> try exact prA)
         | fail)
        all_goals try (first | exact WPq.dTp | exact WPq.dTs | exact WPq.dV | exact WPq.dR | exact WPq.dR2 | exact WPq.dH | exact WPq.dBH | exact WPq.dT)
end Go.Proofs.Ytjfhiifpnpokpaa
/- Reference 17 (nat): a packet is sent elsewhere, all its sums anew: contracts. -/
namespace Go.Proofs.Ytjfhiifpnpokpaa
open Go.RowKit
set_option linter.unusedSimpArgs false
set_option linter.unusedVariables false
set_option maxRecDepth 20000
set_option maxHeartbeats 4000000
attribute [local irreducible] WPc WPl WPq ReadR OpT BinR HasS bx rdN rowN Take Takes Prov Triple ResF BuildP Done ag Int.decLt Int.decLe Int.instDecidableEq

theorem rlay_t (v vx : Value) (b x : List UInt8) (k : Nat) (hk : k + x.length ≤ b.length) (hb : b.length ≤ 100000) : Triple Try.prog 13 #[v, .int .i64 (k : Int), vx] [rb v b, rb vx x] (ROb (lay b k x)) := by
  have e : lay b k x = (seg b 0 k ++ x) ++ seg b (k + x.length) (b.length - (k + x.length)) := by
    unfold lay seg
    rw [List.drop_zero, List.take_of_length_le (l := b.drop (k + x.length)) (by rw [List.length_drop]; omega)]
  have h1 : (seg b 0 k).length = k := seg_length (by omega)
  have h2 : (seg b (k + x.length) (b.length - (k + x.length))).length = b.length - (k + x.length) := seg_length (by omega)
  have h3 : (seg b 0 k ++ x).length = k + x.length := by rw [List.length_append, h1]
  rw [e]
  refine Triple.enter Try.func13 rfl Try.ntmps13 rfl (fun W => ?_)
  dsimp only [argsF, Nat.reduceAdd]
  repeat' (first
   | refine WPl.nil ?_ | refine WPq.then ?_ | refine WPq.thenR ?_ | refine WPq.thenE ?_ | refine WPq.blockN ?_ | refine WPq.blockR ?_ | refine WPq.blockE ?_ | refine WPq.blockO rfl ?_ | refine WPc.seq ?_ | refine WPc.block ?_ | refine WPc.ret ?_ | refine WPc.exit ?_ | refine WPc.skip ?_ | refine WPc.region ?_
   | (refine isCond ?_; first | refine WPc.cT ?_ | refine WPc.cF ?_ | (refine WPc.cQ (fun hc => ?_) (fun hc => ?_) <;> try exact prA))
   | (refine isLit ?_; refine WPl.lit fun v1 hv1 => ?_)
   | (refine isApp ?_; refine WPl.app fun v2 hv2 => ?_)
   | (refine isOp ?_; first | refine WPl.rd ?_ | refine WPl.sk ?_ | refine WPl.rdB ?_)
   | (show WPl _ _ _ _ _ _ _ (⟨_, .indexAddr _ _ _, _, _, _, _⟩ :: _) _; refine WPl.rdX (ReadR.indexE rfl rfl hasA (by first | assumption | omega)) ?_)
   | (show WPl _ _ _ _ _ _ _ (⟨_, .fieldAddr _ _ _, _, _, _, _⟩ :: _) _; refine WPl.rdX (ReadR.fieldE rfl hasA (by first | assumption | omega)) ?_)
   | (show WPl _ _ _ _ _ _ _ (⟨_, .load _ _, _, _, _, _⟩ :: _) _; first | refine WPl.rdX (ReadR.loadE rfl hasA (by assumption)) ?_ | refine WPl.rdX (ReadR.loadES (by assumption) (by first | assumption | omega) rfl hasA) ?_)
   | (show WPl _ _ _ _ _ _ _ (⟨_, .slice _ _ _ _ _, _, _, _, _⟩ :: _) _; first | refine WPl.rdX (ReadR.sliceH rfl rfl hasA (by omega)) ?_ | refine WPl.rdX (ReadR.sliceL rfl rfl hasA (by omega)) ?_ | refine WPl.rdX (ReadR.sliceLH rfl rfl rfl hasA (by omega) (by omega)) ?_)
   | (refine WPl.spQ (fun hc => ?_) (fun hc => ?_) <;> try exact prA)
   | fail)
  repeat' (first
   | refine WPl.nil ?_ | refine WPq.then ?_ | refine WPq.thenR ?_ | refine WPq.thenE ?_ | refine WPq.blockN ?_ | refine WPq.blockR ?_ | refine WPq.blockE ?_ | refine WPq.blockO rfl ?_ | refine WPc.seq ?_ | refine WPc.block ?_ | refine WPc.ret ?_ | refine WPc.exit ?_ | refine WPc.skip ?_ | refine WPc.region ?_
   | (refine isReg 2 ?_; refine WPc.drA [([11], [14, 16, 17, 18, 19, 20, 21]), ([11], [13, 16, 17, 18, 19, 20, 21]), ([0, 1, 11], [13, 14, 16, 17, 18, 19, 20, 21]), ([11], [13, 14, 15, 17, 18, 19, 20]), ([11], [13, 14, 15, 16, 18, 19]), ([11], [13, 14, 15, 16, 17]), ([5, 11], [13, 14, 15, 16, 17, 18]), ([4, 5, 6, 11], [13, 14, 15, 16, 17, 18, 19]), ([3, 4, 5, 6, 7, 11], [13, 14, 15, 16, 17, 18, 19, 20]), ([0, 1, 2, 3, 4, 5, 6, 7, 8, 11], [13, 14, 15, 16, 17, 18, 19, 20, 21]), ([0, 1, 2, 3, 4, 5, 6, 7, 8, 9, 11], [13, 14, 15, 16, 17, 18, 19, 20, 21, 22])] [(11, 2), (2, 9), (11, 0), (11, 1)] (Γx := [ob v2 (seg b 0 k)]) ?_; dsimp only [prev0, List.length_nil, List.length_cons])
   | (refine gAny ?_; first | (refine gD 21 ?_; refine RGl.rdX (fun e hk => by (try dsimp only [bndR, ensR, oksR, fcutR, List.append_nil, List.nil_append, List.cons_append, List.append_assoc] at hk ⊢); exact ReadR.sliceL (i := k + x.length) rfl rfl hasA (by omega)) ?_) | (refine gOp ?_; first | refine RGl.rdA ?_ | refine RGl.rdX (fun e hk => by (try dsimp only [bndR, ensR, oksR, fcutR, List.append_nil, List.nil_append, List.cons_append, List.append_assoc] at hk ⊢); exact readB) ?_) | (refine gApp ?_; refine RGl.appA ?_) | (refine RGl.fin (fun e hk => ?_); (try dsimp only [bndA, ensAR, oksA, List.append_nil, List.nil_append, List.cons_append, List.append_assoc] at hk ⊢); (repeat (obtain ⟨hk1, hk⟩ := hk))) | fail)
   | (refine isCond ?_; first | refine WPc.cT ?_ | refine WPc.cF ?_ | (refine WPc.cQ (fun hc => ?_) (fun hc => ?_) <;> try exact prA))
   | (refine isOp ?_; first | refine WPl.rd ?_ | refine WPl.sk ?_ | refine WPl.rdB ?_)
   | (show WPl _ _ _ _ _ _ _ (⟨_, .indexAddr _ _ _, _, _, _, _⟩ :: _) _; refine WPl.rdX (ReadR.indexE rfl rfl hasA (by first | assumption | omega)) ?_)
   | (show WPl _ _ _ _ _ _ _ (⟨_, .fieldAddr _ _ _, _, _, _, _⟩ :: _) _; refine WPl.rdX (ReadR.fieldE rfl hasA (by first | assumption | omega)) ?_)
   | (show WPl _ _ _ _ _ _ _ (⟨_, .load _ _, _, _, _, _⟩ :: _) _; first | refine WPl.rdX (ReadR.loadE rfl hasA (by assumption)) ?_ | refine WPl.rdX (ReadR.loadES (by assumption) (by first | assumption | omega) rfl hasA) ?_)
   | (show WPl _ _ _ _ _ _ _ (⟨_, .slice _ _ _ _ _, _, _, _, _⟩ :: _) _; first | refine WPl.rdX (ReadR.sliceH rfl rfl hasA (by omega)) ?_ | refine WPl.rdX (ReadR.sliceL rfl rfl hasA (by omega)) ?_ | refine WPl.rdX (ReadR.sliceLH rfl rfl rfl hasA (by omega) (by omega)) ?_)
   | (refine WPl.spQ (fun hc => ?_) (fun hc => ?_) <;> try exact prA)
   | fail)
  all_goals try (first | exact WPq.dTp | exact WPq.dTs | exact WPq.dV | exact WPq.dR | exact WPq.dR2 | exact WPq.dH | exact WPq.dBH | exact WPq.dT)
theorem rtwo_t (n : Nat) (hn : n ≤ 65535) : Triple Try.prog 15 #[.int .u16 (n : Int)] [] (ROb (twoB n)) := by
  have e1 : IntKind.u8.wrap ((n : Int) / 256) = (((UInt8.ofNat (n / 256)).toNat : Nat) : Int) := wrap_hi hn
  have e2 : IntKind.u8.wrap ((n : Int) % 256) = (((UInt8.ofNat (n % 256)).toNat : Nat) : Int) := by rw [IntKind.wrap_u8, u8_of]; omega
  unfold twoB
  refine Triple.enter Try.func15 rfl Try.ntmps15 rfl (fun W => ?_)
  dsimp only [argsF, Nat.reduceAdd]
  repeat' (first
   | refine WPl.nil ?_ | refine WPq.then ?_ | refine WPq.thenR ?_ | refine WPq.thenE ?_ | refine WPq.blockN ?_ | refine WPq.blockR ?_ | refine WPq.blockE ?_ | refine WPq.blockO rfl ?_ | refine WPc.seq ?_ | refine WPc.block ?_ | refine WPc.ret ?_ | refine WPc.exit ?_ | refine WPc.skip ?_ | refine WPc.region ?_
   | (refine isCond ?_; first | refine WPc.cT ?_ | refine WPc.cF ?_ | (refine WPc.cQ (fun hc => ?_) (fun hc => ?_) <;> try exact prA))
   | (refine isD 5 ?_; refine WPl.rdX (ReadR.convT e1 rfl rfl) ?_)
   | (refine isD 8 ?_; refine WPl.rdX (ReadR.convT e2 rfl rfl) ?_)
   | (refine isLit ?_; refine WPl.lits fun v hv => ?_)
   | (refine isOp ?_; first | refine WPl.rd ?_ | refine WPl.sk ?_ | refine WPl.rdB ?_)
   | (show WPl _ _ _ _ _ _ _ (⟨_, .indexAddr _ _ _, _, _, _, _⟩ :: _) _; refine WPl.rdX (ReadR.indexE rfl rfl hasA (by first | assumption | omega)) ?_)
   | (show WPl _ _ _ _ _ _ _ (⟨_, .fieldAddr _ _ _, _, _, _, _⟩ :: _) _; refine WPl.rdX (ReadR.fieldE rfl hasA (by first | assumption | omega)) ?_)
   | (show WPl _ _ _ _ _ _ _ (⟨_, .load _ _, _, _, _, _⟩ :: _) _; first | refine WPl.rdX (ReadR.loadE rfl hasA (by assumption)) ?_ | refine WPl.rdX (ReadR.loadES (by assumption) (by first | assumption | omega) rfl hasA) ?_)
   | (show WPl _ _ _ _ _ _ _ (⟨_, .slice _ _ _ _ _, _, _, _, _⟩ :: _) _; first | refine WPl.rdX (ReadR.sliceH rfl rfl hasA (by omega)) ?_ | refine WPl.rdX (ReadR.sliceL rfl rfl hasA (by omega)) ?_ | refine WPl.rdX (ReadR.sliceLH rfl rfl rfl hasA (by omega) (by omega)) ?_)
   | (refine WPl.spQ (fun hc => ?_) (fun hc => ?_) <;> try exact prA)
   | fail)
  all_goals try (first | exact WPq.dTp | exact WPq.dTs | exact WPq.dV | exact WPq.dR | exact WPq.dR2 | exact WPq.dH | exact WPq.dBH | exact WPq.dT)
/-- The reference's sums. -/
def rs1 (b : List UInt8) (h : Hd) (w : Nat) (a : Adr) (p : Nat) : Nat := csum (seg (lay (core b h w a p) 10 (twoB 0)) 0 h.pos.toNat)
def rsC (c : List UInt8) (h : Hd) : Nat := csum (psu h (c.length - h.pos.toNat) ++ seg c h.pos.toNat (c.length - h.pos.toNat))
def rs2 (c : List UInt8) (h : Hd) : Nat := if rsC c h = 0 ∧ h.proto.toNat = 17 then 65535 else rsC c h
def r5 (b : List UInt8) (h : Hd) (z : Bool) (w : Nat) (a : Adr) (p : Nat) : List UInt8 :=
  let c := q1 b h w a p (rs1 b h w a p)
  q2 c h z (rs2 (lay c (h.pos.toNat + sj h) (twoB 0)) (hdA h w a))
def refL (b : List UInt8) (w : Nat) (a : Adr) (p : Nat) : List UInt8 := if natE b a p = 0 then r5 b (phH b) (sgR (phH b) (pkS b)).zero w a p else []

end Go.Proofs.Ytjfhiifpnpokpaa
/- Reference 17 (nat): Rewrite where it is told: contracts (printed by gen_nf.py). -/
namespace Go.Proofs.Ytjfhiifpnpokpaa
open Go.RowKit
set_option linter.unusedSimpArgs false
set_option linter.unusedVariables false
set_option maxRecDepth 20000
set_option maxHeartbeats 1000000
attribute [local irreducible] WPc WPl WPq ReadR OpT BinR HasS bx rdN rowN Take Takes Prov Triple ResF BuildP Done ag Int.decLt Int.decLe Int.instDecidableEq
attribute [local irreducible] core csum psu
theorem rrw_t0z (v : Value) (b : List UInt8) (a : Adr) (p : Nat) (pr : UInt8) (k : Nat) (s1 d1 : Adr) (pt : Bool) (hp : UInt8) (sr ds : Nat) (fg : UInt8) (sa : Int) (da : Int) (fl : Fl) (hp1 : p ≤ 65535) (hp0 : p ≠ 0) (hl : b.length ≤ 100000) (he : pkVal b = .tuple #[ag (pkc ⟨⟨true, pr, (k : Int), s1, d1, pt, hp⟩, ⟨sr, ds, fg, sa, true, da⟩, fl⟩), .int .i64 0])
    (hg : a.good = true) (hs : a.six = true) (hj : sa = (sj ⟨true, pr, (k : Int), s1, d1, pt, hp⟩ : Int)) (hk2 : k + sj ⟨true, pr, (k : Int), s1, d1, pt, hp⟩ + 2 ≤ b.length) (hk20 : 20 ≤ k) (hnk : nk true 0 + a.bytes.length ≤ b.length) :
    Triple Try.prog 7 #[v, .int .i64 0, ag (adc a), .int .u16 (p : Int)] [rb v b] (RW (r5 b ⟨true, pr, (k : Int), s1, d1, pt, hp⟩ true 0 a p) 0) := by
  have c1 := rparse_t v b hl
  rw [he] at c1
  have c2 := rgood_t a
  rw [hg] at c2
  have c4 := rbytes_t a
  have la := a.len
  have ls := s1.len
  have ld := d1.len
  have lf1 := fl.src.len
  have lf2 := fl.dst.len
  have hpr := pr.toNat_lt
  obtain ⟨j, hjj⟩ : ∃ j, j = sj ⟨true, pr, (k : Int), s1, d1, pt, hp⟩ := ⟨_, rfl⟩
  have hj6 := sj_ge ⟨true, pr, (k : Int), s1, d1, pt, hp⟩
  rw [← hjj] at hj hk2 hj6
  subst hj
  have hbl := a.bytes_len
  rw [hs] at hbl
  have t : ∀ n, (twoB n).length = 2 := fun n => rfl
  have t0 : ([0, 0] : List UInt8).length = 2 := rfl
  have c5 := fun v1 => rlay_t v v1 b a.bytes (nk true 0) hnk hl
  have l1 : (lay b (nk true 0) a.bytes).length = b.length := lay_length hnk
  have c6 := rtwo_t p hp1
  have c7 := fun v1 v2 => rlay_t v1 v2 (lay b (nk true 0) a.bytes) (twoB p) (k + 2 * 0) (by rw [l1, t]; omega) (by omega)
  have eC : lay (lay b (nk true 0) a.bytes) (k + 2 * 0) (twoB p) = core b ⟨true, pr, (k : Int), s1, d1, pt, hp⟩ 0 a p := by unfold core; rfl
  have l2 : (core b ⟨true, pr, (k : Int), s1, d1, pt, hp⟩ 0 a p).length = b.length := by rw [← eC, lay_length (by rw [l1, t]; omega), l1]
  rw [eC] at c7
  unfold r5
  unfold rs1 q1
  show Triple _ _ _ _ (RW (q2 _ _ true (rs2 (lay _ (k + sj _) (twoB 0)) _)) 0)
  rw [← hjj]
  rw [show hdA ⟨true, pr, (k : Int), s1, d1, pt, hp⟩ 0 a = ⟨true, pr, (k : Int), a, d1, pt, hp⟩ from rfl]
  simp only [show (Hd.mk true pr (k : Int) s1 d1 pt hp).pos.toNat = k from rfl, show (Hd.mk true pr (k : Int) s1 d1 pt hp).six = true from rfl]
  rw [show twoB 0 = [0, 0] from rfl]
  try simp only [if_true]
  generalize core b ⟨true, pr, (k : Int), s1, d1, pt, hp⟩ 0 a p = C at *
  have lC : C.length = b.length := l2
  generalize lay b (nk true 0) a.bytes = L1 at *
  generalize hn : a.bytes.length = n at *
  generalize twoB p = T1 at *
  generalize a.bytes = ab at *
  unfold q2
  rw [if_pos rfl]
  refine Triple.enter Try.func7 rfl Try.ntmps7 rfl (fun W => ?_)
  dsimp only [argsF, Nat.reduceAdd]
  repeat' (first
   | refine WPl.nil ?_ | refine WPq.then ?_ | refine WPq.thenR ?_ | refine WPq.thenE ?_ | refine WPq.blockN ?_ | refine WPq.blockR ?_ | refine WPq.blockE ?_ | refine WPq.blockO rfl ?_ | refine WPc.seq ?_ | refine WPc.block ?_ | refine WPc.ret ?_ | refine WPc.exit ?_ | refine WPc.skip ?_ | refine WPc.region ?_
   | (refine isReg 9 ?_; refine WPc.drA [([], [46, 47, 48, 49, 50, 51, 52, 54, 55, 56, 57, 58, 59, 60]), ([], [45, 47, 48, 49, 51, 52, 54, 55, 56, 57, 58, 59, 60]), ([], [45, 46, 48, 51, 52, 54, 55, 56, 57, 58, 59, 60]), ([], [45, 46, 47, 51, 52, 54, 55, 56, 57, 58, 59, 60]), ([2, 3], [45, 46, 47, 48, 51, 52, 54, 55, 56, 57, 58, 59, 60]), ([1, 2, 3, 4], [45, 46, 47, 48, 49, 51, 52, 54, 55, 56, 57, 58, 59, 60]), ([], [45, 46, 47, 48, 49, 50, 54, 55, 56, 57, 58, 59, 60]), ([6], [45, 46, 47, 48, 49, 50, 51, 54, 55, 56, 57, 58, 59, 60]), ([0, 1, 2, 3, 4, 5, 6, 7], [45, 46, 47, 48, 49, 50, 51, 52, 54, 55, 56, 57, 58, 59, 60]), ([], [45, 46, 47, 48, 49, 50, 51, 52, 53, 57, 58, 60, 61]), ([9], [45, 46, 47, 48, 49, 50, 51, 52, 53, 54, 57, 58, 60, 61]), ([9, 10], [45, 46, 47, 48, 49, 50, 51, 52, 53, 54, 55, 57, 58, 60, 61]), ([], [45, 46, 47, 48, 49, 50, 51, 52, 53, 54, 55, 56, 60, 61]), ([12], [45, 46, 47, 48, 49, 50, 51, 52, 53, 54, 55, 56, 57, 60, 61]), ([9, 10, 11, 12, 13], [45, 46, 47, 48, 49, 50, 51, 52, 53, 54, 55, 56, 57, 58, 60, 61]), ([], [45, 46, 47, 48, 49, 50, 51, 52, 53, 54, 55, 56, 57, 58, 59]), ([0, 1, 2, 3, 4, 5, 6, 7, 8, 15], [45, 46, 47, 48, 49, 50, 51, 52, 53, 54, 55, 56, 57, 58, 59, 60]), ([0, 1, 2, 3, 4, 5, 6, 7, 8, 9, 10, 11, 12, 13, 14, 15, 16], [45, 46, 47, 48, 49, 50, 51, 52, 53, 54, 55, 56, 57, 58, 59, 60, 61]), ([0, 1, 2, 3, 4, 5, 6, 7, 8, 9, 10, 11, 12, 13, 14, 15, 16, 17], [45, 46, 47, 48, 49, 50, 51, 52, 53, 54, 55, 56, 57, 58, 59, 60, 61, 62])] [] (Γx := []) ?_; dsimp only [prev0, List.length_nil, List.length_cons])
   | (refine gAny ?_; first | (refine gC 20 ?_; refine RGl.vl (fun e hk => OpT.callN (c1)) ?_) | (refine gC 28 ?_; refine RGl.vl (fun e hk => OpT.callN (c2)) ?_) | (refine gC 52 ?_; refine RGl.row (Γ1 := fun _ => []) (fun e hk => OpT.callN (c4)) ?_) | (refine gC 53 ?_; refine RGl.row (Γ1 := fun _ => []) (fun e hk => OpT.callN ((c5 _))) ?_) | (refine gC 61 ?_; refine RGl.row (Γ1 := fun _ => []) (fun e hk => OpT.callN (c6)) ?_) | (refine gC 62 ?_; refine RGl.row (Γ1 := fun _ => []) (fun e hk => OpT.callN ((c7 _ _))) ?_) | (refine gD 36 ?_; refine RGl.rdX (fun e hk => by (try dsimp only [bndR, ensR, oksR, fcutR, List.append_nil, List.nil_append, List.cons_append, List.append_assoc] at hk ⊢); exact ReadR.binE rfl rfl (BinR.neqB (by kernel_rfl)) (congrArg Value.bool (show (!(a.six == true)) = false by rw [hs]; rfl))) ?_) | (refine gD 40 ?_; refine RGl.rdX (fun e hk => by (try dsimp only [bndR, ensR, oksR, fcutR, List.append_nil, List.nil_append, List.cons_append, List.append_assoc] at hk ⊢); exact ReadR.binE rfl rfl BinR.eql (congrArg Value.bool (decide_eq_false (show ¬ (p : Int) = 0 by omega)))) ?_) | (refine gD 50 ?_; refine RGl.rdX (fun e hk => by (try dsimp only [bndR, ensR, oksR, fcutR, List.append_nil, List.nil_append, List.cons_append, List.append_assoc] at hk ⊢); exact ReadR.binE rfl rfl (BinR.addI (by omega) (by omega)) (congrArg (Value.int .i64) (show _ = ((nk true 0 : Nat) : Int) from by first | rfl | (simp [nk]; done) | (simp [nk]; omega)))) ?_) | (refine gD 59 ?_; refine RGl.rdX (fun e hk => by (try dsimp only [bndR, ensR, oksR, fcutR, List.append_nil, List.nil_append, List.cons_append, List.append_assoc] at hk ⊢); exact ReadR.binE rfl rfl (BinR.addI (by omega) (by omega)) (congrArg (Value.int .i64) (show _ = ((k + 2 * 0 : Nat) : Int) from by first | omega | (simp; done) | (simp; omega)))) ?_) | (refine gOp ?_; first | refine RGl.rdA ?_ | refine RGl.rdX (fun e hk => by (try dsimp only [bndR, ensR, oksR, fcutR, List.append_nil, List.nil_append, List.cons_append, List.append_assoc] at hk ⊢); exact readB) ?_) | (refine RGl.fin (fun e hk => ?_); (try dsimp only [bndA, ensAR, oksA, List.append_nil, List.nil_append, List.cons_append, List.append_assoc] at hk ⊢); (repeat (obtain ⟨hk1, hk⟩ := hk))) | fail)
   | (refine isCond ?_; first | refine WPc.cT ?_ | refine WPc.cF ?_ | (refine WPc.cQ (fun hc => ?_) (fun hc => ?_) <;> try exact prA))
   | (refine isD 36 ?_; refine WPl.rdX (ReadR.binE rfl rfl (BinR.neqB (by kernel_rfl)) (congrArg Value.bool (show (!(a.six == true)) = false by rw [hs]; rfl))) ?_)
   | (refine isD 40 ?_; refine WPl.rdX (ReadR.binE rfl rfl BinR.eql (congrArg Value.bool (decide_eq_false (show ¬ (p : Int) = 0 by omega)))) ?_)
   | (refine isC 20 ?_; refine WPl.cV (c1) ?_)
   | (show WPl _ _ _ _ _ _ _ (⟨_, .store 39 (.tmp 10) _, _, _, _, _⟩ :: _) _; refine WPl.stA (new := pkc ⟨⟨true, pr, (k : Int), s1, d1, pt, hp⟩, ⟨sr, ds, fg, (j : Int), true, da⟩, fl⟩) ?_ (ht := by kernel_rfl))
   | (refine isC 28 ?_; refine WPl.cV (c2) ?_)
   | (refine isC 52 ?_; refine WPl.cR (c4) fun v hv => ?_)
   | (refine isC 53 ?_; refine WPl.cR ((c5 _)) fun v hv => ?_)
   | (refine isC 61 ?_; refine WPl.cR (c6) fun v hv => ?_)
   | (refine isC 62 ?_; refine WPl.cR ((c7 _ _)) fun v hv => ?_)
   | (refine isOp ?_; first | refine WPl.rd ?_ | refine WPl.sk ?_ | refine WPl.rdB ?_)
   | (refine isAl ?_; refine WPl.nw fun g => ?_)
   | (refine isBx ?_; refine WPl.nw fun g => ?_)
   | (refine isSt ?_; first | refine WPl.st1 ?_ | refine WPl.stA ?_ | refine WPl.stEB ?_ | refine WPl.stRB ?_)
   | (show WPl _ _ _ _ _ _ _ (⟨_, .indexAddr _ _ _, _, _, _, _⟩ :: _) _; refine WPl.rdX (ReadR.indexE rfl rfl hasA (by first | assumption | omega)) ?_)
   | (show WPl _ _ _ _ _ _ _ (⟨_, .fieldAddr _ _ _, _, _, _, _⟩ :: _) _; refine WPl.rdX (ReadR.fieldE rfl hasA (by first | assumption | omega)) ?_)
   | (show WPl _ _ _ _ _ _ _ (⟨_, .load _ _, _, _, _, _⟩ :: _) _; first | refine WPl.rdX (ReadR.loadE rfl hasA (by assumption)) ?_ | refine WPl.rdX (ReadR.loadES (by assumption) (by first | assumption | omega) rfl hasA) ?_)
   | (show WPl _ _ _ _ _ _ _ (⟨_, .slice _ _ _ _ _, _, _, _, _⟩ :: _) _; first | refine WPl.rdX (ReadR.sliceH rfl rfl hasA (by omega)) ?_ | refine WPl.rdX (ReadR.sliceL rfl rfl hasA (by omega)) ?_ | refine WPl.rdX (ReadR.sliceLH rfl rfl rfl hasA (by omega) (by omega)) ?_)
   | (refine WPl.spQ (fun hc => ?_) (fun hc => ?_) <;> try exact prA)
   | fail)
  all_goals try (first | exact WPq.dTp | exact WPq.dTs | exact WPq.dV | exact WPq.dR | exact WPq.dR2 | exact WPq.dH | exact WPq.dBH | exact WPq.dT)
theorem rrw_t0a (v : Value) (b : List UInt8) (a : Adr) (p : Nat) (pr : UInt8) (k : Nat) (s1 d1 : Adr) (pt : Bool) (hp : UInt8) (sr ds : Nat) (fg : UInt8) (sa : Int) (da : Int) (fl : Fl) (hp1 : p ≤ 65535) (hp0 : p ≠ 0) (hl : b.length ≤ 100000) (he : pkVal b = .tuple #[ag (pkc ⟨⟨true, pr, (k : Int), s1, d1, pt, hp⟩, ⟨sr, ds, fg, sa, false, da⟩, fl⟩), .int .i64 0])
    (hg : a.good = true) (hs : a.six = true) (hj : sa = (sj ⟨true, pr, (k : Int), s1, d1, pt, hp⟩ : Int)) (hk2 : k + sj ⟨true, pr, (k : Int), s1, d1, pt, hp⟩ + 2 ≤ b.length) (hk20 : 20 ≤ k) (hnk : nk true 0 + a.bytes.length ≤ b.length) (hc : rsC (lay (q1 b ⟨true, pr, (k : Int), s1, d1, pt, hp⟩ 0 a p (rs1 b ⟨true, pr, (k : Int), s1, d1, pt, hp⟩ 0 a p)) ((Hd.mk true pr (k : Int) s1 d1 pt hp).pos.toNat + sj ⟨true, pr, (k : Int), s1, d1, pt, hp⟩) (twoB 0)) (hdA ⟨true, pr, (k : Int), s1, d1, pt, hp⟩ 0 a) = 0 ∧ pr.toNat = 17) :
    Triple Try.prog 7 #[v, .int .i64 0, ag (adc a), .int .u16 (p : Int)] [rb v b] (RW (r5 b ⟨true, pr, (k : Int), s1, d1, pt, hp⟩ false 0 a p) 0) := by
  have c1 := rparse_t v b hl
  rw [he] at c1
  have c2 := rgood_t a
  rw [hg] at c2
  have c4 := rbytes_t a
  have la := a.len
  have ls := s1.len
  have ld := d1.len
  have lf1 := fl.src.len
  have lf2 := fl.dst.len
  have hpr := pr.toNat_lt
  obtain ⟨j, hjj⟩ : ∃ j, j = sj ⟨true, pr, (k : Int), s1, d1, pt, hp⟩ := ⟨_, rfl⟩
  have hj6 := sj_ge ⟨true, pr, (k : Int), s1, d1, pt, hp⟩
  rw [← hjj] at hj hk2 hj6
  subst hj
  have hbl := a.bytes_len
  rw [hs] at hbl
  have t : ∀ n, (twoB n).length = 2 := fun n => rfl
  have t0 : ([0, 0] : List UInt8).length = 2 := rfl
  have c5 := fun v1 => rlay_t v v1 b a.bytes (nk true 0) hnk hl
  have l1 : (lay b (nk true 0) a.bytes).length = b.length := lay_length hnk
  have c6 := rtwo_t p hp1
  have c7 := fun v1 v2 => rlay_t v1 v2 (lay b (nk true 0) a.bytes) (twoB p) (k + 2 * 0) (by rw [l1, t]; omega) (by omega)
  have eC : lay (lay b (nk true 0) a.bytes) (k + 2 * 0) (twoB p) = core b ⟨true, pr, (k : Int), s1, d1, pt, hp⟩ 0 a p := by unfold core; rfl
  have l2 : (core b ⟨true, pr, (k : Int), s1, d1, pt, hp⟩ 0 a p).length = b.length := by rw [← eC, lay_length (by rw [l1, t]; omega), l1]
  rw [eC] at c7
  unfold r5
  unfold rs1 q1 at hc ⊢
  show Triple _ _ _ _ (RW (q2 _ _ false (rs2 (lay _ (k + sj _) (twoB 0)) _)) 0)
  rw [← hjj] at hc ⊢
  rw [show hdA ⟨true, pr, (k : Int), s1, d1, pt, hp⟩ 0 a = ⟨true, pr, (k : Int), a, d1, pt, hp⟩ from rfl] at hc ⊢
  simp only [show (Hd.mk true pr (k : Int) s1 d1 pt hp).pos.toNat = k from rfl, show (Hd.mk true pr (k : Int) s1 d1 pt hp).six = true from rfl] at hc ⊢
  rw [show twoB 0 = [0, 0] from rfl] at hc ⊢
  try simp only [if_true] at hc ⊢
  generalize core b ⟨true, pr, (k : Int), s1, d1, pt, hp⟩ 0 a p = C at *
  have lC : C.length = b.length := l2
  generalize lay b (nk true 0) a.bytes = L1 at *
  generalize hn : a.bytes.length = n at *
  generalize twoB p = T1 at *
  generalize a.bytes = ab at *
  unfold q2
  rw [if_neg (by decide)]
  dsimp only
  rw [← hjj]
  rw [show twoB 0 = [0, 0] from rfl]
  simp only [show (k : Int).toNat = k from rfl]
  have c12 := fun v1 v2 => rlay_t v1 v2 C [0, 0] (k + j) (by rw [lC, t0]; omega) (by omega)
  have lD : (lay C (k + j) [0, 0]).length = b.length := by rw [lay_length (by rw [lC, t0]; omega), lC]
  generalize lay C (k + j) [0, 0] = D at *
  unfold rs2
  unfold rsC at hc ⊢
  dsimp only at hc ⊢
  simp only [show (k : Int).toNat = k from rfl] at hc ⊢
  have c13 := rpseudo_t ⟨true, pr, (k : Int), a, d1, pt, hp⟩ ((D.length - k : Nat) : Int) (D.length - k) (by rw [IntKind.wrap_u64]; omega) (by omega)
  have hps := psu_len ⟨true, pr, (k : Int), a, d1, pt, hp⟩ (D.length - k)
  have c14 := fun v1 => rsum_t v1 (psu ⟨true, pr, (k : Int), a, d1, pt, hp⟩ (D.length - k) ++ seg D k (D.length - k)) (by rw [List.length_append, seg_length (by omega)]; omega)
  have hS := csum_le (psu ⟨true, pr, (k : Int), a, d1, pt, hp⟩ (D.length - k) ++ seg D k (D.length - k))
  have hsl2 : (seg D k (D.length - k)).length = D.length - k := seg_length (by omega)
  generalize psu ⟨true, pr, (k : Int), a, d1, pt, hp⟩ (D.length - k) = ps at *
  generalize csum (ps ++ seg D k (D.length - k)) = S2 at *
  obtain ⟨hc1, hc2⟩ := hc
  rw [if_pos ⟨hc1, hc2⟩]
  have c15 := rtwo_t 65535 (by omega)
  have c16 := fun v1 v2 => rlay_t v1 v2 D (twoB 65535) (k + j) (by rw [lD, t]; omega) (by omega)
  generalize twoB 65535 = T2 at *
  refine Triple.enter Try.func7 rfl Try.ntmps7 rfl (fun W => ?_)
  dsimp only [argsF, Nat.reduceAdd]
  repeat' (first
   | refine WPl.nil ?_ | refine WPq.then ?_ | refine WPq.thenR ?_ | refine WPq.thenE ?_ | refine WPq.blockN ?_ | refine WPq.blockR ?_ | refine WPq.blockE ?_ | refine WPq.blockO rfl ?_ | refine WPc.seq ?_ | refine WPc.block ?_ | refine WPc.ret ?_ | refine WPc.exit ?_ | refine WPc.skip ?_ | refine WPc.region ?_
   | (refine isReg 9 ?_; refine WPc.drA [([], [46, 47, 48, 49, 50, 51, 52, 54, 55, 56, 57, 58, 59, 60]), ([], [45, 47, 48, 49, 51, 52, 54, 55, 56, 57, 58, 59, 60]), ([], [45, 46, 48, 51, 52, 54, 55, 56, 57, 58, 59, 60]), ([], [45, 46, 47, 51, 52, 54, 55, 56, 57, 58, 59, 60]), ([2, 3], [45, 46, 47, 48, 51, 52, 54, 55, 56, 57, 58, 59, 60]), ([1, 2, 3, 4], [45, 46, 47, 48, 49, 51, 52, 54, 55, 56, 57, 58, 59, 60]), ([], [45, 46, 47, 48, 49, 50, 54, 55, 56, 57, 58, 59, 60]), ([6], [45, 46, 47, 48, 49, 50, 51, 54, 55, 56, 57, 58, 59, 60]), ([0, 1, 2, 3, 4, 5, 6, 7], [45, 46, 47, 48, 49, 50, 51, 52, 54, 55, 56, 57, 58, 59, 60]), ([], [45, 46, 47, 48, 49, 50, 51, 52, 53, 57, 58, 60, 61]), ([9], [45, 46, 47, 48, 49, 50, 51, 52, 53, 54, 57, 58, 60, 61]), ([9, 10], [45, 46, 47, 48, 49, 50, 51, 52, 53, 54, 55, 57, 58, 60, 61]), ([], [45, 46, 47, 48, 49, 50, 51, 52, 53, 54, 55, 56, 60, 61]), ([12], [45, 46, 47, 48, 49, 50, 51, 52, 53, 54, 55, 56, 57, 60, 61]), ([9, 10, 11, 12, 13], [45, 46, 47, 48, 49, 50, 51, 52, 53, 54, 55, 56, 57, 58, 60, 61]), ([], [45, 46, 47, 48, 49, 50, 51, 52, 53, 54, 55, 56, 57, 58, 59]), ([0, 1, 2, 3, 4, 5, 6, 7, 8, 15], [45, 46, 47, 48, 49, 50, 51, 52, 53, 54, 55, 56, 57, 58, 59, 60]), ([0, 1, 2, 3, 4, 5, 6, 7, 8, 9, 10, 11, 12, 13, 14, 15, 16], [45, 46, 47, 48, 49, 50, 51, 52, 53, 54, 55, 56, 57, 58, 59, 60, 61]), ([0, 1, 2, 3, 4, 5, 6, 7, 8, 9, 10, 11, 12, 13, 14, 15, 16, 17], [45, 46, 47, 48, 49, 50, 51, 52, 53, 54, 55, 56, 57, 58, 59, 60, 61, 62])] [] (Γx := []) ?_; dsimp only [prev0, List.length_nil, List.length_cons])
   | (refine isReg 15 ?_; refine WPc.drA [([], [15, 84, 85, 86, 87, 88, 89, 90]), ([0], [15, 82, 84, 85, 86, 87, 88, 89, 90]), ([], [15, 82, 83, 87, 88, 89]), ([2], [15, 82, 83, 84, 87, 88, 89]), ([2, 3], [15, 82, 83, 84, 85, 87, 88, 89]), ([], [15, 82, 83, 84, 85, 86]), ([5], [15, 82, 83, 84, 85, 86, 87]), ([5, 6], [15, 82, 83, 84, 85, 86, 87, 88]), ([2, 3, 4, 5, 6, 7], [15, 82, 83, 84, 85, 86, 87, 88, 89]), ([], [82, 83, 84, 85, 86, 87, 88, 89, 90]), ([0, 1, 9], [15, 82, 83, 84, 85, 86, 87, 88, 89, 90]), ([0, 1, 2, 3, 4, 5, 6, 7, 8, 9, 10], [15, 82, 83, 84, 85, 86, 87, 88, 89, 90])] [(9, 10)] (Γx := []) ?_; dsimp only [prev0, List.length_nil, List.length_cons])
   | (refine isReg 20 ?_; refine WPc.drA [([], [102, 103, 104, 105, 106, 108, 109, 110, 111]), ([], [101, 104, 105, 108, 109, 110, 111]), ([1], [101, 102, 104, 105, 108, 109, 110, 111]), ([], [101, 102, 103, 108, 109, 110, 111]), ([3], [101, 102, 103, 104, 108, 109, 110, 111]), ([1, 2, 3, 4], [101, 102, 103, 104, 105, 108, 109, 110, 111]), ([0, 1, 2, 3, 4, 5], [101, 102, 103, 104, 105, 106, 108, 109, 110, 111]), ([], [101, 102, 103, 104, 105, 106, 107, 109, 110]), ([], [101, 102, 103, 104, 105, 106, 107, 108]), ([8], [101, 102, 103, 104, 105, 106, 107, 108, 109]), ([7, 8, 9], [101, 102, 103, 104, 105, 106, 107, 108, 109, 110]), ([0, 1, 2, 3, 4, 5, 6, 7, 8, 9, 10], [101, 102, 103, 104, 105, 106, 107, 108, 109, 110, 111]), ([0, 1, 2, 3, 4, 5, 6, 7, 8, 9, 10, 11], [101, 102, 103, 104, 105, 106, 107, 108, 109, 110, 111, 112]), ([0, 1, 2, 3, 4, 5, 6, 7, 8, 9, 10, 11, 12], [101, 102, 103, 104, 105, 106, 107, 108, 109, 110, 111, 112, 113])] [(6, 11)] (Γx := []) ?_; dsimp only [prev0, List.length_nil, List.length_cons])
   | (refine gAny ?_; first | (refine gC 20 ?_; refine RGl.vl (fun e hk => OpT.callN (c1)) ?_) | (refine gC 28 ?_; refine RGl.vl (fun e hk => OpT.callN (c2)) ?_) | (refine gC 52 ?_; refine RGl.row (Γ1 := fun _ => []) (fun e hk => OpT.callN (c4)) ?_) | (refine gC 53 ?_; refine RGl.row (Γ1 := fun _ => []) (fun e hk => OpT.callN ((c5 _))) ?_) | (refine gC 61 ?_; refine RGl.row (Γ1 := fun _ => []) (fun e hk => OpT.callN (c6)) ?_) | (refine gC 62 ?_; refine RGl.row (Γ1 := fun _ => []) (fun e hk => OpT.callN ((c7 _ _))) ?_) | (refine gC 100 ?_; refine RGl.row (Γ1 := fun _ => []) (fun e hk => OpT.callN ((c12 _ _))) ?_) | (refine gC 107 ?_; refine RGl.row (Γ1 := fun _ => []) (fun e hk => OpT.callN (c13)) ?_) | (refine gC 113 ?_; refine RGl.vl (fun e hk => OpT.callN ((c14 _))) ?_) | (refine gC 124 ?_; refine RGl.row (Γ1 := fun _ => []) (fun e hk => OpT.callN (c15)) ?_) | (refine gC 125 ?_; refine RGl.row (Γ1 := fun _ => []) (fun e hk => OpT.callN ((c16 _ _))) ?_) | (refine gD 36 ?_; refine RGl.rdX (fun e hk => by (try dsimp only [bndR, ensR, oksR, fcutR, List.append_nil, List.nil_append, List.cons_append, List.append_assoc] at hk ⊢); exact ReadR.binE rfl rfl (BinR.neqB (by kernel_rfl)) (congrArg Value.bool (show (!(a.six == true)) = false by rw [hs]; rfl))) ?_) | (refine gD 40 ?_; refine RGl.rdX (fun e hk => by (try dsimp only [bndR, ensR, oksR, fcutR, List.append_nil, List.nil_append, List.cons_append, List.append_assoc] at hk ⊢); exact ReadR.binE rfl rfl BinR.eql (congrArg Value.bool (decide_eq_false (show ¬ (p : Int) = 0 by omega)))) ?_) | (refine gD 50 ?_; refine RGl.rdX (fun e hk => by (try dsimp only [bndR, ensR, oksR, fcutR, List.append_nil, List.nil_append, List.cons_append, List.append_assoc] at hk ⊢); exact ReadR.binE rfl rfl (BinR.addI (by omega) (by omega)) (congrArg (Value.int .i64) (show _ = ((nk true 0 : Nat) : Int) from by first | rfl | (simp [nk]; done) | (simp [nk]; omega)))) ?_) | (refine gD 59 ?_; refine RGl.rdX (fun e hk => by (try dsimp only [bndR, ensR, oksR, fcutR, List.append_nil, List.nil_append, List.cons_append, List.append_assoc] at hk ⊢); exact ReadR.binE rfl rfl (BinR.addI (by omega) (by omega)) (congrArg (Value.int .i64) (show _ = ((k + 2 * 0 : Nat) : Int) from by first | omega | (simp; done) | (simp; omega)))) ?_) | (refine gD 90 ?_; refine RGl.rdX (fun e hk => by (try dsimp only [bndR, ensR, oksR, fcutR, List.append_nil, List.nil_append, List.cons_append, List.append_assoc] at hk ⊢); exact ReadR.binE rfl rfl (BinR.addI (by omega) (by omega)) (congrArg (Value.int .i64) (show _ = ((k + j : Nat) : Int) from by omega))) ?_) | (refine gD 106 ?_; refine RGl.rdX (fun e hk => by (try dsimp only [bndR, ensR, oksR, fcutR, List.append_nil, List.nil_append, List.cons_append, List.append_assoc] at hk ⊢); exact ReadR.binE rfl rfl (BinR.subI (by omega) (by omega)) (congrArg (Value.int .i64) (show _ = ((D.length - k : Nat) : Int) from by omega))) ?_) | ((show RGl _ _ _ _ _ _ _ _ (⟨_, .store _ (.tmp 15) _, _, _, _, _⟩ :: _) _ _; refine RGl.turn (fun e hk => by (try dsimp only [bndR, ensR, oksR, fcutR, List.append_nil, List.nil_append, List.cons_append, List.append_assoc] at hk ⊢); exact OpT.storeA (cs' := hdc ⟨true, pr, (k : Int), s1, d1, pt, hp⟩) rfl rfl takesA fokA (by kernel_rfl) (by kernel_rfl)) ?_)) | (refine gD 115 ?_; refine RGl.rdX (fun e hk => by (try dsimp only [bndR, ensR, oksR, fcutR, List.append_nil, List.nil_append, List.cons_append, List.append_assoc] at hk ⊢); exact ReadR.binE rfl rfl BinR.eql (congrArg Value.bool (decide_eq_true (show ((S2 : Nat) : Int) = 0 by omega)))) ?_) | (refine gD 119 ?_; refine RGl.rdX (fun e hk => by (try dsimp only [bndR, ensR, oksR, fcutR, List.append_nil, List.nil_append, List.cons_append, List.append_assoc] at hk ⊢); exact ReadR.binE rfl rfl BinR.eql (congrArg Value.bool (decide_eq_true (show ((pr.toNat : Nat) : Int) = 17 by omega)))) ?_) | (refine gOp ?_; first | refine RGl.rdA ?_ | refine RGl.rdX (fun e hk => by (try dsimp only [bndR, ensR, oksR, fcutR, List.append_nil, List.nil_append, List.cons_append, List.append_assoc] at hk ⊢); exact readB) ?_) | (refine gAl ?_; refine RGl.nwA ?_) | (refine gApp ?_; refine RGl.appA ?_) | (refine gSt ?_; refine RGl.stA ?_) | (refine RGl.fin (fun e hk => ?_); (try dsimp only [bndA, ensAR, oksA, List.append_nil, List.nil_append, List.cons_append, List.append_assoc] at hk ⊢); (repeat (obtain ⟨hk1, hk⟩ := hk))) | fail)
   | (refine isCond ?_; first | refine WPc.cT ?_ | refine WPc.cF ?_ | (refine WPc.cQ (fun hc => ?_) (fun hc => ?_) <;> try exact prA))
   | (refine isD 36 ?_; refine WPl.rdX (ReadR.binE rfl rfl (BinR.neqB (by kernel_rfl)) (congrArg Value.bool (show (!(a.six == true)) = false by rw [hs]; rfl))) ?_)
   | (refine isD 40 ?_; refine WPl.rdX (ReadR.binE rfl rfl BinR.eql (congrArg Value.bool (decide_eq_false (show ¬ (p : Int) = 0 by omega)))) ?_)
   | (refine isC 20 ?_; refine WPl.cV (c1) ?_)
   | (show WPl _ _ _ _ _ _ _ (⟨_, .store 39 (.tmp 10) _, _, _, _, _⟩ :: _) _; refine WPl.stA (new := pkc ⟨⟨true, pr, (k : Int), s1, d1, pt, hp⟩, ⟨sr, ds, fg, (j : Int), false, da⟩, fl⟩) ?_ (ht := by kernel_rfl))
   | (refine isC 28 ?_; refine WPl.cV (c2) ?_)
   | (refine isC 52 ?_; refine WPl.cR (c4) fun v hv => ?_)
   | (refine isC 53 ?_; refine WPl.cR ((c5 _)) fun v hv => ?_)
   | (refine isC 61 ?_; refine WPl.cR (c6) fun v hv => ?_)
   | (refine isC 62 ?_; refine WPl.cR ((c7 _ _)) fun v hv => ?_)
   | (refine isLit ?_; refine WPl.lit fun v hv => ?_)
   | (refine isC 100 ?_; refine WPl.cR ((c12 _ _)) fun v hv => ?_)
   | (refine isC 107 ?_; refine WPl.cR (c13) fun v hv => ?_)
   | (refine isC 113 ?_; refine WPl.cV ((c14 _)) ?_)
   | (refine isC 124 ?_; refine WPl.cR (c15) fun v hv => ?_)
   | (refine isC 125 ?_; refine WPl.cR ((c16 _ _)) fun v hv => ?_)
   | (refine isD 115 ?_; refine WPl.rdX (ReadR.binE rfl rfl BinR.eql (congrArg Value.bool (decide_eq_true (show ((S2 : Nat) : Int) = 0 by omega)))) ?_)
   | (refine isD 119 ?_; refine WPl.rdX (ReadR.binE rfl rfl BinR.eql (congrArg Value.bool (decide_eq_true (show ((pr.toNat : Nat) : Int) = 17 by omega)))) ?_)
   | (refine isOp ?_; first | refine WPl.rd ?_ | refine WPl.sk ?_ | refine WPl.rdB ?_)
   | (refine isAl ?_; refine WPl.nw fun g => ?_)
   | (refine isBx ?_; refine WPl.nw fun g => ?_)
   | (refine isSt ?_; first | refine WPl.st1 ?_ | refine WPl.stA ?_ | refine WPl.stEB ?_ | refine WPl.stRB ?_)
   | (show WPl _ _ _ _ _ _ _ (⟨_, .indexAddr _ _ _, _, _, _, _⟩ :: _) _; refine WPl.rdX (ReadR.indexE rfl rfl hasA (by first | assumption | omega)) ?_)
   | (show WPl _ _ _ _ _ _ _ (⟨_, .fieldAddr _ _ _, _, _, _, _⟩ :: _) _; refine WPl.rdX (ReadR.fieldE rfl hasA (by first | assumption | omega)) ?_)
   | (show WPl _ _ _ _ _ _ _ (⟨_, .load _ _, _, _, _, _⟩ :: _) _; first | refine WPl.rdX (ReadR.loadE rfl hasA (by assumption)) ?_ | refine WPl.rdX (ReadR.loadES (by assumption) (by first | assumption | omega) rfl hasA) ?_)
   | (show WPl _ _ _ _ _ _ _ (⟨_, .slice _ _ _ _ _, _, _, _, _⟩ :: _) _; first | refine WPl.rdX (ReadR.sliceH rfl rfl hasA (by omega)) ?_ | refine WPl.rdX (ReadR.sliceL rfl rfl hasA (by omega)) ?_ | refine WPl.rdX (ReadR.sliceLH rfl rfl rfl hasA (by omega) (by omega)) ?_)
   | (refine WPl.spQ (fun hc => ?_) (fun hc => ?_) <;> try exact prA)
   | fail)
  all_goals try (first | exact WPq.dTp | exact WPq.dTs | exact WPq.dV | exact WPq.dR | exact WPq.dR2 | exact WPq.dH | exact WPq.dBH | exact WPq.dT)
theorem rrw_t0b (v : Value) (b : List UInt8) (a : Adr) (p : Nat) (pr : UInt8) (k : Nat) (s1 d1 : Adr) (pt : Bool) (hp : UInt8) (sr ds : Nat) (fg : UInt8) (sa : Int) (da : Int) (fl : Fl) (hp1 : p ≤ 65535) (hp0 : p ≠ 0) (hl : b.length ≤ 100000) (he : pkVal b = .tuple #[ag (pkc ⟨⟨true, pr, (k : Int), s1, d1, pt, hp⟩, ⟨sr, ds, fg, sa, false, da⟩, fl⟩), .int .i64 0])
    (hg : a.good = true) (hs : a.six = true) (hj : sa = (sj ⟨true, pr, (k : Int), s1, d1, pt, hp⟩ : Int)) (hk2 : k + sj ⟨true, pr, (k : Int), s1, d1, pt, hp⟩ + 2 ≤ b.length) (hk20 : 20 ≤ k) (hnk : nk true 0 + a.bytes.length ≤ b.length) (hc : rsC (lay (q1 b ⟨true, pr, (k : Int), s1, d1, pt, hp⟩ 0 a p (rs1 b ⟨true, pr, (k : Int), s1, d1, pt, hp⟩ 0 a p)) ((Hd.mk true pr (k : Int) s1 d1 pt hp).pos.toNat + sj ⟨true, pr, (k : Int), s1, d1, pt, hp⟩) (twoB 0)) (hdA ⟨true, pr, (k : Int), s1, d1, pt, hp⟩ 0 a) = 0 ∧ ¬ pr.toNat = 17) :
    Triple Try.prog 7 #[v, .int .i64 0, ag (adc a), .int .u16 (p : Int)] [rb v b] (RW (r5 b ⟨true, pr, (k : Int), s1, d1, pt, hp⟩ false 0 a p) 0) := by
  have c1 := rparse_t v b hl
  rw [he] at c1
  have c2 := rgood_t a
  rw [hg] at c2
  have c4 := rbytes_t a
  have la := a.len
  have ls := s1.len
  have ld := d1.len
  have lf1 := fl.src.len
  have lf2 := fl.dst.len
  have hpr := pr.toNat_lt
  obtain ⟨j, hjj⟩ : ∃ j, j = sj ⟨true, pr, (k : Int), s1, d1, pt, hp⟩ := ⟨_, rfl⟩
  have hj6 := sj_ge ⟨true, pr, (k : Int), s1, d1, pt, hp⟩
  rw [← hjj] at hj hk2 hj6
  subst hj
  have hbl := a.bytes_len
  rw [hs] at hbl
  have t : ∀ n, (twoB n).length = 2 := fun n => rfl
  have t0 : ([0, 0] : List UInt8).length = 2 := rfl
  have c5 := fun v1 => rlay_t v v1 b a.bytes (nk true 0) hnk hl
  have l1 : (lay b (nk true 0) a.bytes).length = b.length := lay_length hnk
  have c6 := rtwo_t p hp1
  have c7 := fun v1 v2 => rlay_t v1 v2 (lay b (nk true 0) a.bytes) (twoB p) (k + 2 * 0) (by rw [l1, t]; omega) (by omega)
  have eC : lay (lay b (nk true 0) a.bytes) (k + 2 * 0) (twoB p) = core b ⟨true, pr, (k : Int), s1, d1, pt, hp⟩ 0 a p := by unfold core; rfl
  have l2 : (core b ⟨true, pr, (k : Int), s1, d1, pt, hp⟩ 0 a p).length = b.length := by rw [← eC, lay_length (by rw [l1, t]; omega), l1]
  rw [eC] at c7
  unfold r5
  unfold rs1 q1 at hc ⊢
  show Triple _ _ _ _ (RW (q2 _ _ false (rs2 (lay _ (k + sj _) (twoB 0)) _)) 0)
  rw [← hjj] at hc ⊢
  rw [show hdA ⟨true, pr, (k : Int), s1, d1, pt, hp⟩ 0 a = ⟨true, pr, (k : Int), a, d1, pt, hp⟩ from rfl] at hc ⊢
  simp only [show (Hd.mk true pr (k : Int) s1 d1 pt hp).pos.toNat = k from rfl, show (Hd.mk true pr (k : Int) s1 d1 pt hp).six = true from rfl] at hc ⊢
  rw [show twoB 0 = [0, 0] from rfl] at hc ⊢
  try simp only [if_true] at hc ⊢
  generalize core b ⟨true, pr, (k : Int), s1, d1, pt, hp⟩ 0 a p = C at *
  have lC : C.length = b.length := l2
  generalize lay b (nk true 0) a.bytes = L1 at *
  generalize hn : a.bytes.length = n at *
  generalize twoB p = T1 at *
  generalize a.bytes = ab at *
  unfold q2
  rw [if_neg (by decide)]
  dsimp only
  rw [← hjj]
  rw [show twoB 0 = [0, 0] from rfl]
  simp only [show (k : Int).toNat = k from rfl]
  have c12 := fun v1 v2 => rlay_t v1 v2 C [0, 0] (k + j) (by rw [lC, t0]; omega) (by omega)
  have lD : (lay C (k + j) [0, 0]).length = b.length := by rw [lay_length (by rw [lC, t0]; omega), lC]
  generalize lay C (k + j) [0, 0] = D at *
  unfold rs2
  unfold rsC at hc ⊢
  dsimp only at hc ⊢
  simp only [show (k : Int).toNat = k from rfl] at hc ⊢
  have c13 := rpseudo_t ⟨true, pr, (k : Int), a, d1, pt, hp⟩ ((D.length - k : Nat) : Int) (D.length - k) (by rw [IntKind.wrap_u64]; omega) (by omega)
  have hps := psu_len ⟨true, pr, (k : Int), a, d1, pt, hp⟩ (D.length - k)
  have c14 := fun v1 => rsum_t v1 (psu ⟨true, pr, (k : Int), a, d1, pt, hp⟩ (D.length - k) ++ seg D k (D.length - k)) (by rw [List.length_append, seg_length (by omega)]; omega)
  have hS := csum_le (psu ⟨true, pr, (k : Int), a, d1, pt, hp⟩ (D.length - k) ++ seg D k (D.length - k))
  have hsl2 : (seg D k (D.length - k)).length = D.length - k := seg_length (by omega)
  generalize psu ⟨true, pr, (k : Int), a, d1, pt, hp⟩ (D.length - k) = ps at *
  generalize csum (ps ++ seg D k (D.length - k)) = S2 at *
  obtain ⟨hc1, hc2⟩ := hc
  rw [if_neg (fun h => hc2 h.2)]
  have c15 := rtwo_t S2 (by omega)
  have c16 := fun v1 v2 => rlay_t v1 v2 D (twoB S2) (k + j) (by rw [lD, t]; omega) (by omega)
  generalize twoB S2 = T2 at *
  refine Triple.enter Try.func7 rfl Try.ntmps7 rfl (fun W => ?_)
  dsimp only [argsF, Nat.reduceAdd]
  repeat' (first
   | refine WPl.nil ?_ | refine WPq.then ?_ | refine WPq.thenR ?_ | refine WPq.thenE ?_ | refine WPq.blockN ?_ | refine WPq.blockR ?_ | refine WPq.blockE ?_ | refine WPq.blockO rfl ?_ | refine WPc.seq ?_ | refine WPc.block ?_ | refine WPc.ret ?_ | refine WPc.exit ?_ | refine WPc.skip ?_ | refine WPc.region ?_
   | (refine isReg 9 ?_; refine WPc.drA [([], [46, 47, 48, 49, 50, 51, 52, 54, 55, 56, 57, 58, 59, 60]), ([], [45, 47, 48, 49, 51, 52, 54, 55, 56, 57, 58, 59, 60]), ([], [45, 46, 48, 51, 52, 54, 55, 56, 57, 58, 59, 60]), ([], [45, 46, 47, 51, 52, 54, 55, 56, 57, 58, 59, 60]), ([2, 3], [45, 46, 47, 48, 51, 52, 54, 55, 56, 57, 58, 59, 60]), ([1, 2, 3, 4], [45, 46, 47, 48, 49, 51, 52, 54, 55, 56, 57, 58, 59, 60]), ([], [45, 46, 47, 48, 49, 50, 54, 55, 56, 57, 58, 59, 60]), ([6], [45, 46, 47, 48, 49, 50, 51, 54, 55, 56, 57, 58, 59, 60]), ([0, 1, 2, 3, 4, 5, 6, 7], [45, 46, 47, 48, 49, 50, 51, 52, 54, 55, 56, 57, 58, 59, 60]), ([], [45, 46, 47, 48, 49, 50, 51, 52, 53, 57, 58, 60, 61]), ([9], [45, 46, 47, 48, 49, 50, 51, 52, 53, 54, 57, 58, 60, 61]), ([9, 10], [45, 46, 47, 48, 49, 50, 51, 52, 53, 54, 55, 57, 58, 60, 61]), ([], [45, 46, 47, 48, 49, 50, 51, 52, 53, 54, 55, 56, 60, 61]), ([12], [45, 46, 47, 48, 49, 50, 51, 52, 53, 54, 55, 56, 57, 60, 61]), ([9, 10, 11, 12, 13], [45, 46, 47, 48, 49, 50, 51, 52, 53, 54, 55, 56, 57, 58, 60, 61]), ([], [45, 46, 47, 48, 49, 50, 51, 52, 53, 54, 55, 56, 57, 58, 59]), ([0, 1, 2, 3, 4, 5, 6, 7, 8, 15], [45, 46, 47, 48, 49, 50, 51, 52, 53, 54, 55, 56, 57, 58, 59, 60]), ([0, 1, 2, 3, 4, 5, 6, 7, 8, 9, 10, 11, 12, 13, 14, 15, 16], [45, 46, 47, 48, 49, 50, 51, 52, 53, 54, 55, 56, 57, 58, 59, 60, 61]), ([0, 1, 2, 3, 4, 5, 6, 7, 8, 9, 10, 11, 12, 13, 14, 15, 16, 17], [45, 46, 47, 48, 49, 50, 51, 52, 53, 54, 55, 56, 57, 58, 59, 60, 61, 62])] [] (Γx := []) ?_; dsimp only [prev0, List.length_nil, List.length_cons])
   | (refine isReg 15 ?_; refine WPc.drA [([], [15, 84, 85, 86, 87, 88, 89, 90]), ([0], [15, 82, 84, 85, 86, 87, 88, 89, 90]), ([], [15, 82, 83, 87, 88, 89]), ([2], [15, 82, 83, 84, 87, 88, 89]), ([2, 3], [15, 82, 83, 84, 85, 87, 88, 89]), ([], [15, 82, 83, 84, 85, 86]), ([5], [15, 82, 83, 84, 85, 86, 87]), ([5, 6], [15, 82, 83, 84, 85, 86, 87, 88]), ([2, 3, 4, 5, 6, 7], [15, 82, 83, 84, 85, 86, 87, 88, 89]), ([], [82, 83, 84, 85, 86, 87, 88, 89, 90]), ([0, 1, 9], [15, 82, 83, 84, 85, 86, 87, 88, 89, 90]), ([0, 1, 2, 3, 4, 5, 6, 7, 8, 9, 10], [15, 82, 83, 84, 85, 86, 87, 88, 89, 90])] [(9, 10)] (Γx := []) ?_; dsimp only [prev0, List.length_nil, List.length_cons])
   | (refine isReg 20 ?_; refine WPc.drA [([], [102, 103, 104, 105, 106, 108, 109, 110, 111]), ([], [101, 104, 105, 108, 109, 110, 111]), ([1], [101, 102, 104, 105, 108, 109, 110, 111]), ([], [101, 102, 103, 108, 109, 110, 111]), ([3], [101, 102, 103, 104, 108, 109, 110, 111]), ([1, 2, 3, 4], [101, 102, 103, 104, 105, 108, 109, 110, 111]), ([0, 1, 2, 3, 4, 5], [101, 102, 103, 104, 105, 106, 108, 109, 110, 111]), ([], [101, 102, 103, 104, 105, 106, 107, 109, 110]), ([], [101, 102, 103, 104, 105, 106, 107, 108]), ([8], [101, 102, 103, 104, 105, 106, 107, 108, 109]), ([7, 8, 9], [101, 102, 103, 104, 105, 106, 107, 108, 109, 110]), ([0, 1, 2, 3, 4, 5, 6, 7, 8, 9, 10], [101, 102, 103, 104, 105, 106, 107, 108, 109, 110, 111]), ([0, 1, 2, 3, 4, 5, 6, 7, 8, 9, 10, 11], [101, 102, 103, 104, 105, 106, 107, 108, 109, 110, 111, 112]), ([0, 1, 2, 3, 4, 5, 6, 7, 8, 9, 10, 11, 12], [101, 102, 103, 104, 105, 106, 107, 108, 109, 110, 111, 112, 113])] [(6, 11)] (Γx := []) ?_; dsimp only [prev0, List.length_nil, List.length_cons])
   | (refine gAny ?_; first | (refine gC 20 ?_; refine RGl.vl (fun e hk => OpT.callN (c1)) ?_) | (refine gC 28 ?_; refine RGl.vl (fun e hk => OpT.callN (c2)) ?_) | (refine gC 52 ?_; refine RGl.row (Γ1 := fun _ => []) (fun e hk => OpT.callN (c4)) ?_) | (refine gC 53 ?_; refine RGl.row (Γ1 := fun _ => []) (fun e hk => OpT.callN ((c5 _))) ?_) | (refine gC 61 ?_; refine RGl.row (Γ1 := fun _ => []) (fun e hk => OpT.callN (c6)) ?_) | (refine gC 62 ?_; refine RGl.row (Γ1 := fun _ => []) (fun e hk => OpT.callN ((c7 _ _))) ?_) | (refine gC 100 ?_; refine RGl.row (Γ1 := fun _ => []) (fun e hk => OpT.callN ((c12 _ _))) ?_) | (refine gC 107 ?_; refine RGl.row (Γ1 := fun _ => []) (fun e hk => OpT.callN (c13)) ?_) | (refine gC 113 ?_; refine RGl.vl (fun e hk => OpT.callN ((c14 _))) ?_) | (refine gC 124 ?_; refine RGl.row (Γ1 := fun _ => []) (fun e hk => OpT.callN (c15)) ?_) | (refine gC 125 ?_; refine RGl.row (Γ1 := fun _ => []) (fun e hk => OpT.callN ((c16 _ _))) ?_) | (refine gD 36 ?_; refine RGl.rdX (fun e hk => by (try dsimp only [bndR, ensR, oksR, fcutR, List.append_nil, List.nil_append, List.cons_append, List.append_assoc] at hk ⊢); exact ReadR.binE rfl rfl (BinR.neqB (by kernel_rfl)) (congrArg Value.bool (show (!(a.six == true)) = false by rw [hs]; rfl))) ?_) | (refine gD 40 ?_; refine RGl.rdX (fun e hk => by (try dsimp only [bndR, ensR, oksR, fcutR, List.append_nil, List.nil_append, List.cons_append, List.append_assoc] at hk ⊢); exact ReadR.binE rfl rfl BinR.eql (congrArg Value.bool (decide_eq_false (show ¬ (p : Int) = 0 by omega)))) ?_) | (refine gD 50 ?_; refine RGl.rdX (fun e hk => by (try dsimp only [bndR, ensR, oksR, fcutR, List.append_nil, List.nil_append, List.cons_append, List.append_assoc] at hk ⊢); exact ReadR.binE rfl rfl (BinR.addI (by omega) (by omega)) (congrArg (Value.int .i64) (show _ = ((nk true 0 : Nat) : Int) from by first | rfl | (simp [nk]; done) | (simp [nk]; omega)))) ?_) | (refine gD 59 ?_; refine RGl.rdX (fun e hk => by (try dsimp only [bndR, ensR, oksR, fcutR, List.append_nil, List.nil_append, List.cons_append, List.append_assoc] at hk ⊢); exact ReadR.binE rfl rfl (BinR.addI (by omega) (by omega)) (congrArg (Value.int .i64) (show _ = ((k + 2 * 0 : Nat) : Int) from by first | omega | (simp; done) | (simp; omega)))) ?_) | (refine gD 90 ?_; refine RGl.rdX (fun e hk => by (try dsimp only [bndR, ensR, oksR, fcutR, List.append_nil, List.nil_append, List.cons_append, List.append_assoc] at hk ⊢); exact ReadR.binE rfl rfl (BinR.addI (by omega) (by omega)) (congrArg (Value.int .i64) (show _ = ((k + j : Nat) : Int) from by omega))) ?_) | (refine gD 106 ?_; refine RGl.rdX (fun e hk => by (try dsimp only [bndR, ensR, oksR, fcutR, List.append_nil, List.nil_append, List.cons_append, List.append_assoc] at hk ⊢); exact ReadR.binE rfl rfl (BinR.subI (by omega) (by omega)) (congrArg (Value.int .i64) (show _ = ((D.length - k : Nat) : Int) from by omega))) ?_) | ((show RGl _ _ _ _ _ _ _ _ (⟨_, .store _ (.tmp 15) _, _, _, _, _⟩ :: _) _ _; refine RGl.turn (fun e hk => by (try dsimp only [bndR, ensR, oksR, fcutR, List.append_nil, List.nil_append, List.cons_append, List.append_assoc] at hk ⊢); exact OpT.storeA (cs' := hdc ⟨true, pr, (k : Int), s1, d1, pt, hp⟩) rfl rfl takesA fokA (by kernel_rfl) (by kernel_rfl)) ?_)) | (refine gD 115 ?_; refine RGl.rdX (fun e hk => by (try dsimp only [bndR, ensR, oksR, fcutR, List.append_nil, List.nil_append, List.cons_append, List.append_assoc] at hk ⊢); exact ReadR.binE rfl rfl BinR.eql (congrArg Value.bool (decide_eq_true (show ((S2 : Nat) : Int) = 0 by omega)))) ?_) | (refine gD 119 ?_; refine RGl.rdX (fun e hk => by (try dsimp only [bndR, ensR, oksR, fcutR, List.append_nil, List.nil_append, List.cons_append, List.append_assoc] at hk ⊢); exact ReadR.binE rfl rfl BinR.eql (congrArg Value.bool (decide_eq_false (show ¬ ((pr.toNat : Nat) : Int) = 17 by omega)))) ?_) | (refine gOp ?_; first | refine RGl.rdA ?_ | refine RGl.rdX (fun e hk => by (try dsimp only [bndR, ensR, oksR, fcutR, List.append_nil, List.nil_append, List.cons_append, List.append_assoc] at hk ⊢); exact readB) ?_) | (refine gAl ?_; refine RGl.nwA ?_) | (refine gApp ?_; refine RGl.appA ?_) | (refine gSt ?_; refine RGl.stA ?_) | (refine RGl.fin (fun e hk => ?_); (try dsimp only [bndA, ensAR, oksA, List.append_nil, List.nil_append, List.cons_append, List.append_assoc] at hk ⊢); (repeat (obtain ⟨hk1, hk⟩ := hk))) | fail)
   | (refine isCond ?_; first | refine WPc.cT ?_ | refine WPc.cF ?_ | (refine WPc.cQ (fun hc => ?_) (fun hc => ?_) <;> try exact prA))
   | (refine isD 36 ?_; refine WPl.rdX (ReadR.binE rfl rfl (BinR.neqB (by kernel_rfl)) (congrArg Value.bool (show (!(a.six == true)) = false by rw [hs]; rfl))) ?_)
   | (refine isD 40 ?_; refine WPl.rdX (ReadR.binE rfl rfl BinR.eql (congrArg Value.bool (decide_eq_false (show ¬ (p : Int) = 0 by omega)))) ?_)
   | (refine isC 20 ?_; refine WPl.cV (c1) ?_)
   | (show WPl _ _ _ _ _ _ _ (⟨_, .store 39 (.tmp 10) _, _, _, _, _⟩ :: _) _; refine WPl.stA (new := pkc ⟨⟨true, pr, (k : Int), s1, d1, pt, hp⟩, ⟨sr, ds, fg, (j : Int), false, da⟩, fl⟩) ?_ (ht := by kernel_rfl))
   | (refine isC 28 ?_; refine WPl.cV (c2) ?_)
   | (refine isC 52 ?_; refine WPl.cR (c4) fun v hv => ?_)
   | (refine isC 53 ?_; refine WPl.cR ((c5 _)) fun v hv => ?_)
   | (refine isC 61 ?_; refine WPl.cR (c6) fun v hv => ?_)
   | (refine isC 62 ?_; refine WPl.cR ((c7 _ _)) fun v hv => ?_)
   | (refine isLit ?_; refine WPl.lit fun v hv => ?_)
   | (refine isC 100 ?_; refine WPl.cR ((c12 _ _)) fun v hv => ?_)
   | (refine isC 107 ?_; refine WPl.cR (c13) fun v hv => ?_)
   | (refine isC 113 ?_; refine WPl.cV ((c14 _)) ?_)
   | (refine isC 124 ?_; refine WPl.cR (c15) fun v hv => ?_)
   | (refine isC 125 ?_; refine WPl.cR ((c16 _ _)) fun v hv => ?_)
   | (refine isD 115 ?_; refine WPl.rdX (ReadR.binE rfl rfl BinR.eql (congrArg Value.bool (decide_eq_true (show ((S2 : Nat) : Int) = 0 by omega)))) ?_)
   | (refine isD 119 ?_; refine WPl.rdX (ReadR.binE rfl rfl BinR.eql (congrArg Value.bool (decide_eq_false (show ¬ ((pr.toNat : Nat) : Int) = 17 by omega)))) ?_)
   | (refine isOp ?_; first | refine WPl.rd ?_ | refine WPl.sk ?_ | refine WPl.rdB ?_)
   | (refine isAl ?_; refine WPl.nw fun g => ?_)
   | (refine isBx ?_; refine WPl.nw fun g => ?_)
   | (refine isSt ?_; first | refine WPl.st1 ?_ | refine WPl.stA ?_ | refine WPl.stEB ?_ | refine WPl.stRB ?_)
   | (show WPl _ _ _ _ _ _ _ (⟨_, .indexAddr _ _ _, _, _, _, _⟩ :: _) _; refine WPl.rdX (ReadR.indexE rfl rfl hasA (by first | assumption | omega)) ?_)
   | (show WPl _ _ _ _ _ _ _ (⟨_, .fieldAddr _ _ _, _, _, _, _⟩ :: _) _; refine WPl.rdX (ReadR.fieldE rfl hasA (by first | assumption | omega)) ?_)
   | (show WPl _ _ _ _ _ _ _ (⟨_, .load _ _, _, _, _, _⟩ :: _) _; first | refine WPl.rdX (ReadR.loadE rfl hasA (by assumption)) ?_ | refine WPl.rdX (ReadR.loadES (by assumption) (by first | assumption | omega) rfl hasA) ?_)
   | (show WPl _ _ _ _ _ _ _ (⟨_, .slice _ _ _ _ _, _, _, _, _⟩ :: _) _; first | refine WPl.rdX (ReadR.sliceH rfl rfl hasA (by omega)) ?_ | refine WPl.rdX (ReadR.sliceL rfl rfl hasA (by omega)) ?_ | refine WPl.rdX (ReadR.sliceLH rfl rfl rfl hasA (by omega) (by omega)) ?_)
   | (refine WPl.spQ (fun hc => ?_) (fun hc => ?_) <;> try exact prA)
   | fail)
  all_goals try (first | exact WPq.dTp | exact WPq.dTs | exact WPq.dV | exact WPq.dR | exact WPq.dR2 | exact WPq.dH | exact WPq.dBH | exact WPq.dT)
theorem rrw_t0c (v : Value) (b : List UInt8) (a : Adr) (p : Nat) (pr : UInt8) (k : Nat) (s1 d1 : Adr) (pt : Bool) (hp : UInt8) (sr ds : Nat) (fg : UInt8) (sa : Int) (da : Int) (fl : Fl) (hp1 : p ≤ 65535) (hp0 : p ≠ 0) (hl : b.length ≤ 100000) (he : pkVal b = .tuple #[ag (pkc ⟨⟨true, pr, (k : Int), s1, d1, pt, hp⟩, ⟨sr, ds, fg, sa, false, da⟩, fl⟩), .int .i64 0])
    (hg : a.good = true) (hs : a.six = true) (hj : sa = (sj ⟨true, pr, (k : Int), s1, d1, pt, hp⟩ : Int)) (hk2 : k + sj ⟨true, pr, (k : Int), s1, d1, pt, hp⟩ + 2 ≤ b.length) (hk20 : 20 ≤ k) (hnk : nk true 0 + a.bytes.length ≤ b.length) (hc : ¬ rsC (lay (q1 b ⟨true, pr, (k : Int), s1, d1, pt, hp⟩ 0 a p (rs1 b ⟨true, pr, (k : Int), s1, d1, pt, hp⟩ 0 a p)) ((Hd.mk true pr (k : Int) s1 d1 pt hp).pos.toNat + sj ⟨true, pr, (k : Int), s1, d1, pt, hp⟩) (twoB 0)) (hdA ⟨true, pr, (k : Int), s1, d1, pt, hp⟩ 0 a) = 0 ∧ True) :
    Triple Try.prog 7 #[v, .int .i64 0, ag (adc a), .int .u16 (p : Int)] [rb v b] (RW (r5 b ⟨true, pr, (k : Int), s1, d1, pt, hp⟩ false 0 a p) 0) := by
  have c1 := rparse_t v b hl
  rw [he] at c1
  have c2 := rgood_t a
  rw [hg] at c2
  have c4 := rbytes_t a
  have la := a.len
  have ls := s1.len
  have ld := d1.len
  have lf1 := fl.src.len
  have lf2 := fl.dst.len
  have hpr := pr.toNat_lt
  obtain ⟨j, hjj⟩ : ∃ j, j = sj ⟨true, pr, (k : Int), s1, d1, pt, hp⟩ := ⟨_, rfl⟩
  have hj6 := sj_ge ⟨true, pr, (k : Int), s1, d1, pt, hp⟩
  rw [← hjj] at hj hk2 hj6
  subst hj
  have hbl := a.bytes_len
  rw [hs] at hbl
  have t : ∀ n, (twoB n).length = 2 := fun n => rfl
  have t0 : ([0, 0] : List UInt8).length = 2 := rfl
  have c5 := fun v1 => rlay_t v v1 b a.bytes (nk true 0) hnk hl
  have l1 : (lay b (nk true 0) a.bytes).length = b.length := lay_length hnk
  have c6 := rtwo_t p hp1
  have c7 := fun v1 v2 => rlay_t v1 v2 (lay b (nk true 0) a.bytes) (twoB p) (k + 2 * 0) (by rw [l1, t]; omega) (by omega)
  have eC : lay (lay b (nk true 0) a.bytes) (k + 2 * 0) (twoB p) = core b ⟨true, pr, (k : Int), s1, d1, pt, hp⟩ 0 a p := by unfold core; rfl
  have l2 : (core b ⟨true, pr, (k : Int), s1, d1, pt, hp⟩ 0 a p).length = b.length := by rw [← eC, lay_length (by rw [l1, t]; omega), l1]
  rw [eC] at c7
  unfold r5
  unfold rs1 q1 at hc ⊢
  show Triple _ _ _ _ (RW (q2 _ _ false (rs2 (lay _ (k + sj _) (twoB 0)) _)) 0)
  rw [← hjj] at hc ⊢
  rw [show hdA ⟨true, pr, (k : Int), s1, d1, pt, hp⟩ 0 a = ⟨true, pr, (k : Int), a, d1, pt, hp⟩ from rfl] at hc ⊢
  simp only [show (Hd.mk true pr (k : Int) s1 d1 pt hp).pos.toNat = k from rfl, show (Hd.mk true pr (k : Int) s1 d1 pt hp).six = true from rfl] at hc ⊢
  rw [show twoB 0 = [0, 0] from rfl] at hc ⊢
  try simp only [if_true] at hc ⊢
  generalize core b ⟨true, pr, (k : Int), s1, d1, pt, hp⟩ 0 a p = C at *
  have lC : C.length = b.length := l2
  generalize lay b (nk true 0) a.bytes = L1 at *
  generalize hn : a.bytes.length = n at *
  generalize twoB p = T1 at *
  generalize a.bytes = ab at *
  unfold q2
  rw [if_neg (by decide)]
  dsimp only
  rw [← hjj]
  rw [show twoB 0 = [0, 0] from rfl]
  simp only [show (k : Int).toNat = k from rfl]
  have c12 := fun v1 v2 => rlay_t v1 v2 C [0, 0] (k + j) (by rw [lC, t0]; omega) (by omega)
  have lD : (lay C (k + j) [0, 0]).length = b.length := by rw [lay_length (by rw [lC, t0]; omega), lC]
  generalize lay C (k + j) [0, 0] = D at *
  unfold rs2
  unfold rsC at hc ⊢
  dsimp only at hc ⊢
  simp only [show (k : Int).toNat = k from rfl] at hc ⊢
  have c13 := rpseudo_t ⟨true, pr, (k : Int), a, d1, pt, hp⟩ ((D.length - k : Nat) : Int) (D.length - k) (by rw [IntKind.wrap_u64]; omega) (by omega)
  have hps := psu_len ⟨true, pr, (k : Int), a, d1, pt, hp⟩ (D.length - k)
  have c14 := fun v1 => rsum_t v1 (psu ⟨true, pr, (k : Int), a, d1, pt, hp⟩ (D.length - k) ++ seg D k (D.length - k)) (by rw [List.length_append, seg_length (by omega)]; omega)
  have hS := csum_le (psu ⟨true, pr, (k : Int), a, d1, pt, hp⟩ (D.length - k) ++ seg D k (D.length - k))
  have hsl2 : (seg D k (D.length - k)).length = D.length - k := seg_length (by omega)
  generalize psu ⟨true, pr, (k : Int), a, d1, pt, hp⟩ (D.length - k) = ps at *
  generalize csum (ps ++ seg D k (D.length - k)) = S2 at *
  obtain ⟨hc1, hc2⟩ := hc
  rw [if_neg (fun h => hc1 h.1)]
  have c15 := rtwo_t S2 (by omega)
  have c16 := fun v1 v2 => rlay_t v1 v2 D (twoB S2) (k + j) (by rw [lD, t]; omega) (by omega)
  generalize twoB S2 = T2 at *
  refine Triple.enter Try.func7 rfl Try.ntmps7 rfl (fun W => ?_)
  dsimp only [argsF, Nat.reduceAdd]
  repeat' (first
   | refine WPl.nil ?_ | refine WPq.then ?_ | refine WPq.thenR ?_ | refine WPq.thenE ?_ | refine WPq.blockN ?_ | refine WPq.blockR ?_ | refine WPq.blockE ?_ | refine WPq.blockO rfl ?_ | refine WPc.seq ?_ | refine WPc.block ?_ | refine WPc.ret ?_ | refine WPc.exit ?_ | refine WPc.skip ?_ | refine WPc.region ?_
   | (refine isReg 9 ?_; refine WPc.drA [([], [46, 47, 48, 49, 50, 51, 52, 54, 55, 56, 57, 58, 59, 60]), ([], [45, 47, 48, 49, 51, 52, 54, 55, 56, 57, 58, 59, 60]), ([], [45, 46, 48, 51, 52, 54, 55, 56, 57, 58, 59, 60]), ([], [45, 46, 47, 51, 52, 54, 55, 56, 57, 58, 59, 60]), ([2, 3], [45, 46, 47, 48, 51, 52, 54, 55, 56, 57, 58, 59, 60]), ([1, 2, 3, 4], [45, 46, 47, 48, 49, 51, 52, 54, 55, 56, 57, 58, 59, 60]), ([], [45, 46, 47, 48, 49, 50, 54, 55, 56, 57, 58, 59, 60]), ([6], [45, 46, 47, 48, 49, 50, 51, 54, 55, 56, 57, 58, 59, 60]), ([0, 1, 2, 3, 4, 5, 6, 7], [45, 46, 47, 48, 49, 50, 51, 52, 54, 55, 56, 57, 58, 59, 60]), ([], [45, 46, 47, 48, 49, 50, 51, 52, 53, 57, 58, 60, 61]), ([9], [45, 46, 47, 48, 49, 50, 51, 52, 53, 54, 57, 58, 60, 61]), ([9, 10], [45, 46, 47, 48, 49, 50, 51, 52, 53, 54, 55, 57, 58, 60, 61]), ([], [45, 46, 47, 48, 49, 50, 51, 52, 53, 54, 55, 56, 60, 61]), ([12], [45, 46, 47, 48, 49, 50, 51, 52, 53, 54, 55, 56, 57, 60, 61]), ([9, 10, 11, 12, 13], [45, 46, 47, 48, 49, 50, 51, 52, 53, 54, 55, 56, 57, 58, 60, 61]), ([], [45, 46, 47, 48, 49, 50, 51, 52, 53, 54, 55, 56, 57, 58, 59]), ([0, 1, 2, 3, 4, 5, 6, 7, 8, 15], [45, 46, 47, 48, 49, 50, 51, 52, 53, 54, 55, 56, 57, 58, 59, 60]), ([0, 1, 2, 3, 4, 5, 6, 7, 8, 9, 10, 11, 12, 13, 14, 15, 16], [45, 46, 47, 48, 49, 50, 51, 52, 53, 54, 55, 56, 57, 58, 59, 60, 61]), ([0, 1, 2, 3, 4, 5, 6, 7, 8, 9, 10, 11, 12, 13, 14, 15, 16, 17], [45, 46, 47, 48, 49, 50, 51, 52, 53, 54, 55, 56, 57, 58, 59, 60, 61, 62])] [] (Γx := []) ?_; dsimp only [prev0, List.length_nil, List.length_cons])
   | (refine isReg 15 ?_; refine WPc.drA [([], [15, 84, 85, 86, 87, 88, 89, 90]), ([0], [15, 82, 84, 85, 86, 87, 88, 89, 90]), ([], [15, 82, 83, 87, 88, 89]), ([2], [15, 82, 83, 84, 87, 88, 89]), ([2, 3], [15, 82, 83, 84, 85, 87, 88, 89]), ([], [15, 82, 83, 84, 85, 86]), ([5], [15, 82, 83, 84, 85, 86, 87]), ([5, 6], [15, 82, 83, 84, 85, 86, 87, 88]), ([2, 3, 4, 5, 6, 7], [15, 82, 83, 84, 85, 86, 87, 88, 89]), ([], [82, 83, 84, 85, 86, 87, 88, 89, 90]), ([0, 1, 9], [15, 82, 83, 84, 85, 86, 87, 88, 89, 90]), ([0, 1, 2, 3, 4, 5, 6, 7, 8, 9, 10], [15, 82, 83, 84, 85, 86, 87, 88, 89, 90])] [(9, 10)] (Γx := []) ?_; dsimp only [prev0, List.length_nil, List.length_cons])
   | (refine isReg 20 ?_; refine WPc.drA [([], [102, 103, 104, 105, 106, 108, 109, 110, 111]), ([], [101, 104, 105, 108, 109, 110, 111]), ([1], [101, 102, 104, 105, 108, 109, 110, 111]), ([], [101, 102, 103, 108, 109, 110, 111]), ([3], [101, 102, 103, 104, 108, 109, 110, 111]), ([1, 2, 3, 4], [101, 102, 103, 104, 105, 108, 109, 110, 111]), ([0, 1, 2, 3, 4, 5], [101, 102, 103, 104, 105, 106, 108, 109, 110, 111]), ([], [101, 102, 103, 104, 105, 106, 107, 109, 110]), ([], [101, 102, 103, 104, 105, 106, 107, 108]), ([8], [101, 102, 103, 104, 105, 106, 107, 108, 109]), ([7, 8, 9], [101, 102, 103, 104, 105, 106, 107, 108, 109, 110]), ([0, 1, 2, 3, 4, 5, 6, 7, 8, 9, 10], [101, 102, 103, 104, 105, 106, 107, 108, 109, 110, 111]), ([0, 1, 2, 3, 4, 5, 6, 7, 8, 9, 10, 11], [101, 102, 103, 104, 105, 106, 107, 108, 109, 110, 111, 112]), ([0, 1, 2, 3, 4, 5, 6, 7, 8, 9, 10, 11, 12], [101, 102, 103, 104, 105, 106, 107, 108, 109, 110, 111, 112, 113])] [(6, 11)] (Γx := []) ?_; dsimp only [prev0, List.length_nil, List.length_cons])
   | (refine gAny ?_; first | (refine gC 20 ?_; refine RGl.vl (fun e hk => OpT.callN (c1)) ?_) | (refine gC 28 ?_; refine RGl.vl (fun e hk => OpT.callN (c2)) ?_) | (refine gC 52 ?_; refine RGl.row (Γ1 := fun _ => []) (fun e hk => OpT.callN (c4)) ?_) | (refine gC 53 ?_; refine RGl.row (Γ1 := fun _ => []) (fun e hk => OpT.callN ((c5 _))) ?_) | (refine gC 61 ?_; refine RGl.row (Γ1 := fun _ => []) (fun e hk => OpT.callN (c6)) ?_) | (refine gC 62 ?_; refine RGl.row (Γ1 := fun _ => []) (fun e hk => OpT.callN ((c7 _ _))) ?_) | (refine gC 100 ?_; refine RGl.row (Γ1 := fun _ => []) (fun e hk => OpT.callN ((c12 _ _))) ?_) | (refine gC 107 ?_; refine RGl.row (Γ1 := fun _ => []) (fun e hk => OpT.callN (c13)) ?_) | (refine gC 113 ?_; refine RGl.vl (fun e hk => OpT.callN ((c14 _))) ?_) | (refine gC 124 ?_; refine RGl.row (Γ1 := fun _ => []) (fun e hk => OpT.callN (c15)) ?_) | (refine gC 125 ?_; refine RGl.row (Γ1 := fun _ => []) (fun e hk => OpT.callN ((c16 _ _))) ?_) | (refine gD 36 ?_; refine RGl.rdX (fun e hk => by (try dsimp only [bndR, ensR, oksR, fcutR, List.append_nil, List.nil_append, List.cons_append, List.append_assoc] at hk ⊢); exact ReadR.binE rfl rfl (BinR.neqB (by kernel_rfl)) (congrArg Value.bool (show (!(a.six == true)) = false by rw [hs]; rfl))) ?_) | (refine gD 40 ?_; refine RGl.rdX (fun e hk => by (try dsimp only [bndR, ensR, oksR, fcutR, List.append_nil, List.nil_append, List.cons_append, List.append_assoc] at hk ⊢); exact ReadR.binE rfl rfl BinR.eql (congrArg Value.bool (decide_eq_false (show ¬ (p : Int) = 0 by omega)))) ?_) | (refine gD 50 ?_; refine RGl.rdX (fun e hk => by (try dsimp only [bndR, ensR, oksR, fcutR, List.append_nil, List.nil_append, List.cons_append, List.append_assoc] at hk ⊢); exact ReadR.binE rfl rfl (BinR.addI (by omega) (by omega)) (congrArg (Value.int .i64) (show _ = ((nk true 0 : Nat) : Int) from by first | rfl | (simp [nk]; done) | (simp [nk]; omega)))) ?_) | (refine gD 59 ?_; refine RGl.rdX (fun e hk => by (try dsimp only [bndR, ensR, oksR, fcutR, List.append_nil, List.nil_append, List.cons_append, List.append_assoc] at hk ⊢); exact ReadR.binE rfl rfl (BinR.addI (by omega) (by omega)) (congrArg (Value.int .i64) (show _ = ((k + 2 * 0 : Nat) : Int) from by first | omega | (simp; done) | (simp; omega)))) ?_) | (refine gD 90 ?_; refine RGl.rdX (fun e hk => by (try dsimp only [bndR, ensR, oksR, fcutR, List.append_nil, List.nil_append, List.cons_append, List.append_assoc] at hk ⊢); exact ReadR.binE rfl rfl (BinR.addI (by omega) (by omega)) (congrArg (Value.int .i64) (show _ = ((k + j : Nat) : Int) from by omega))) ?_) | (refine gD 106 ?_; refine RGl.rdX (fun e hk => by (try dsimp only [bndR, ensR, oksR, fcutR, List.append_nil, List.nil_append, List.cons_append, List.append_assoc] at hk ⊢); exact ReadR.binE rfl rfl (BinR.subI (by omega) (by omega)) (congrArg (Value.int .i64) (show _ = ((D.length - k : Nat) : Int) from by omega))) ?_) | ((show RGl _ _ _ _ _ _ _ _ (⟨_, .store _ (.tmp 15) _, _, _, _, _⟩ :: _) _ _; refine RGl.turn (fun e hk => by (try dsimp only [bndR, ensR, oksR, fcutR, List.append_nil, List.nil_append, List.cons_append, List.append_assoc] at hk ⊢); exact OpT.storeA (cs' := hdc ⟨true, pr, (k : Int), s1, d1, pt, hp⟩) rfl rfl takesA fokA (by kernel_rfl) (by kernel_rfl)) ?_)) | (refine gD 115 ?_; refine RGl.rdX (fun e hk => by (try dsimp only [bndR, ensR, oksR, fcutR, List.append_nil, List.nil_append, List.cons_append, List.append_assoc] at hk ⊢); exact ReadR.binE rfl rfl BinR.eql (congrArg Value.bool (decide_eq_false (show ¬ ((S2 : Nat) : Int) = 0 by omega)))) ?_) | (refine gOp ?_; first | refine RGl.rdA ?_ | refine RGl.rdX (fun e hk => by (try dsimp only [bndR, ensR, oksR, fcutR, List.append_nil, List.nil_append, List.cons_append, List.append_assoc] at hk ⊢); exact readB) ?_) | (refine gAl ?_; refine RGl.nwA ?_) | (refine gApp ?_; refine RGl.appA ?_) | (refine gSt ?_; refine RGl.stA ?_) | (refine RGl.fin (fun e hk => ?_); (try dsimp only [bndA, ensAR, oksA, List.append_nil, List.nil_append, List.cons_append, List.append_assoc] at hk ⊢); (repeat (obtain ⟨hk1, hk⟩ := hk))) | fail)
   | (refine isCond ?_; first | refine WPc.cT ?_ | refine WPc.cF ?_ | (refine WPc.cQ (fun hc => ?_) (fun hc => ?_) <;> try exact prA))
   | (refine isD 36 ?_; refine WPl.rdX (ReadR.binE rfl rfl (BinR.neqB (by kernel_rfl)) (congrArg Value.bool (show (!(a.six == true)) = false by rw [hs]; rfl))) ?_)
   | (refine isD 40 ?_; refine WPl.rdX (ReadR.binE rfl rfl BinR.eql (congrArg Value.bool (decide_eq_false (show ¬ (p : Int) = 0 by omega)))) ?_)
   | (refine isC 20 ?_; refine WPl.cV (c1) ?_)
   | (show WPl _ _ _ _ _ _ _ (⟨_, .store 39 (.tmp 10) _, _, _, _, _⟩ :: _) _; refine WPl.stA (new := pkc ⟨⟨true, pr, (k : Int), s1, d1, pt, hp⟩, ⟨sr, ds, fg, (j : Int), false, da⟩, fl⟩) ?_ (ht := by kernel_rfl))
   | (refine isC 28 ?_; refine WPl.cV (c2) ?_)
   | (refine isC 52 ?_; refine WPl.cR (c4) fun v hv => ?_)
   | (refine isC 53 ?_; refine WPl.cR ((c5 _)) fun v hv => ?_)
   | (refine isC 61 ?_; refine WPl.cR (c6) fun v hv => ?_)
   | (refine isC 62 ?_; refine WPl.cR ((c7 _ _)) fun v hv => ?_)
   | (refine isLit ?_; refine WPl.lit fun v hv => ?_)
   | (refine isC 100 ?_; refine WPl.cR ((c12 _ _)) fun v hv => ?_)
   | (refine isC 107 ?_; refine WPl.cR (c13) fun v hv => ?_)
   | (refine isC 113 ?_; refine WPl.cV ((c14 _)) ?_)
   | (refine isC 124 ?_; refine WPl.cR (c15) fun v hv => ?_)
   | (refine isC 125 ?_; refine WPl.cR ((c16 _ _)) fun v hv => ?_)
   | (refine isD 115 ?_; refine WPl.rdX (ReadR.binE rfl rfl BinR.eql (congrArg Value.bool (decide_eq_false (show ¬ ((S2 : Nat) : Int) = 0 by omega)))) ?_)
   | (refine isOp ?_; first | refine WPl.rd ?_ | refine WPl.sk ?_ | refine WPl.rdB ?_)
   | (refine isAl ?_; refine WPl.nw fun g => ?_)
   | (refine isBx ?_; refine WPl.nw fun g => ?_)
   | (refine isSt ?_; first | refine WPl.st1 ?_ | refine WPl.stA ?_ | refine WPl.stEB ?_ | refine WPl.stRB ?_)
   | (show WPl _ _ _ _ _ _ _ (⟨_, .indexAddr _ _ _, _, _, _, _⟩ :: _) _; refine WPl.rdX (ReadR.indexE rfl rfl hasA (by first | assumption | omega)) ?_)
   | (show WPl _ _ _ _ _ _ _ (⟨_, .fieldAddr _ _ _, _, _, _, _⟩ :: _) _; refine WPl.rdX (ReadR.fieldE rfl hasA (by first | assumption | omega)) ?_)
   | (show WPl _ _ _ _ _ _ _ (⟨_, .load _ _, _, _, _, _⟩ :: _) _; first | refine WPl.rdX (ReadR.loadE rfl hasA (by assumption)) ?_ | refine WPl.rdX (ReadR.loadES (by assumption) (by first | assumption | omega) rfl hasA) ?_)
   | (show WPl _ _ _ _ _ _ _ (⟨_, .slice _ _ _ _ _, _, _, _, _⟩ :: _) _; first | refine WPl.rdX (ReadR.sliceH rfl rfl hasA (by omega)) ?_ | refine WPl.rdX (ReadR.sliceL rfl rfl hasA (by omega)) ?_ | refine WPl.rdX (ReadR.sliceLH rfl rfl rfl hasA (by omega) (by omega)) ?_)
   | (refine WPl.spQ (fun hc => ?_) (fun hc => ?_) <;> try exact prA)
   | fail)
  all_goals try (first | exact WPq.dTp | exact WPq.dTs | exact WPq.dV | exact WPq.dR | exact WPq.dR2 | exact WPq.dH | exact WPq.dBH | exact WPq.dT)

end Go.Proofs.Ytjfhiifpnpokpaa
