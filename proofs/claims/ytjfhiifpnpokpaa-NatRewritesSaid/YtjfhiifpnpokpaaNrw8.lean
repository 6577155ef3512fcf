/- What the row of natRewrites_holds needs: part 8. -/
import Derived.Test.YtjfhiifpnpokpaaNrw5
import Derived.Test.YtjfhiifpnpokpaaNrw6
/- Reference of layer 15 (seg): reading: contracts. -/
namespace Go.Proofs.Ytjfhiifpnpokpaa
open Go.RowKit
set_option linter.unusedSimpArgs false
set_option linter.unusedVariables false
set_option maxRecDepth 20000
set_option maxHeartbeats 4000000
attribute [local irreducible] WPc WPl WPq ReadR OpT BinR HasS bx rdN rowN Take Takes Prov Triple ResF BuildP Done ag Int.decLt Int.decLe Int.instDecidableEq
attribute [local irreducible] psu sgood

theorem rsread_t (h : Hd) (vb : Value) (b : List UInt8) (hl : b.length ≤ 100000) : Triple Try.prog 20 #[ag (hdc h), vb] [rb vb b] (RVal (gVal h b)) := by
  have l1 := h.src.len
  have l2 := h.dst.len
  have hv0 := val2_lt (l := b) (k := 0)
  have hv2 := val2_lt (l := b) (k := 2)
  have hv4 := val2_lt (l := b) (k := 4)
  have u12 : byteN b 12 = (b.getD 12 0).toNat := rfl
  have hu := byteN_lt b 12
  have u6 : byteN b 6 = (b.getD 6 0).toNat := rfl
  have u7 : byteN b 7 = (b.getD 7 0).toNat := rfl
  have htn : tN b = 4 * (byteN b 12 / 16) := rfl
  have hg := rsgood_t h vb b hl
  have hmul : ((((b.getD 12 0).toNat : Nat) : Int) / 16) * (4 : Int) = ((tN b : Nat) : Int) := by rw [htn]; unfold byteN; omega
  have hz6 : 8 ≤ b.length → val (seg b 6 2) = 256 * byteN b 6 + byteN b 7 := fun hh => val_seg2 (by omega)
  by_cases h6 : h.proto.toNat = 6
  · have h0 : sgE0 h b = tcpE h b := by unfold sgE0; rw [if_pos h6]
    by_cases he : tcpE h b = 0
    · obtain ⟨f1, f2, f3, f4⟩ := tcpE_zero he
      rw [f4] at hg
      cases hz : pz b with
      | true =>
        have hz' : val (seg b 0 2) = 0 ∨ val (seg b 2 2) = 0 := by simpa [pz] using hz
        have hE : sgE h b = 4 := by unfold sgE; rw [h0, if_pos he, hz]; rfl
        rw [show gVal h b = .tuple #[ag (sgc Sg.none), .int .i64 4] by unfold gVal sgR; rw [hE, if_neg (by omega)]]
        refine Triple.enter Try.func20 rfl Try.ntmps20 rfl (fun W => ?_)
        dsimp only [argsF, Nat.reduceAdd]
        repeat' (first
         | refine WPl.nil ?_ | refine WPq.then ?_ | refine WPq.thenR ?_ | refine WPq.thenE ?_ | refine WPq.blockN ?_ | refine WPq.blockR ?_ | refine WPq.blockE ?_ | refine WPq.blockO rfl ?_ | refine WPc.seq ?_ | refine WPc.block ?_ | refine WPc.ret ?_ | refine WPc.exit ?_ | refine WPc.skip ?_ | refine WPc.region ?_
         | (refine isCond ?_; first | refine WPc.cT ?_ | refine WPc.cF ?_ | (refine WPc.cQ (fun hc => ?_) (fun hc => ?_) <;> try exact prA))
         | (refine isC 99 ?_; refine WPl.cV (hg) ?_)
         | (refine isD 38 ?_; refine WPl.rdX (ReadR.bin rfl rfl (BinR.mulT hmul (by simp only [kmin]; omega) (by simp only [kmax]; omega))) ?_)
         | (refine isC 104 ?_; refine WPl.cV (rget_t vb b 0 2 (by omega) (by omega) (by omega)) ?_)
         | (refine isC 107 ?_; refine WPl.cV (rget_t vb b 2 2 (by omega) (by omega) (by omega)) ?_)
         | (refine isOp ?_; first | refine WPl.rd ?_ | refine WPl.sk ?_ | refine WPl.rdB ?_)
         | (refine isAl ?_; refine WPl.nw fun g => ?_)
         | (refine isBx ?_; refine WPl.nw fun g => ?_)
         | (refine isSt ?_; first | refine WPl.st1 ?_ | refine WPl.stA ?_ | refine WPl.stEB ?_ | refine WPl.stRB ?_)
         | (show WPl _ _ _ _ _ _ _ (⟨_, .indexAddr _ _ _, _, _, _, _⟩ :: _) _; refine WPl.rdX (ReadR.indexE rfl rfl hasA (by first | assumption | omega)) ?_)
         | (show WPl _ _ _ _ _ _ _ (⟨_, .fieldAddr _ _ _, _, _, _, _⟩ :: _) _; refine WPl.rdX (ReadR.fieldE rfl hasA (by first | assumption | omega)) ?_)
         | (show WPl _ _ _ _ _ _ _ (⟨_, .load _ _, _, _, _, _⟩ :: _) _; first | refine WPl.rdX (ReadR.loadE rfl hasA (by assumption)) ?_ | refine WPl.rdX (ReadR.loadES (by assumption) (by first | assumption | omega) rfl hasA) ?_)
         | (show WPl _ _ _ _ _ _ _ (⟨_, .slice _ _ _ _ _, _, _, _, _⟩ :: _) _; first | refine WPl.rdX (ReadR.sliceH rfl rfl hasA (by omega)) ?_ | refine WPl.rdX (ReadR.sliceL rfl rfl hasA (by omega)) ?_ | refine WPl.rdX (ReadR.sliceLH rfl rfl rfl hasA (by omega) (by omega)) ?_)
         | (refine WPl.spQ (fun hc => ?_) (fun hc => ?_) <;> try exact prA)
         | fail)
        all_goals try (first | exact WPq.dTp | exact WPq.dTs | exact WPq.dV | exact WPq.dR | exact WPq.dR2 | exact WPq.dH | exact WPq.dBH | exact WPq.dT)
      | false =>
        obtain ⟨z1, z2⟩ := pz_no hz
        have hE : sgE h b = 0 := by unfold sgE; rw [h0, if_pos he, hz]; rfl
        rw [show gVal h b = .tuple #[ag (sgc ((tcpS b).at b)), .int .i64 0] by unfold gVal sgR sg0; rw [hE, if_pos rfl, if_pos h6]]
        refine Triple.enter Try.func20 rfl Try.ntmps20 rfl (fun W => ?_)
        dsimp only [argsF, Nat.reduceAdd]
        repeat' (first
         | refine WPl.nil ?_ | refine WPq.then ?_ | refine WPq.thenR ?_ | refine WPq.thenE ?_ | refine WPq.blockN ?_ | refine WPq.blockR ?_ | refine WPq.blockE ?_ | refine WPq.blockO rfl ?_ | refine WPc.seq ?_ | refine WPc.block ?_ | refine WPc.ret ?_ | refine WPc.exit ?_ | refine WPc.skip ?_ | refine WPc.region ?_
         | (refine isCond ?_; first | refine WPc.cT ?_ | refine WPc.cF ?_ | (refine WPc.cQ (fun hc => ?_) (fun hc => ?_) <;> try exact prA))
         | (refine isC 99 ?_; refine WPl.cV (hg) ?_)
         | (refine isD 38 ?_; refine WPl.rdX (ReadR.bin rfl rfl (BinR.mulT hmul (by simp only [kmin]; omega) (by simp only [kmax]; omega))) ?_)
         | (refine isC 104 ?_; refine WPl.cV (rget_t vb b 0 2 (by omega) (by omega) (by omega)) ?_)
         | (refine isC 107 ?_; refine WPl.cV (rget_t vb b 2 2 (by omega) (by omega) (by omega)) ?_)
         | (refine isOp ?_; first | refine WPl.rd ?_ | refine WPl.sk ?_ | refine WPl.rdB ?_)
         | (refine isAl ?_; refine WPl.nw fun g => ?_)
         | (refine isBx ?_; refine WPl.nw fun g => ?_)
         | (refine isSt ?_; first | refine WPl.st1 ?_ | refine WPl.stA ?_ | refine WPl.stEB ?_ | refine WPl.stRB ?_)
         | (show WPl _ _ _ _ _ _ _ (⟨_, .indexAddr _ _ _, _, _, _, _⟩ :: _) _; refine WPl.rdX (ReadR.indexE rfl rfl hasA (by first | assumption | omega)) ?_)
         | (show WPl _ _ _ _ _ _ _ (⟨_, .fieldAddr _ _ _, _, _, _, _⟩ :: _) _; refine WPl.rdX (ReadR.fieldE rfl hasA (by first | assumption | omega)) ?_)
         | (show WPl _ _ _ _ _ _ _ (⟨_, .load _ _, _, _, _, _⟩ :: _) _; first | refine WPl.rdX (ReadR.loadE rfl hasA (by assumption)) ?_ | refine WPl.rdX (ReadR.loadES (by assumption) (by first | assumption | omega) rfl hasA) ?_)
         | (show WPl _ _ _ _ _ _ _ (⟨_, .slice _ _ _ _ _, _, _, _, _⟩ :: _) _; first | refine WPl.rdX (ReadR.sliceH rfl rfl hasA (by omega)) ?_ | refine WPl.rdX (ReadR.sliceL rfl rfl hasA (by omega)) ?_ | refine WPl.rdX (ReadR.sliceLH rfl rfl rfl hasA (by omega) (by omega)) ?_)
         | (refine WPl.spQ (fun hc => ?_) (fun hc => ?_) <;> try exact prA)
         | fail)
        all_goals try (first | exact WPq.dTp | exact WPq.dTs | exact WPq.dV | exact WPq.dR | exact WPq.dR2 | exact WPq.dH | exact WPq.dBH | exact WPq.dT)
    · have hE : sgE h b = tcpE h b := by unfold sgE; rw [h0, if_neg he]
      rw [show gVal h b = .tuple #[ag (sgc Sg.none), .int .i64 (tcpE h b)] by unfold gVal sgR; rw [hE, if_neg he]]
      cases hsg : sgood h b with
      | true =>
        rw [hsg] at hg
        have hh : tcpE h b = (if b.length < 20 then 9 else if tN b < 20 then 4 else if b.length < tN b then 9 else 0) := by unfold tcpE; rw [hsg]; simp
        rw [hh] at he ⊢
        have hne : b.length < 20 ∨ tN b < 20 ∨ b.length < tN b := by
          apply Classical.byContradiction
          intro hn
          apply he
          repeat' (first | omega | split)
        refine Triple.enter Try.func20 rfl Try.ntmps20 rfl (fun W => ?_)
        dsimp only [argsF, Nat.reduceAdd]
        repeat' (first
         | refine WPl.nil ?_ | refine WPq.then ?_ | refine WPq.thenR ?_ | refine WPq.thenE ?_ | refine WPq.blockN ?_ | refine WPq.blockR ?_ | refine WPq.blockE ?_ | refine WPq.blockO rfl ?_ | refine WPc.seq ?_ | refine WPc.block ?_ | refine WPc.ret ?_ | refine WPc.exit ?_ | refine WPc.skip ?_ | refine WPc.region ?_
         | (refine isCond ?_; first | refine WPc.cT ?_ | refine WPc.cF ?_ | (refine WPc.cQ (fun hc => ?_) (fun hc => ?_) <;> try exact prA))
         | (refine isC 99 ?_; refine WPl.cV (hg) ?_)
         | (refine isD 38 ?_; refine WPl.rdX (ReadR.bin rfl rfl (BinR.mulT hmul (by simp only [kmin]; omega) (by simp only [kmax]; omega))) ?_)
         | (refine isOp ?_; first | refine WPl.rd ?_ | refine WPl.sk ?_ | refine WPl.rdB ?_)
         | (refine isAl ?_; refine WPl.nw fun g => ?_)
         | (refine isBx ?_; refine WPl.nw fun g => ?_)
         | (refine isSt ?_; first | refine WPl.st1 ?_ | refine WPl.stA ?_ | refine WPl.stEB ?_ | refine WPl.stRB ?_)
         | (show WPl _ _ _ _ _ _ _ (⟨_, .indexAddr _ _ _, _, _, _, _⟩ :: _) _; refine WPl.rdX (ReadR.indexE rfl rfl hasA (by first | assumption | omega)) ?_)
         | (show WPl _ _ _ _ _ _ _ (⟨_, .fieldAddr _ _ _, _, _, _, _⟩ :: _) _; refine WPl.rdX (ReadR.fieldE rfl hasA (by first | assumption | omega)) ?_)
         | (show WPl _ _ _ _ _ _ _ (⟨_, .load _ _, _, _, _, _⟩ :: _) _; first | refine WPl.rdX (ReadR.loadE rfl hasA (by assumption)) ?_ | refine WPl.rdX (ReadR.loadES (by assumption) (by first | assumption | omega) rfl hasA) ?_)
         | (show WPl _ _ _ _ _ _ _ (⟨_, .slice _ _ _ _ _, _, _, _, _⟩ :: _) _; first | refine WPl.rdX (ReadR.sliceH rfl rfl hasA (by omega)) ?_ | refine WPl.rdX (ReadR.sliceL rfl rfl hasA (by omega)) ?_ | refine WPl.rdX (ReadR.sliceLH rfl rfl rfl hasA (by omega) (by omega)) ?_)
         | (refine WPl.spQ (fun hc => ?_) (fun hc => ?_) <;> try exact prA)
         | fail)
        all_goals
          refine WPq.dV (hc := ?_)
          show Value.tuple #[_, Value.int .i64 _] = Value.tuple #[_, Value.int .i64 _]
          congr 5
          repeat' (first | omega | split)
      | false =>
        rw [hsg] at hg
        have hh : tcpE h b = (if b.length < 20 then 9 else if tN b < 20 then 4 else if b.length < tN b then 9 else 5) := by unfold tcpE; rw [hsg]; simp
        rw [hh]
        refine Triple.enter Try.func20 rfl Try.ntmps20 rfl (fun W => ?_)
        dsimp only [argsF, Nat.reduceAdd]
        repeat' (first
         | refine WPl.nil ?_ | refine WPq.then ?_ | refine WPq.thenR ?_ | refine WPq.thenE ?_ | refine WPq.blockN ?_ | refine WPq.blockR ?_ | refine WPq.blockE ?_ | refine WPq.blockO rfl ?_ | refine WPc.seq ?_ | refine WPc.block ?_ | refine WPc.ret ?_ | refine WPc.exit ?_ | refine WPc.skip ?_ | refine WPc.region ?_
         | (refine isCond ?_; first | refine WPc.cT ?_ | refine WPc.cF ?_ | (refine WPc.cQ (fun hc => ?_) (fun hc => ?_) <;> try exact prA))
         | (refine isC 99 ?_; refine WPl.cV (hg) ?_)
         | (refine isD 38 ?_; refine WPl.rdX (ReadR.bin rfl rfl (BinR.mulT hmul (by simp only [kmin]; omega) (by simp only [kmax]; omega))) ?_)
         | (refine isOp ?_; first | refine WPl.rd ?_ | refine WPl.sk ?_ | refine WPl.rdB ?_)
         | (refine isAl ?_; refine WPl.nw fun g => ?_)
         | (refine isBx ?_; refine WPl.nw fun g => ?_)
         | (refine isSt ?_; first | refine WPl.st1 ?_ | refine WPl.stA ?_ | refine WPl.stEB ?_ | refine WPl.stRB ?_)
         | (show WPl _ _ _ _ _ _ _ (⟨_, .indexAddr _ _ _, _, _, _, _⟩ :: _) _; refine WPl.rdX (ReadR.indexE rfl rfl hasA (by first | assumption | omega)) ?_)
         | (show WPl _ _ _ _ _ _ _ (⟨_, .fieldAddr _ _ _, _, _, _, _⟩ :: _) _; refine WPl.rdX (ReadR.fieldE rfl hasA (by first | assumption | omega)) ?_)
         | (show WPl _ _ _ _ _ _ _ (⟨_, .load _ _, _, _, _, _⟩ :: _) _; first | refine WPl.rdX (ReadR.loadE rfl hasA (by assumption)) ?_ | refine WPl.rdX (ReadR.loadES (by assumption) (by first | assumption | omega) rfl hasA) ?_)
         | (show WPl _ _ _ _ _ _ _ (⟨_, .slice _ _ _ _ _, _, _, _, _⟩ :: _) _; first | refine WPl.rdX (ReadR.sliceH rfl rfl hasA (by omega)) ?_ | refine WPl.rdX (ReadR.sliceL rfl rfl hasA (by omega)) ?_ | refine WPl.rdX (ReadR.sliceLH rfl rfl rfl hasA (by omega) (by omega)) ?_)
         | (refine WPl.spQ (fun hc => ?_) (fun hc => ?_) <;> try exact prA)
         | fail)
        all_goals
          refine WPq.dV (hc := ?_)
          show Value.tuple #[_, Value.int .i64 _] = Value.tuple #[_, Value.int .i64 _]
          congr 5
          repeat' (first | omega | split)
  · by_cases h17 : h.proto.toNat = 17
    · have h0 : sgE0 h b = udpE h b := by unfold sgE0; rw [if_neg h6, if_pos h17]
      by_cases he : udpE h b = 0
      · obtain ⟨f1, f2, f3⟩ := udpE_zero he
        have hz6 := hz6 f1
        cases hz : pz b with
        | true =>
          have hz' : val (seg b 0 2) = 0 ∨ val (seg b 2 2) = 0 := by simpa [pz] using hz
          have hE : sgE h b = 4 := by unfold sgE; rw [h0, if_pos he, hz]; rfl
          rw [show gVal h b = .tuple #[ag (sgc Sg.none), .int .i64 4] by unfold gVal sgR; rw [hE, if_neg (by omega)]]
          rcases f3 with ⟨f3, f4⟩ | ⟨f3, f4⟩
          · skip
            refine Triple.enter Try.func20 rfl Try.ntmps20 rfl (fun W => ?_)
            dsimp only [argsF, Nat.reduceAdd]
            repeat' (first
             | refine WPl.nil ?_ | refine WPq.then ?_ | refine WPq.thenR ?_ | refine WPq.thenE ?_ | refine WPq.blockN ?_ | refine WPq.blockR ?_ | refine WPq.blockE ?_ | refine WPq.blockO rfl ?_ | refine WPc.seq ?_ | refine WPc.block ?_ | refine WPc.ret ?_ | refine WPc.exit ?_ | refine WPc.skip ?_ | refine WPc.region ?_
             | (refine isCond ?_; first | refine WPc.cT ?_ | refine WPc.cF ?_ | (refine WPc.cQ (fun hc => ?_) (fun hc => ?_) <;> try exact prA))
             | (refine isD 58 ?_; refine WPl.rdX (ReadR.binE rfl rfl BinR.eql (congrArg Value.bool (decide_eq_true (by omega)))) ?_)
             | (refine isD 63 ?_; refine WPl.rdX (ReadR.binE rfl rfl BinR.eql (congrArg Value.bool (decide_eq_true (by omega)))) ?_)
             | (refine isC 53 ?_; refine WPl.cV (rget_t vb b 4 2 (by omega) (by omega) (by omega)) ?_)
             | (refine isC 104 ?_; refine WPl.cV (rget_t vb b 0 2 (by omega) (by omega) (by omega)) ?_)
             | (refine isC 107 ?_; refine WPl.cV (rget_t vb b 2 2 (by omega) (by omega) (by omega)) ?_)
             | (refine isOp ?_; first | refine WPl.rd ?_ | refine WPl.sk ?_ | refine WPl.rdB ?_)
             | (refine isAl ?_; refine WPl.nw fun g => ?_)
             | (refine isBx ?_; refine WPl.nw fun g => ?_)
             | (refine isSt ?_; first | refine WPl.st1 ?_ | refine WPl.stA ?_ | refine WPl.stEB ?_ | refine WPl.stRB ?_)
             | (show WPl _ _ _ _ _ _ _ (⟨_, .indexAddr _ _ _, _, _, _, _⟩ :: _) _; refine WPl.rdX (ReadR.indexE rfl rfl hasA (by first | assumption | omega)) ?_)
             | (show WPl _ _ _ _ _ _ _ (⟨_, .fieldAddr _ _ _, _, _, _, _⟩ :: _) _; refine WPl.rdX (ReadR.fieldE rfl hasA (by first | assumption | omega)) ?_)
             | (show WPl _ _ _ _ _ _ _ (⟨_, .load _ _, _, _, _, _⟩ :: _) _; first | refine WPl.rdX (ReadR.loadE rfl hasA (by assumption)) ?_ | refine WPl.rdX (ReadR.loadES (by assumption) (by first | assumption | omega) rfl hasA) ?_)
             | (show WPl _ _ _ _ _ _ _ (⟨_, .slice _ _ _ _ _, _, _, _, _⟩ :: _) _; first | refine WPl.rdX (ReadR.sliceH rfl rfl hasA (by omega)) ?_ | refine WPl.rdX (ReadR.sliceL rfl rfl hasA (by omega)) ?_ | refine WPl.rdX (ReadR.sliceLH rfl rfl rfl hasA (by omega) (by omega)) ?_)
             | (refine WPl.spQ (fun hc => ?_) (fun hc => ?_) <;> try exact prA)
             | fail)
            all_goals try (first | exact WPq.dTp | exact WPq.dTs | exact WPq.dV | exact WPq.dR | exact WPq.dR2 | exact WPq.dH | exact WPq.dBH | exact WPq.dT)
          · rw [f4] at hg
            refine Triple.enter Try.func20 rfl Try.ntmps20 rfl (fun W => ?_)
            dsimp only [argsF, Nat.reduceAdd]
            repeat' (first
             | refine WPl.nil ?_ | refine WPq.then ?_ | refine WPq.thenR ?_ | refine WPq.thenE ?_ | refine WPq.blockN ?_ | refine WPq.blockR ?_ | refine WPq.blockE ?_ | refine WPq.blockO rfl ?_ | refine WPc.seq ?_ | refine WPc.block ?_ | refine WPc.ret ?_ | refine WPc.exit ?_ | refine WPc.skip ?_ | refine WPc.region ?_
             | (refine isCond ?_; first | refine WPc.cT ?_ | refine WPc.cF ?_ | (refine WPc.cQ (fun hc => ?_) (fun hc => ?_) <;> try exact prA))
             | (refine isC 99 ?_; refine WPl.cV (hg) ?_)
             | (refine isC 53 ?_; refine WPl.cV (rget_t vb b 4 2 (by omega) (by omega) (by omega)) ?_)
             | (refine isC 104 ?_; refine WPl.cV (rget_t vb b 0 2 (by omega) (by omega) (by omega)) ?_)
             | (refine isC 107 ?_; refine WPl.cV (rget_t vb b 2 2 (by omega) (by omega) (by omega)) ?_)
             | (refine isOp ?_; first | refine WPl.rd ?_ | refine WPl.sk ?_ | refine WPl.rdB ?_)
             | (refine isAl ?_; refine WPl.nw fun g => ?_)
             | (refine isBx ?_; refine WPl.nw fun g => ?_)
             | (refine isSt ?_; first | refine WPl.st1 ?_ | refine WPl.stA ?_ | refine WPl.stEB ?_ | refine WPl.stRB ?_)
             | (show WPl _ _ _ _ _ _ _ (⟨_, .indexAddr _ _ _, _, _, _, _⟩ :: _) _; refine WPl.rdX (ReadR.indexE rfl rfl hasA (by first | assumption | omega)) ?_)
             | (show WPl _ _ _ _ _ _ _ (⟨_, .fieldAddr _ _ _, _, _, _, _⟩ :: _) _; refine WPl.rdX (ReadR.fieldE rfl hasA (by first | assumption | omega)) ?_)
             | (show WPl _ _ _ _ _ _ _ (⟨_, .load _ _, _, _, _, _⟩ :: _) _; first | refine WPl.rdX (ReadR.loadE rfl hasA (by assumption)) ?_ | refine WPl.rdX (ReadR.loadES (by assumption) (by first | assumption | omega) rfl hasA) ?_)
             | (show WPl _ _ _ _ _ _ _ (⟨_, .slice _ _ _ _ _, _, _, _, _⟩ :: _) _; first | refine WPl.rdX (ReadR.sliceH rfl rfl hasA (by omega)) ?_ | refine WPl.rdX (ReadR.sliceL rfl rfl hasA (by omega)) ?_ | refine WPl.rdX (ReadR.sliceLH rfl rfl rfl hasA (by omega) (by omega)) ?_)
             | (refine WPl.spQ (fun hc => ?_) (fun hc => ?_) <;> try exact prA)
             | fail)
            all_goals try (first | exact WPq.dTp | exact WPq.dTs | exact WPq.dV | exact WPq.dR | exact WPq.dR2 | exact WPq.dH | exact WPq.dBH | exact WPq.dT)
        | false =>
          obtain ⟨z1, z2⟩ := pz_no hz
          have hE : sgE h b = 0 := by unfold sgE; rw [h0, if_pos he, hz]; rfl
          rw [show gVal h b = .tuple #[ag (sgc ((udpS b).at b)), .int .i64 0] by unfold gVal sgR sg0; rw [hE, if_pos rfl, if_neg h6]]
          rcases f3 with ⟨f3, f4⟩ | ⟨f3, f4⟩
          · rw [show udpS b = ⟨0, 0, 0, 6, true, 8⟩ by unfold udpS; rw [decide_eq_true f3]]
            refine Triple.enter Try.func20 rfl Try.ntmps20 rfl (fun W => ?_)
            dsimp only [argsF, Nat.reduceAdd]
            repeat' (first
             | refine WPl.nil ?_ | refine WPq.then ?_ | refine WPq.thenR ?_ | refine WPq.thenE ?_ | refine WPq.blockN ?_ | refine WPq.blockR ?_ | refine WPq.blockE ?_ | refine WPq.blockO rfl ?_ | refine WPc.seq ?_ | refine WPc.block ?_ | refine WPc.ret ?_ | refine WPc.exit ?_ | refine WPc.skip ?_ | refine WPc.region ?_
             | (refine isCond ?_; first | refine WPc.cT ?_ | refine WPc.cF ?_ | (refine WPc.cQ (fun hc => ?_) (fun hc => ?_) <;> try exact prA))
             | (refine isD 58 ?_; refine WPl.rdX (ReadR.binE rfl rfl BinR.eql (congrArg Value.bool (decide_eq_true (by omega)))) ?_)
             | (refine isD 63 ?_; refine WPl.rdX (ReadR.binE rfl rfl BinR.eql (congrArg Value.bool (decide_eq_true (by omega)))) ?_)
             | (refine isC 53 ?_; refine WPl.cV (rget_t vb b 4 2 (by omega) (by omega) (by omega)) ?_)
             | (refine isC 104 ?_; refine WPl.cV (rget_t vb b 0 2 (by omega) (by omega) (by omega)) ?_)
             | (refine isC 107 ?_; refine WPl.cV (rget_t vb b 2 2 (by omega) (by omega) (by omega)) ?_)
             | (refine isOp ?_; first | refine WPl.rd ?_ | refine WPl.sk ?_ | refine WPl.rdB ?_)
             | (refine isAl ?_; refine WPl.nw fun g => ?_)
             | (refine isBx ?_; refine WPl.nw fun g => ?_)
             | (refine isSt ?_; first | refine WPl.st1 ?_ | refine WPl.stA ?_ | refine WPl.stEB ?_ | refine WPl.stRB ?_)
             | (show WPl _ _ _ _ _ _ _ (⟨_, .indexAddr _ _ _, _, _, _, _⟩ :: _) _; refine WPl.rdX (ReadR.indexE rfl rfl hasA (by first | assumption | omega)) ?_)
             | (show WPl _ _ _ _ _ _ _ (⟨_, .fieldAddr _ _ _, _, _, _, _⟩ :: _) _; refine WPl.rdX (ReadR.fieldE rfl hasA (by first | assumption | omega)) ?_)
             | (show WPl _ _ _ _ _ _ _ (⟨_, .load _ _, _, _, _, _⟩ :: _) _; first | refine WPl.rdX (ReadR.loadE rfl hasA (by assumption)) ?_ | refine WPl.rdX (ReadR.loadES (by assumption) (by first | assumption | omega) rfl hasA) ?_)
             | (show WPl _ _ _ _ _ _ _ (⟨_, .slice _ _ _ _ _, _, _, _, _⟩ :: _) _; first | refine WPl.rdX (ReadR.sliceH rfl rfl hasA (by omega)) ?_ | refine WPl.rdX (ReadR.sliceL rfl rfl hasA (by omega)) ?_ | refine WPl.rdX (ReadR.sliceLH rfl rfl rfl hasA (by omega) (by omega)) ?_)
             | (refine WPl.spQ (fun hc => ?_) (fun hc => ?_) <;> try exact prA)
             | fail)
            all_goals try (first | exact WPq.dTp | exact WPq.dTs | exact WPq.dV | exact WPq.dR | exact WPq.dR2 | exact WPq.dH | exact WPq.dBH | exact WPq.dT)
          · rw [f4] at hg
            rw [show udpS b = ⟨0, 0, 0, 6, false, 8⟩ by unfold udpS; rw [decide_eq_false f3]]
            by_cases hb6 : byteN b 6 = 0
            · skip
              refine Triple.enter Try.func20 rfl Try.ntmps20 rfl (fun W => ?_)
              dsimp only [argsF, Nat.reduceAdd]
              repeat' (first
               | refine WPl.nil ?_ | refine WPq.then ?_ | refine WPq.thenR ?_ | refine WPq.thenE ?_ | refine WPq.blockN ?_ | refine WPq.blockR ?_ | refine WPq.blockE ?_ | refine WPq.blockO rfl ?_ | refine WPc.seq ?_ | refine WPc.block ?_ | refine WPc.ret ?_ | refine WPc.exit ?_ | refine WPc.skip ?_ | refine WPc.region ?_
               | (refine isCond ?_; first | refine WPc.cT ?_ | refine WPc.cF ?_ | (refine WPc.cQ (fun hc => ?_) (fun hc => ?_) <;> try exact prA))
               | (refine isD 58 ?_; refine WPl.rdX (ReadR.binE rfl rfl BinR.eql (congrArg Value.bool (decide_eq_true (by omega)))) ?_)
               | (refine isD 63 ?_; refine WPl.rdX (ReadR.binE rfl rfl BinR.eql (congrArg Value.bool (decide_eq_false (by omega)))) ?_)
               | (refine isC 99 ?_; refine WPl.cV (hg) ?_)
               | (refine isC 53 ?_; refine WPl.cV (rget_t vb b 4 2 (by omega) (by omega) (by omega)) ?_)
               | (refine isC 104 ?_; refine WPl.cV (rget_t vb b 0 2 (by omega) (by omega) (by omega)) ?_)
               | (refine isC 107 ?_; refine WPl.cV (rget_t vb b 2 2 (by omega) (by omega) (by omega)) ?_)
               | (refine isOp ?_; first | refine WPl.rd ?_ | refine WPl.sk ?_ | refine WPl.rdB ?_)
               | (refine isAl ?_; refine WPl.nw fun g => ?_)
               | (refine isBx ?_; refine WPl.nw fun g => ?_)
               | (refine isSt ?_; first | refine WPl.st1 ?_ | refine WPl.stA ?_ | refine WPl.stEB ?_ | refine WPl.stRB ?_)
               | (show WPl _ _ _ _ _ _ _ (⟨_, .indexAddr _ _ _, _, _, _, _⟩ :: _) _; refine WPl.rdX (ReadR.indexE rfl rfl hasA (by first | assumption | omega)) ?_)
               | (show WPl _ _ _ _ _ _ _ (⟨_, .fieldAddr _ _ _, _, _, _, _⟩ :: _) _; refine WPl.rdX (ReadR.fieldE rfl hasA (by first | assumption | omega)) ?_)
               | (show WPl _ _ _ _ _ _ _ (⟨_, .load _ _, _, _, _, _⟩ :: _) _; first | refine WPl.rdX (ReadR.loadE rfl hasA (by assumption)) ?_ | refine WPl.rdX (ReadR.loadES (by assumption) (by first | assumption | omega) rfl hasA) ?_)
               | (show WPl _ _ _ _ _ _ _ (⟨_, .slice _ _ _ _ _, _, _, _, _⟩ :: _) _; first | refine WPl.rdX (ReadR.sliceH rfl rfl hasA (by omega)) ?_ | refine WPl.rdX (ReadR.sliceL rfl rfl hasA (by omega)) ?_ | refine WPl.rdX (ReadR.sliceLH rfl rfl rfl hasA (by omega) (by omega)) ?_)
               | (refine WPl.spQ (fun hc => ?_) (fun hc => ?_) <;> try exact prA)
               | fail)
              all_goals try (first | exact WPq.dTp | exact WPq.dTs | exact WPq.dV | exact WPq.dR | exact WPq.dR2 | exact WPq.dH | exact WPq.dBH | exact WPq.dT)
            · skip
              refine Triple.enter Try.func20 rfl Try.ntmps20 rfl (fun W => ?_)
              dsimp only [argsF, Nat.reduceAdd]
              repeat' (first
               | refine WPl.nil ?_ | refine WPq.then ?_ | refine WPq.thenR ?_ | refine WPq.thenE ?_ | refine WPq.blockN ?_ | refine WPq.blockR ?_ | refine WPq.blockE ?_ | refine WPq.blockO rfl ?_ | refine WPc.seq ?_ | refine WPc.block ?_ | refine WPc.ret ?_ | refine WPc.exit ?_ | refine WPc.skip ?_ | refine WPc.region ?_
               | (refine isCond ?_; first | refine WPc.cT ?_ | refine WPc.cF ?_ | (refine WPc.cQ (fun hc => ?_) (fun hc => ?_) <;> try exact prA))
               | (refine isD 58 ?_; refine WPl.rdX (ReadR.binE rfl rfl BinR.eql (congrArg Value.bool (decide_eq_false (by omega)))) ?_)
               | (refine isC 99 ?_; refine WPl.cV (hg) ?_)
               | (refine isC 53 ?_; refine WPl.cV (rget_t vb b 4 2 (by omega) (by omega) (by omega)) ?_)
               | (refine isC 104 ?_; refine WPl.cV (rget_t vb b 0 2 (by omega) (by omega) (by omega)) ?_)
               | (refine isC 107 ?_; refine WPl.cV (rget_t vb b 2 2 (by omega) (by omega) (by omega)) ?_)
               | (refine isOp ?_; first | refine WPl.rd ?_ | refine WPl.sk ?_ | refine WPl.rdB ?_)
               | (refine isAl ?_; refine WPl.nw fun g => ?_)
               | (refine isBx ?_; refine WPl.nw fun g => ?_)
               | (refine isSt ?_; first | refine WPl.st1 ?_ | refine WPl.stA ?_ | refine WPl.stEB ?_ | refine WPl.stRB ?_)
               | (show WPl _ _ _ _ _ _ _ (⟨_, .indexAddr _ _ _, _, _, _, _⟩ :: _) _; refine WPl.rdX (ReadR.indexE rfl rfl hasA (by first | assumption | omega)) ?_)
               | (show WPl _ _ _ _ _ _ _ (⟨_, .fieldAddr _ _ _, _, _, _, _⟩ :: _) _; refine WPl.rdX (ReadR.fieldE rfl hasA (by first | assumption | omega)) ?_)
               | (show WPl _ _ _ _ _ _ _ (⟨_, .load _ _, _, _, _, _⟩ :: _) _; first | refine WPl.rdX (ReadR.loadE rfl hasA (by assumption)) ?_ | refine WPl.rdX (ReadR.loadES (by assumption) (by first | assumption | omega) rfl hasA) ?_)
               | (show WPl _ _ _ _ _ _ _ (⟨_, .slice _ _ _ _ _, _, _, _, _⟩ :: _) _; first | refine WPl.rdX (ReadR.sliceH rfl rfl hasA (by omega)) ?_ | refine WPl.rdX (ReadR.sliceL rfl rfl hasA (by omega)) ?_ | refine WPl.rdX (ReadR.sliceLH rfl rfl rfl hasA (by omega) (by omega)) ?_)
               | (refine WPl.spQ (fun hc => ?_) (fun hc => ?_) <;> try exact prA)
               | fail)
              all_goals try (first | exact WPq.dTp | exact WPq.dTs | exact WPq.dV | exact WPq.dR | exact WPq.dR2 | exact WPq.dH | exact WPq.dBH | exact WPq.dT)
      · have hE : sgE h b = udpE h b := by unfold sgE; rw [h0, if_neg he]
        rw [show gVal h b = .tuple #[ag (sgc Sg.none), .int .i64 (udpE h b)] by unfold gVal sgR; rw [hE, if_neg he]]
        cases hsx : h.six with
        | true =>
          cases hsg : sgood h b with
          | true =>
            rw [hsg] at hg
            have hh : udpE h b = (if b.length < 8 then 9 else if val (seg b 4 2) < 8 then 4 else if b.length < val (seg b 4 2) then 9 else if val (seg b 4 2) < b.length then 10 else if val (seg b 6 2) = 0 then 4 else 0) := by unfold udpE; rw [hsg, hsx]; simp
            rw [hh] at he ⊢
            have hne : b.length < 8 ∨ val (seg b 4 2) < 8 ∨ val (seg b 4 2) ≠ b.length ∨ val (seg b 6 2) = 0 := by
              apply Classical.byContradiction
              intro hn
              apply he
              repeat' (first | omega | split)
            refine Triple.enter Try.func20 rfl Try.ntmps20 rfl (fun W => ?_)
            dsimp only [argsF, Nat.reduceAdd]
            repeat' (first
             | refine WPl.nil ?_ | refine WPq.then ?_ | refine WPq.thenR ?_ | refine WPq.thenE ?_ | refine WPq.blockN ?_ | refine WPq.blockR ?_ | refine WPq.blockE ?_ | refine WPq.blockO rfl ?_ | refine WPc.seq ?_ | refine WPc.block ?_ | refine WPc.ret ?_ | refine WPc.exit ?_ | refine WPc.skip ?_ | refine WPc.region ?_
             | (refine isCond ?_; first | refine WPc.cT ?_ | refine WPc.cF ?_ | (refine WPc.cQ (fun hc => ?_) (fun hc => ?_) <;> try exact prA))
             | (refine isC 99 ?_; refine WPl.cV (hg) ?_)
             | (refine isC 53 ?_; refine WPl.cV (rget_t vb b 4 2 (by omega) (by omega) (by omega)) ?_)
             | (refine isOp ?_; first | refine WPl.rd ?_ | refine WPl.sk ?_ | refine WPl.rdB ?_)
             | (refine isAl ?_; refine WPl.nw fun g => ?_)
             | (refine isBx ?_; refine WPl.nw fun g => ?_)
             | (refine isSt ?_; first | refine WPl.st1 ?_ | refine WPl.stA ?_ | refine WPl.stEB ?_ | refine WPl.stRB ?_)
             | (show WPl _ _ _ _ _ _ _ (⟨_, .indexAddr _ _ _, _, _, _, _⟩ :: _) _; refine WPl.rdX (ReadR.indexE rfl rfl hasA (by first | assumption | omega)) ?_)
             | (show WPl _ _ _ _ _ _ _ (⟨_, .fieldAddr _ _ _, _, _, _, _⟩ :: _) _; refine WPl.rdX (ReadR.fieldE rfl hasA (by first | assumption | omega)) ?_)
             | (show WPl _ _ _ _ _ _ _ (⟨_, .load _ _, _, _, _, _⟩ :: _) _; first | refine WPl.rdX (ReadR.loadE rfl hasA (by assumption)) ?_ | refine WPl.rdX (ReadR.loadES (by assumption) (by first | assumption | omega) rfl hasA) ?_)
             | (show WPl _ _ _ _ _ _ _ (⟨_, .slice _ _ _ _ _, _, _, _, _⟩ :: _) _; first | refine WPl.rdX (ReadR.sliceH rfl rfl hasA (by omega)) ?_ | refine WPl.rdX (ReadR.sliceL rfl rfl hasA (by omega)) ?_ | refine WPl.rdX (ReadR.sliceLH rfl rfl rfl hasA (by omega) (by omega)) ?_)
             | (refine WPl.spQ (fun hc => ?_) (fun hc => ?_) <;> try exact prA)
             | fail)
            all_goals
              refine WPq.dV (hc := ?_)
              show Value.tuple #[_, Value.int .i64 _] = Value.tuple #[_, Value.int .i64 _]
              congr 5
              repeat' (first | omega | split)
          | false =>
            rw [hsg] at hg
            have hh : udpE h b = (if b.length < 8 then 9 else if val (seg b 4 2) < 8 then 4 else if b.length < val (seg b 4 2) then 9 else if val (seg b 4 2) < b.length then 10 else if val (seg b 6 2) = 0 then 4 else 5) := by unfold udpE; rw [hsg, hsx]; by_cases hz : val (seg b 6 2) = 0 <;> simp [hz]
            rw [hh]
            refine Triple.enter Try.func20 rfl Try.ntmps20 rfl (fun W => ?_)
            dsimp only [argsF, Nat.reduceAdd]
            repeat' (first
             | refine WPl.nil ?_ | refine WPq.then ?_ | refine WPq.thenR ?_ | refine WPq.thenE ?_ | refine WPq.blockN ?_ | refine WPq.blockR ?_ | refine WPq.blockE ?_ | refine WPq.blockO rfl ?_ | refine WPc.seq ?_ | refine WPc.block ?_ | refine WPc.ret ?_ | refine WPc.exit ?_ | refine WPc.skip ?_ | refine WPc.region ?_
             | (refine isCond ?_; first | refine WPc.cT ?_ | refine WPc.cF ?_ | (refine WPc.cQ (fun hc => ?_) (fun hc => ?_) <;> try exact prA))
             | (refine isC 99 ?_; refine WPl.cV (hg) ?_)
             | (refine isC 53 ?_; refine WPl.cV (rget_t vb b 4 2 (by omega) (by omega) (by omega)) ?_)
             | (refine isOp ?_; first | refine WPl.rd ?_ | refine WPl.sk ?_ | refine WPl.rdB ?_)
             | (refine isAl ?_; refine WPl.nw fun g => ?_)
             | (refine isBx ?_; refine WPl.nw fun g => ?_)
             | (refine isSt ?_; first | refine WPl.st1 ?_ | refine WPl.stA ?_ | refine WPl.stEB ?_ | refine WPl.stRB ?_)
             | (show WPl _ _ _ _ _ _ _ (⟨_, .indexAddr _ _ _, _, _, _, _⟩ :: _) _; refine WPl.rdX (ReadR.indexE rfl rfl hasA (by first | assumption | omega)) ?_)
             | (show WPl _ _ _ _ _ _ _ (⟨_, .fieldAddr _ _ _, _, _, _, _⟩ :: _) _; refine WPl.rdX (ReadR.fieldE rfl hasA (by first | assumption | omega)) ?_)
             | (show WPl _ _ _ _ _ _ _ (⟨_, .load _ _, _, _, _, _⟩ :: _) _; first | refine WPl.rdX (ReadR.loadE rfl hasA (by assumption)) ?_ | refine WPl.rdX (ReadR.loadES (by assumption) (by first | assumption | omega) rfl hasA) ?_)
             | (show WPl _ _ _ _ _ _ _ (⟨_, .slice _ _ _ _ _, _, _, _, _⟩ :: _) _; first | refine WPl.rdX (ReadR.sliceH rfl rfl hasA (by omega)) ?_ | refine WPl.rdX (ReadR.sliceL rfl rfl hasA (by omega)) ?_ | refine WPl.rdX (ReadR.sliceLH rfl rfl rfl hasA (by omega) (by omega)) ?_)
             | (refine WPl.spQ (fun hc => ?_) (fun hc => ?_) <;> try exact prA)
             | fail)
            all_goals
              refine WPq.dV (hc := ?_)
              show Value.tuple #[_, Value.int .i64 _] = Value.tuple #[_, Value.int .i64 _]
              congr 5
              repeat' (first | omega | split)
        | false =>
          cases hsg : sgood h b with
          | true =>
            rw [hsg] at hg
            have hh : udpE h b = (if b.length < 8 then 9 else if val (seg b 4 2) < 8 then 4 else if b.length < val (seg b 4 2) then 9 else if val (seg b 4 2) < b.length then 10 else 0) := by unfold udpE; rw [hsg, hsx]; simp
            rw [hh] at he ⊢
            have hne : b.length < 8 ∨ val (seg b 4 2) < 8 ∨ val (seg b 4 2) ≠ b.length := by
              apply Classical.byContradiction
              intro hn
              apply he
              repeat' (first | omega | split)
            refine Triple.enter Try.func20 rfl Try.ntmps20 rfl (fun W => ?_)
            dsimp only [argsF, Nat.reduceAdd]
            repeat' (first
             | refine WPl.nil ?_ | refine WPq.then ?_ | refine WPq.thenR ?_ | refine WPq.thenE ?_ | refine WPq.blockN ?_ | refine WPq.blockR ?_ | refine WPq.blockE ?_ | refine WPq.blockO rfl ?_ | refine WPc.seq ?_ | refine WPc.block ?_ | refine WPc.ret ?_ | refine WPc.exit ?_ | refine WPc.skip ?_ | refine WPc.region ?_
             | (refine isCond ?_; first | refine WPc.cT ?_ | refine WPc.cF ?_ | (refine WPc.cQ (fun hc => ?_) (fun hc => ?_) <;> try exact prA))
             | (refine isC 99 ?_; refine WPl.cV (hg) ?_)
             | (refine isC 53 ?_; refine WPl.cV (rget_t vb b 4 2 (by omega) (by omega) (by omega)) ?_)
             | (refine isOp ?_; first | refine WPl.rd ?_ | refine WPl.sk ?_ | refine WPl.rdB ?_)
             | (refine isAl ?_; refine WPl.nw fun g => ?_)
             | (refine isBx ?_; refine WPl.nw fun g => ?_)
             | (refine isSt ?_; first | refine WPl.st1 ?_ | refine WPl.stA ?_ | refine WPl.stEB ?_ | refine WPl.stRB ?_)
             | (show WPl _ _ _ _ _ _ _ (⟨_, .indexAddr _ _ _, _, _, _, _⟩ :: _) _; refine WPl.rdX (ReadR.indexE rfl rfl hasA (by first | assumption | omega)) ?_)
             | (show WPl _ _ _ _ _ _ _ (⟨_, .fieldAddr _ _ _, _, _, _, _⟩ :: _) _; refine WPl.rdX (ReadR.fieldE rfl hasA (by first | assumption | omega)) ?_)
             | (show WPl _ _ _ _ _ _ _ (⟨_, .load _ _, _, _, _, _⟩ :: _) _; first | refine WPl.rdX (ReadR.loadE rfl hasA (by assumption)) ?_ | refine WPl.rdX (ReadR.loadES (by assumption) (by first | assumption | omega) rfl hasA) ?_)
             | (show WPl _ _ _ _ _ _ _ (⟨_, .slice _ _ _ _ _, _, _, _, _⟩ :: _) _; first | refine WPl.rdX (ReadR.sliceH rfl rfl hasA (by omega)) ?_ | refine WPl.rdX (ReadR.sliceL rfl rfl hasA (by omega)) ?_ | refine WPl.rdX (ReadR.sliceLH rfl rfl rfl hasA (by omega) (by omega)) ?_)
             | (refine WPl.spQ (fun hc => ?_) (fun hc => ?_) <;> try exact prA)
             | fail)
            all_goals
              refine WPq.dV (hc := ?_)
              show Value.tuple #[_, Value.int .i64 _] = Value.tuple #[_, Value.int .i64 _]
              congr 5
              repeat' (first | omega | split)
          | false =>
            rw [hsg] at hg
            have hh : udpE h b = (if b.length < 8 then 9 else if val (seg b 4 2) < 8 then 4 else if b.length < val (seg b 4 2) then 9 else if val (seg b 4 2) < b.length then 10 else if ¬ val (seg b 6 2) = 0 then 5 else 0) := by unfold udpE; rw [hsg, hsx]; simp
            rw [hh] at he ⊢
            have hne : b.length < 8 ∨ val (seg b 4 2) < 8 ∨ val (seg b 4 2) ≠ b.length ∨ ¬ val (seg b 6 2) = 0 := by
              apply Classical.byContradiction
              intro hn
              apply he
              repeat' (first | omega | split)
            refine Triple.enter Try.func20 rfl Try.ntmps20 rfl (fun W => ?_)
            dsimp only [argsF, Nat.reduceAdd]
            repeat' (first
             | refine WPl.nil ?_ | refine WPq.then ?_ | refine WPq.thenR ?_ | refine WPq.thenE ?_ | refine WPq.blockN ?_ | refine WPq.blockR ?_ | refine WPq.blockE ?_ | refine WPq.blockO rfl ?_ | refine WPc.seq ?_ | refine WPc.block ?_ | refine WPc.ret ?_ | refine WPc.exit ?_ | refine WPc.skip ?_ | refine WPc.region ?_
             | (refine isCond ?_; first | refine WPc.cT ?_ | refine WPc.cF ?_ | (refine WPc.cQ (fun hc => ?_) (fun hc => ?_) <;> try exact prA))
             | (refine isC 99 ?_; refine WPl.cV (hg) ?_)
             | (refine isC 53 ?_; refine WPl.cV (rget_t vb b 4 2 (by omega) (by omega) (by omega)) ?_)
             | (refine isOp ?_; first | refine WPl.rd ?_ | refine WPl.sk ?_ | refine WPl.rdB ?_)
             | (refine isAl ?_; refine WPl.nw fun g => ?_)
             | (refine isBx ?_; refine WPl.nw fun g => ?_)
             | (refine isSt ?_; first | refine WPl.st1 ?_ | refine WPl.stA ?_ | refine WPl.stEB ?_ | refine WPl.stRB ?_)
             | (show WPl _ _ _ _ _ _ _ (⟨_, .indexAddr _ _ _, _, _, _, _⟩ :: _) _; refine WPl.rdX (ReadR.indexE rfl rfl hasA (by first | assumption | omega)) ?_)
             | (show WPl _ _ _ _ _ _ _ (⟨_, .fieldAddr _ _ _, _, _, _, _⟩ :: _) _; refine WPl.rdX (ReadR.fieldE rfl hasA (by first | assumption | omega)) ?_)
             | (show WPl _ _ _ _ _ _ _ (⟨_, .load _ _, _, _, _, _⟩ :: _) _; first | refine WPl.rdX (ReadR.loadE rfl hasA (by assumption)) ?_ | refine WPl.rdX (ReadR.loadES (by assumption) (by first | assumption | omega) rfl hasA) ?_)
             | (show WPl _ _ _ _ _ _ _ (⟨_, .slice _ _ _ _ _, _, _, _, _⟩ :: _) _; first | refine WPl.rdX (ReadR.sliceH rfl rfl hasA (by omega)) ?_ | refine WPl.rdX (ReadR.sliceL rfl rfl hasA (by omega)) ?_ | refine WPl.rdX (ReadR.sliceLH rfl rfl rfl hasA (by omega) (by omega)) ?_)
             | (refine WPl.spQ (fun hc => ?_) (fun hc => ?_) <;> try exact prA)
             | fail)
            all_goals
              refine WPq.dV (hc := ?_)
              show Value.tuple #[_, Value.int .i64 _] = Value.tuple #[_, Value.int .i64 _]
              congr 5
              repeat' (first | omega | split)
    · have h0 : sgE0 h b = 6 := by unfold sgE0; rw [if_neg h6, if_neg h17]
      have hE : sgE h b = 6 := by unfold sgE; rw [h0, if_neg (by omega)]
      rw [show gVal h b = .tuple #[ag (sgc Sg.none), .int .i64 6] by unfold gVal sgR; rw [hE, if_neg (by omega)]]
      refine Triple.enter Try.func20 rfl Try.ntmps20 rfl (fun W => ?_)
      dsimp only [argsF, Nat.reduceAdd]
      repeat' (first
       | refine WPl.nil ?_ | refine WPq.then ?_ | refine WPq.thenR ?_ | refine WPq.thenE ?_ | refine WPq.blockN ?_ | refine WPq.blockR ?_ | refine WPq.blockE ?_ | refine WPq.blockO rfl ?_ | refine WPc.seq ?_ | refine WPc.block ?_ | refine WPc.ret ?_ | refine WPc.exit ?_ | refine WPc.skip ?_ | refine WPc.region ?_
       | (refine isCond ?_; first | refine WPc.cT ?_ | refine WPc.cF ?_ | (refine WPc.cQ (fun hc => ?_) (fun hc => ?_) <;> try exact prA))
       | (refine isOp ?_; first | refine WPl.rd ?_ | refine WPl.sk ?_ | refine WPl.rdB ?_)
       | (refine isAl ?_; refine WPl.nw fun g => ?_)
       | (refine isBx ?_; refine WPl.nw fun g => ?_)
       | (refine isSt ?_; first | refine WPl.st1 ?_ | refine WPl.stA ?_ | refine WPl.stEB ?_ | refine WPl.stRB ?_)
       | (show WPl _ _ _ _ _ _ _ (⟨_, .indexAddr _ _ _, _, _, _, _⟩ :: _) _; refine WPl.rdX (ReadR.indexE rfl rfl hasA (by first | assumption | omega)) ?_)
       | (show WPl _ _ _ _ _ _ _ (⟨_, .fieldAddr _ _ _, _, _, _, _⟩ :: _) _; refine WPl.rdX (ReadR.fieldE rfl hasA (by first | assumption | omega)) ?_)
       | (show WPl _ _ _ _ _ _ _ (⟨_, .load _ _, _, _, _, _⟩ :: _) _; first | refine WPl.rdX (ReadR.loadE rfl hasA (by assumption)) ?_ | refine WPl.rdX (ReadR.loadES (by assumption) (by first | assumption | omega) rfl hasA) ?_)
       | (show WPl _ _ _ _ _ _ _ (⟨_, .slice _ _ _ _ _, _, _, _, _⟩ :: _) _; first | refine WPl.rdX (ReadR.sliceH rfl rfl hasA (by omega)) ?_ | refine WPl.rdX (ReadR.sliceL rfl rfl hasA (by omega)) ?_ | refine WPl.rdX (ReadR.sliceLH rfl rfl rfl hasA (by omega) (by omega)) ?_)
       | (refine WPl.spQ (fun hc => ?_) (fun hc => ?_) <;> try exact prA)
       | fail)
      all_goals try (first | exact WPq.dTp | exact WPq.dTs | exact WPq.dV | exact WPq.dR | exact WPq.dR2 | exact WPq.dH | exact WPq.dBH | exact WPq.dT)
end Go.Proofs.Ytjfhiifpnpokpaa
/- Reference of layer 14 (ipsix): reading heads: contracts. -/
namespace Go.Proofs.Ytjfhiifpnpokpaa
open Go.RowKit
set_option linter.unusedSimpArgs false
set_option linter.unusedVariables false
set_option maxRecDepth 20000
set_option maxHeartbeats 4000000
attribute [local irreducible] WPc WPl WPq ReadR OpT BinR HasS bx rdN rowN Take Takes Prov Triple ResF BuildP Done ag Int.decLt Int.decLe Int.instDecidableEq

theorem r14of_t (v : Value) (l : List UInt8) (h : l.length = 16) : Triple Try.prog 34 #[v] [rb v l] (RVal (ag (adc (ofA l)))) := by
  rw [show ofA l = ⟨true, l, h⟩ by unfold ofA; rw [dif_pos h]; rfl]
  refine Triple.enter Try.func34 rfl Try.ntmps34 rfl (fun W => ?_)
  dsimp only [argsF, Nat.reduceAdd]
  repeat' (first
   | refine WPl.nil ?_ | refine WPq.then ?_ | refine WPq.thenR ?_ | refine WPq.thenE ?_ | refine WPq.blockN ?_ | refine WPq.blockR ?_ | refine WPq.blockE ?_ | refine WPq.blockO rfl ?_ | refine WPc.seq ?_ | refine WPc.block ?_ | refine WPc.ret ?_ | refine WPc.exit ?_ | refine WPc.skip ?_ | refine WPc.region ?_
   | (refine isCond ?_; first | refine WPc.cT ?_ | refine WPc.cF ?_)
   | (refine isD 3 ?_; first | (refine isAl ?_; refine WPl.nw fun g => ?_) | (refine isBx ?_; refine WPl.nw fun g => ?_))
   | (refine isD 2 ?_; first | (refine isAl ?_; refine WPl.nw fun gr => ?_) | (refine isBx ?_; refine WPl.nw fun gr => ?_))
   | (refine isOp ?_; first | refine WPl.rd ?_ | refine WPl.sk ?_ | refine WPl.rdB ?_)
   | (refine isAl ?_; refine WPl.nw fun g => ?_)
   | (refine isSt ?_; first | refine WPl.st1 ?_ | refine WPl.stA ?_ | refine WPl.stEB ?_ | refine WPl.stRB ?_)
   | (show WPl _ _ _ _ _ _ _ (⟨_, .indexAddr _ _ _, _, _, _, _⟩ :: _) _; refine WPl.rdX (ReadR.indexE rfl rfl hasA (by first | assumption | omega)) ?_)
   | (show WPl _ _ _ _ _ _ _ (⟨_, .fieldAddr _ _ _, _, _, _, _⟩ :: _) _; refine WPl.rdX (ReadR.fieldE rfl hasA (by first | assumption | omega)) ?_)
   | (show WPl _ _ _ _ _ _ _ (⟨_, .load _ _, _, _, _, _⟩ :: _) _; first | refine WPl.rdX (ReadR.loadE rfl hasA (by assumption)) ?_ | refine WPl.rdX (ReadR.loadES (by assumption) (by first | assumption | omega) rfl hasA) ?_)
   | (show WPl _ _ _ _ _ _ _ (⟨_, .slice _ _ _ _ _, _, _, _, _⟩ :: _) _; first | refine WPl.rdX (ReadR.sliceH rfl rfl hasA (by omega)) ?_ | refine WPl.rdX (ReadR.sliceL rfl rfl hasA (by omega)) ?_ | refine WPl.rdX (ReadR.sliceLH rfl rfl rfl hasA (by omega) (by omega)) ?_)
   | fail)
  first | refine WPc.loop (σ := Nat × List UInt8) (fun p => p.1 ≤ 16 ∧ p.2 = over (List.replicate 16 0) 0 (seg l 0 p.1)) (fun p => [bx g 25 [(1, [.bool true]), (16, u8s p.2)], bx gr 25 [(1, [.bool false]), (16, u8s (List.replicate 16 0))], rb v l]) (fun p => [(0, v), (2, .pointer (some ⟨gr, 0, none⟩)), (3, .pointer (some ⟨g, 0, none⟩)), (4, .int .i64 p.1)]) (fun p => 16 - p.1) ((0, List.replicate 16 0)) ?_ takesA frsA (fun st km hx hk => ?_)
  · exact ⟨by omega, by simp [seg, over]⟩
  obtain ⟨i, c⟩ := st
  dsimp only at hx hk ⊢
  obtain ⟨hi, hc0⟩ := hx
  have hcl : c.length = 16 := by rw [hc0, over_length] <;> simp [seg_len]; omega
  by_cases hlt : i < 16
  · skip
    repeat' (first
     | refine WPl.nil ?_ | refine WPq.then ?_ | refine WPq.thenR ?_ | refine WPq.thenE ?_ | refine WPq.blockN ?_ | refine WPq.blockR ?_ | refine WPq.blockE ?_ | refine WPq.blockO rfl ?_ | refine WPc.seq ?_ | refine WPc.block ?_ | refine WPc.ret ?_ | refine WPc.exit ?_ | refine WPc.skip ?_ | refine WPc.region ?_
     | (refine isCond ?_; first | refine WPc.cT ?_ | refine WPc.cF ?_ | (refine WPc.cQ (fun hc => ?_) (fun hc => ?_) <;> try exact prA))
     | (refine isOp ?_; first | refine WPl.rd ?_ | refine WPl.sk ?_ | refine WPl.rdB ?_)
     | (refine isAl ?_; refine WPl.nw fun g => ?_)
     | (refine isSt ?_; first | refine WPl.st1 ?_ | refine WPl.stA ?_ | refine WPl.stEB ?_ | refine WPl.stRB ?_)
     | (show WPl _ _ _ _ _ _ _ (⟨_, .indexAddr _ _ _, _, _, _, _⟩ :: _) _; refine WPl.rdX (ReadR.indexE rfl rfl hasA (by first | assumption | omega)) ?_)
     | (show WPl _ _ _ _ _ _ _ (⟨_, .fieldAddr _ _ _, _, _, _, _⟩ :: _) _; refine WPl.rdX (ReadR.fieldE rfl hasA (by first | assumption | omega)) ?_)
     | (show WPl _ _ _ _ _ _ _ (⟨_, .load _ _, _, _, _, _⟩ :: _) _; first | refine WPl.rdX (ReadR.loadE rfl hasA (by assumption)) ?_ | refine WPl.rdX (ReadR.loadES (by assumption) (by first | assumption | omega) rfl hasA) ?_)
     | (show WPl _ _ _ _ _ _ _ (⟨_, .slice _ _ _ _ _, _, _, _, _⟩ :: _) _; first | refine WPl.rdX (ReadR.sliceH rfl rfl hasA (by omega)) ?_ | refine WPl.rdX (ReadR.sliceL rfl rfl hasA (by omega)) ?_ | refine WPl.rdX (ReadR.sliceLH rfl rfl rfl hasA (by omega) (by omega)) ?_)
     | (refine WPl.spQ (fun hc => ?_) (fun hc => ?_) <;> try exact prA)
     | fail)
    exact WPq.rnd (i + 1, c.set i (l.getD i 0)) ⟨by show i + 1 ≤ 16; omega, by
      show _ = over _ _ (seg l 0 (i + 1))
      have e := seg_snoc (l := l) (k := 0) (n := i) (by omega)
      have hs : (seg l 0 i).length = i := seg_length (by omega)
      rw [e, over_snoc _ _ _ _ (by simp; omega), ← hc0, hs, Nat.zero_add]⟩ (by show 16 - (i + 1) < km; omega)
  · obtain rfl : i = 16 := by omega
    have hcl2 : c = l := by
      rw [hc0, seg, List.drop_zero, List.take_of_length_le (by omega)]
      unfold over
      rw [List.take_zero, List.nil_append, List.drop_of_length_le (by simp; omega), List.append_nil]
    subst hcl2
    repeat' (first
     | refine WPl.nil ?_ | refine WPq.then ?_ | refine WPq.thenR ?_ | refine WPq.thenE ?_ | refine WPq.blockN ?_ | refine WPq.blockR ?_ | refine WPq.blockE ?_ | refine WPq.blockO rfl ?_ | refine WPc.seq ?_ | refine WPc.block ?_ | refine WPc.ret ?_ | refine WPc.exit ?_ | refine WPc.skip ?_ | refine WPc.region ?_
     | (refine isCond ?_; first | refine WPc.cT ?_ | refine WPc.cF ?_ | (refine WPc.cQ (fun hc => ?_) (fun hc => ?_) <;> try exact prA))
     | (refine isOp ?_; first | refine WPl.rd ?_ | refine WPl.sk ?_ | refine WPl.rdB ?_)
     | (refine isAl ?_; refine WPl.nw fun g => ?_)
     | (refine isSt ?_; first | refine WPl.st1 ?_ | refine WPl.stA ?_ | refine WPl.stEB ?_ | refine WPl.stRB ?_)
     | (show WPl _ _ _ _ _ _ _ (⟨_, .indexAddr _ _ _, _, _, _, _⟩ :: _) _; refine WPl.rdX (ReadR.indexE rfl rfl hasA (by first | assumption | omega)) ?_)
     | (show WPl _ _ _ _ _ _ _ (⟨_, .fieldAddr _ _ _, _, _, _, _⟩ :: _) _; refine WPl.rdX (ReadR.fieldE rfl hasA (by first | assumption | omega)) ?_)
     | (show WPl _ _ _ _ _ _ _ (⟨_, .load _ _, _, _, _, _⟩ :: _) _; first | refine WPl.rdX (ReadR.loadE rfl hasA (by assumption)) ?_ | refine WPl.rdX (ReadR.loadES (by assumption) (by first | assumption | omega) rfl hasA) ?_)
     | (show WPl _ _ _ _ _ _ _ (⟨_, .slice _ _ _ _ _, _, _, _, _⟩ :: _) _; first | refine WPl.rdX (ReadR.sliceH rfl rfl hasA (by omega)) ?_ | refine WPl.rdX (ReadR.sliceL rfl rfl hasA (by omega)) ?_ | refine WPl.rdX (ReadR.sliceLH rfl rfl rfl hasA (by omega) (by omega)) ?_)
     | (refine WPl.spQ (fun hc => ?_) (fun hc => ?_) <;> try exact prA)
     | fail)
    all_goals try (first | exact WPq.dTp | exact WPq.dTs | exact WPq.dV | exact WPq.dR | exact WPq.dR2 | exact WPq.dH | exact WPq.dBH | exact WPq.dT)
theorem seg_rest (b : List UInt8) (p k : Nat) : (seg b p (b.length - p)).getD k 0 = b.getD (p + k) 0 := by
  unfold seg
  rw [List.take_of_length_le (by rw [List.length_drop]; omega), getD_drop]
theorem xsize_b (b : List UInt8) (s : XS) : xsize b s = if s.proto.toNat = 44 then 8 else 8 + 8 * byteN b (s.pos + 1) := by
  unfold xsize byteN; rw [seg_rest]
theorem xbad_b (b : List UInt8) (s : XS) : xbad b s = (decide (b.length - s.pos < 8) || decide (b.length - s.pos < xsize b s)) := by
  unfold xbad; rw [rest_len]
def xK (b : List UInt8) (p : Nat) : Nat := 256 * byteN b (p + 2) + byteN b (p + 3)
theorem xpart_b (b : List UInt8) (s : XS) (h : 8 ≤ b.length - s.pos) (h44 : s.proto.toNat = 44) : xpart b s = (s.part || decide (¬ xK b s.pos / 8 = 0 ∨ xK b s.pos % 2 = 1)) := by
  unfold xpart
  rw [if_pos h44, val_seg2 (by rw [rest_len]; omega)]
  unfold byteN
  rw [seg_rest, seg_rest]
  have h1 := (b.getD (s.pos + 2) 0).toNat_lt
  have h2 := (b.getD (s.pos + (2 + 1)) 0).toNat_lt
  have e := and_fff9 (n := 256 * (b.getD (s.pos + 2) 0).toNat + (b.getD (s.pos + (2 + 1)) 0).toNat) (by omega)
  congr 1
  rw [Bool.eq_iff_iff]
  simp only [Bool.not_eq_true', decide_eq_false_iff_not, decide_eq_true_eq]
  unfold xK byteN
  rw [show s.pos + 3 = s.pos + (2 + 1) by omega]
  omega
theorem xnext_b (b : List UInt8) (s : XS) : xnext b s = ⟨b.getD s.pos 0, s.pos + xsize b s, xpart b s⟩ := by
  unfold xnext; rw [seg_rest, Nat.add_zero]
attribute [local irreducible] xall xsize xpart xnext ofA
abbrev hcx (b : List UInt8) (s : XS) : Ch := [(1, [.bool true]), (1, [.int .u8 ((s.proto.toNat : Nat) : Int)]), (1, [.int .i64 (s.pos : Int)]), (1, [.bool (ofA (seg b 8 16)).six]), (16, u8s (ofA (seg b 8 16)).b), (1, [.bool (ofA (seg b 24 16)).six]), (16, u8s (ofA (seg b 24 16)).b), (1, [.bool s.part]), (1, [.int .u8 (((b.getD 7 0).toNat : Nat) : Int)])]
theorem sVal_ok {b : List UInt8} {s : XS} (he : xerr0 b = 0) (h : xall b 8 (xs0 b) = (0, s)) : sVal b = .tuple #[ag (hcx b s), .int .i64 0] := by
  unfold sVal xread xerr
  rw [if_pos he, h]
  dsimp only
  rw [if_pos rfl]
  rfl
theorem sVal_no {b : List UInt8} {s : XS} {c : Int} (he : xerr0 b = 0) (hc : ¬ c = 0) (h : xall b 8 (xs0 b) = (c, s)) : sVal b = .tuple #[ag (hdc Hd.none), .int .i64 c] := by
  unfold sVal xread xerr
  rw [if_pos he, h, if_neg hc]
theorem rx_t (v : Value) (b : List UInt8) (hl : b.length ≤ 100000) : Triple Try.prog 19 #[v] [rb v b] (RVal (sVal b)) := by
  have hb0 := byteN_lt b 0
  have hb7 := byteN_lt b 7
  have hv1 := val2_lt (l := b) (k := 4)
  have u0 : byteN b 0 = (b.getD 0 0).toNat := rfl
  have u7 : byteN b 7 = (b.getD 7 0).toNat := rfl
  by_cases he : xerr0 b = 0
  · obtain ⟨h1, h2, h3, h4, h5⟩ := xerr0_zero he
    have ha1 := (ofA (seg b 8 16)).len
    have ha2 := (ofA (seg b 24 16)).len
    refine Triple.enter Try.func19 rfl Try.ntmps19 rfl (fun W => ?_)
    dsimp only [argsF, Nat.reduceAdd]
    repeat' (first
     | refine WPl.nil ?_ | refine WPq.then ?_ | refine WPq.thenR ?_ | refine WPq.thenE ?_ | refine WPq.blockN ?_ | refine WPq.blockR ?_ | refine WPq.blockE ?_ | refine WPq.blockO rfl ?_ | refine WPc.seq ?_ | refine WPc.block ?_ | refine WPc.ret ?_ | refine WPc.exit ?_ | refine WPc.skip ?_ | refine WPc.region ?_
     | (refine isReg 15 ?_; refine WPc.drA [([], [6, 47, 48, 49, 50, 51, 52, 53, 54, 55]), ([0], [6, 44, 47, 48, 49, 50, 51, 52, 53, 54, 55]), ([0, 1], [6, 44, 45, 47, 48, 49, 50, 51, 52, 53, 54, 55]), ([], [6, 44, 45, 46, 50, 51, 53, 54, 55]), ([3], [6, 44, 45, 46, 47, 50, 51, 53, 54, 55]), ([3, 4], [6, 44, 45, 46, 47, 48, 50, 51, 53, 54, 55]), ([], [6, 44, 45, 46, 47, 48, 49, 53, 54, 55]), ([6], [6, 44, 45, 46, 47, 48, 49, 50, 53, 54, 55]), ([3, 4, 5, 6, 7], [6, 44, 45, 46, 47, 48, 49, 50, 51, 53, 54, 55]), ([], [6, 44, 45, 46, 47, 48, 49, 50, 51, 52]), ([9], [6, 44, 45, 46, 47, 48, 49, 50, 51, 52, 53]), ([9, 10], [6, 44, 45, 46, 47, 48, 49, 50, 51, 52, 53, 54]), ([0, 1, 2, 3, 4, 5, 6, 7, 8, 9, 10, 11], [6, 44, 45, 46, 47, 48, 49, 50, 51, 52, 53, 54, 55]), ([], [44, 45, 46, 47, 48, 49, 50, 51, 52, 53, 54, 55, 56]), ([0, 1, 2, 3, 4, 5, 6, 7, 8, 9, 10, 11, 12, 13], [6, 44, 45, 46, 47, 48, 49, 50, 51, 52, 53, 54, 55, 56])] [(13, 14)] (Γx := []) ?_; dsimp only [prev0, List.length_nil, List.length_cons])
     | (refine isReg 30 ?_; refine WPc.drA [([], [97, 98, 99, 104, 105, 106, 107, 108, 109, 110]), ([], [96, 104, 105, 106, 107, 108, 109, 110]), ([1], [96, 97, 104, 105, 106, 107, 108, 109, 110]), ([1, 2], [96, 97, 98, 104, 105, 106, 107, 108, 109, 110]), ([0, 1, 2, 3], [96, 97, 98, 99, 104, 105, 106, 107, 108, 109, 110]), ([0, 1, 2, 3, 4], [96, 97, 98, 99, 100, 104, 105, 106, 107, 108, 109, 110]), ([0, 1, 2, 3, 4, 5], [96, 97, 98, 99, 100, 101, 104, 105, 106, 107, 108, 109, 110]), ([0, 1, 2, 3, 4, 5, 6], [96, 97, 98, 99, 100, 101, 102, 104, 105, 106, 107, 108, 109, 110]), ([], [96, 97, 98, 99, 100, 101, 102, 103, 105, 106, 107]), ([], [96, 97, 98, 99, 100, 101, 102, 103, 104]), ([9], [96, 97, 98, 99, 100, 101, 102, 103, 104, 105]), ([9, 10], [96, 97, 98, 99, 100, 101, 102, 103, 104, 105, 106]), ([8, 9, 10, 11], [96, 97, 98, 99, 100, 101, 102, 103, 104, 105, 106, 107]), ([8, 9, 10, 11, 12], [96, 97, 98, 99, 100, 101, 102, 103, 104, 105, 106, 107, 108]), ([8, 9, 10, 11, 12, 13], [96, 97, 98, 99, 100, 101, 102, 103, 104, 105, 106, 107, 108, 109]), ([0, 1, 2, 3, 4, 5, 6, 7, 8, 9, 10, 11, 12, 13, 14], [96, 97, 98, 99, 100, 101, 102, 103, 104, 105, 106, 107, 108, 109, 110]), ([0, 1, 2, 3, 4, 5, 6, 7, 8, 9, 10, 11, 12, 13, 14, 15], [96, 97, 98, 99, 100, 101, 102, 103, 104, 105, 106, 107, 108, 109, 110, 111])] [] (Γx := []) ?_; dsimp only [prev0, List.length_nil, List.length_cons])
     | (refine isReg 34 ?_; refine WPc.drA [([], [134, 135, 138, 139, 140, 141]), ([], [133, 138, 139, 140, 141]), ([1], [133, 134, 138, 139, 140, 141]), ([0, 1, 2], [133, 134, 135, 138, 139, 140, 141]), ([0, 1, 2, 3], [133, 134, 135, 136, 138, 139, 140, 141]), ([], [133, 134, 135, 136, 137, 140]), ([5], [133, 134, 135, 136, 137, 138, 140]), ([], [133, 134, 135, 136, 137, 138, 139, 142]), ([5, 6, 7], [133, 134, 135, 136, 137, 138, 139, 140, 142]), ([0, 1, 2, 3, 4, 5, 6], [133, 134, 135, 136, 137, 138, 139, 140, 141]), ([0, 1, 2, 3, 4, 5, 6, 9], [133, 134, 135, 136, 137, 138, 139, 140, 141, 142]), ([0, 1, 2, 3, 4, 5, 6, 7, 8, 9, 10], [133, 134, 135, 136, 137, 138, 139, 140, 141, 142]), ([0, 1, 2, 3, 4, 5, 6, 7, 8, 9, 10, 11], [133, 134, 135, 136, 137, 138, 139, 140, 141, 142, 143])] [] (Γx := []) ?_; dsimp only [prev0, List.length_nil, List.length_cons])
     | (refine gAny ?_; first | (refine gC 26 ?_; refine RGl.vl (fun e hk => OpT.callN (rget_t v b 4 2 (by omega) (by omega) (by omega))) ?_) | (refine gC 49 ?_; refine RGl.vl (fun e hk => OpT.callN (r14of_t (subv 1 v 8 16) (seg b 8 16) (seg_length (by omega)))) ?_) | (refine gC 52 ?_; refine RGl.vl (fun e hk => OpT.callN (r14of_t (subv 1 v 24 16) (seg b 24 16) (seg_length (by omega)))) ?_) | (refine gD 13 ?_; refine RGl.rdX (fun e hk => by (try dsimp only [bndR, ensR, oksR, fcutR, List.append_nil, List.nil_append, List.cons_append, List.append_assoc] at hk ⊢); exact ReadR.binE rfl rfl BinR.gtr (congrArg Value.bool (decide_eq_false (by omega)))) ?_) | (refine gD 17 ?_; refine RGl.rdX (fun e hk => by (try dsimp only [bndR, ensR, oksR, fcutR, List.append_nil, List.nil_append, List.cons_append, List.append_assoc] at hk ⊢); exact ReadR.binE rfl rfl BinR.lss (congrArg Value.bool (decide_eq_false (by omega)))) ?_) | (refine gD 23 ?_; refine RGl.rdX (fun e hk => by (try dsimp only [bndR, ensR, oksR, fcutR, List.append_nil, List.nil_append, List.cons_append, List.append_assoc] at hk ⊢); exact ReadR.binE rfl rfl BinR.neq (congrArg Value.bool (show (!decide _) = false by rw [decide_eq_true (by omega)]; rfl))) ?_) | (refine gD 32 ?_; refine RGl.rdX (fun e hk => by (try dsimp only [bndR, ensR, oksR, fcutR, List.append_nil, List.nil_append, List.cons_append, List.append_assoc] at hk ⊢); exact ReadR.binE rfl rfl BinR.gtr (congrArg Value.bool (decide_eq_false (by omega)))) ?_) | (refine gD 37 ?_; refine RGl.rdX (fun e hk => by (try dsimp only [bndR, ensR, oksR, fcutR, List.append_nil, List.nil_append, List.cons_append, List.append_assoc] at hk ⊢); exact ReadR.binE rfl rfl BinR.lss (congrArg Value.bool (decide_eq_false (by omega)))) ?_) | (refine gD 42 ?_; refine RGl.rdX (fun e hk => by (try dsimp only [bndR, ensR, oksR, fcutR, List.append_nil, List.nil_append, List.cons_append, List.append_assoc] at hk ⊢); exact ReadR.binE rfl rfl BinR.eql (congrArg Value.bool (decide_eq_false (by omega)))) ?_) | (refine gOp ?_; first | refine RGl.rdA ?_ | refine RGl.rdX (fun e hk => by (try dsimp only [bndR, ensR, oksR, fcutR, List.append_nil, List.nil_append, List.cons_append, List.append_assoc] at hk ⊢); exact readB) ?_) | (refine gAl ?_; refine RGl.nwA ?_) | (refine gSt ?_; refine RGl.stA ?_) | (refine RGl.fin (fun e hk => ?_); (try dsimp only [bndA, ensAR, oksA, List.append_nil, List.nil_append, List.cons_append, List.append_assoc] at hk ⊢); (repeat (obtain ⟨hk1, hk⟩ := hk))) | fail)
     | (refine isCond ?_; first | refine WPc.cT ?_ | refine WPc.cF ?_)
     | (refine isD 2 ?_; first | (refine isAl ?_; refine WPl.nw fun gr => ?_) | (refine isBx ?_; refine WPl.nw fun gr => ?_))
     | (refine isD 4 ?_; first | (refine isAl ?_; refine WPl.nw fun gz => ?_) | (refine isBx ?_; refine WPl.nw fun gz => ?_))
     | (refine isD 6 ?_; first | (refine isAl ?_; refine WPl.nw fun gh => ?_) | (refine isBx ?_; refine WPl.nw fun gh => ?_))
     | (refine isC 26 ?_; refine WPl.cV (rget_t v b 4 2 (by omega) (by omega) (by omega)) ?_)
     | (refine isC 49 ?_; refine WPl.cV (r14of_t (subv 1 v 8 16) (seg b 8 16) (seg_length (by omega))) ?_)
     | (refine isC 52 ?_; refine WPl.cV (r14of_t (subv 1 v 24 16) (seg b 24 16) (seg_length (by omega))) ?_)
     | (refine isD 13 ?_; refine WPl.rdX (ReadR.binE rfl rfl BinR.gtr (congrArg Value.bool (decide_eq_false (by omega)))) ?_)
     | (refine isD 17 ?_; refine WPl.rdX (ReadR.binE rfl rfl BinR.lss (congrArg Value.bool (decide_eq_false (by omega)))) ?_)
     | (refine isD 23 ?_; refine WPl.rdX (ReadR.binE rfl rfl BinR.neq (congrArg Value.bool (show (!decide _) = false by rw [decide_eq_true (by omega)]; rfl))) ?_)
     | (refine isD 32 ?_; refine WPl.rdX (ReadR.binE rfl rfl BinR.gtr (congrArg Value.bool (decide_eq_false (by omega)))) ?_)
     | (refine isD 37 ?_; refine WPl.rdX (ReadR.binE rfl rfl BinR.lss (congrArg Value.bool (decide_eq_false (by omega)))) ?_)
     | (refine isD 42 ?_; refine WPl.rdX (ReadR.binE rfl rfl BinR.eql (congrArg Value.bool (decide_eq_false (by omega)))) ?_)
     | (refine isOp ?_; first | refine WPl.rd ?_ | refine WPl.sk ?_ | refine WPl.rdB ?_)
     | (refine isAl ?_; refine WPl.nw fun g => ?_)
     | (refine isSt ?_; first | refine WPl.st1 ?_ | refine WPl.stA ?_ | refine WPl.stEB ?_ | refine WPl.stRB ?_)
     | (show WPl _ _ _ _ _ _ _ (⟨_, .indexAddr _ _ _, _, _, _, _⟩ :: _) _; refine WPl.rdX (ReadR.indexE rfl rfl hasA (by first | assumption | omega)) ?_)
     | (show WPl _ _ _ _ _ _ _ (⟨_, .fieldAddr _ _ _, _, _, _, _⟩ :: _) _; refine WPl.rdX (ReadR.fieldE rfl hasA (by first | assumption | omega)) ?_)
     | (show WPl _ _ _ _ _ _ _ (⟨_, .load _ _, _, _, _, _⟩ :: _) _; first | refine WPl.rdX (ReadR.loadE rfl hasA (by assumption)) ?_ | refine WPl.rdX (ReadR.loadES (by assumption) (by first | assumption | omega) rfl hasA) ?_)
     | (show WPl _ _ _ _ _ _ _ (⟨_, .slice _ _ _ _ _, _, _, _, _⟩ :: _) _; first | refine WPl.rdX (ReadR.sliceH rfl rfl hasA (by omega)) ?_ | refine WPl.rdX (ReadR.sliceL rfl rfl hasA (by omega)) ?_ | refine WPl.rdX (ReadR.sliceLH rfl rfl rfl hasA (by omega) (by omega)) ?_)
     | fail)
    generalize blk (e _).1 = gh
    first | refine WPc.loop (σ := Nat × XS) (fun p => p.1 ≤ 8 ∧ p.2.pos ≤ b.length ∧ xall b 8 (xs0 b) = xall b (8 - p.1) p.2) (fun p => [bx gh 33 (hcx b p.2), bx gz 33 (hdc Hd.none), bx gr 33 (hdc Hd.none), rb v b]) (fun p => [(0, v), (2, .pointer (some ⟨gr, 0, none⟩)), (4, .pointer (some ⟨gz, 0, none⟩)), (6, .pointer (some ⟨gh, 0, none⟩)), (7, .int .i64 p.1)]) (fun p => 8 - p.1) ((0, xs0 b)) ?_ takesA frsA (fun st km hx hk => ?_)
    · exact ⟨Nat.zero_le _, h2, rfl⟩
    obtain ⟨i, s⟩ := st
    dsimp only at hx hk ⊢
    obtain ⟨hi, hs, hxa⟩ := hx
    clear hk1
    have hbt := rbtw_t s.proto
    cases hb : btw s.proto with
    | false =>
      rw [hb] at hbt
      rw [sVal_ok he (hxa.trans (xall_no hb))]
      repeat' (first
       | refine WPl.nil ?_ | refine WPq.then ?_ | refine WPq.thenR ?_ | refine WPq.thenE ?_ | refine WPq.blockN ?_ | refine WPq.blockR ?_ | refine WPq.blockE ?_ | refine WPq.blockO rfl ?_ | refine WPc.seq ?_ | refine WPc.block ?_ | refine WPc.ret ?_ | refine WPc.exit ?_ | refine WPc.skip ?_ | refine WPc.region ?_
       | (refine isReg 15 ?_; refine WPc.drA [([], [6, 47, 48, 49, 50, 51, 52, 53, 54, 55]), ([0], [6, 44, 47, 48, 49, 50, 51, 52, 53, 54, 55]), ([0, 1], [6, 44, 45, 47, 48, 49, 50, 51, 52, 53, 54, 55]), ([], [6, 44, 45, 46, 50, 51, 53, 54, 55]), ([3], [6, 44, 45, 46, 47, 50, 51, 53, 54, 55]), ([3, 4], [6, 44, 45, 46, 47, 48, 50, 51, 53, 54, 55]), ([], [6, 44, 45, 46, 47, 48, 49, 53, 54, 55]), ([6], [6, 44, 45, 46, 47, 48, 49, 50, 53, 54, 55]), ([3, 4, 5, 6, 7], [6, 44, 45, 46, 47, 48, 49, 50, 51, 53, 54, 55]), ([], [6, 44, 45, 46, 47, 48, 49, 50, 51, 52]), ([9], [6, 44, 45, 46, 47, 48, 49, 50, 51, 52, 53]), ([9, 10], [6, 44, 45, 46, 47, 48, 49, 50, 51, 52, 53, 54]), ([0, 1, 2, 3, 4, 5, 6, 7, 8, 9, 10, 11], [6, 44, 45, 46, 47, 48, 49, 50, 51, 52, 53, 54, 55]), ([], [44, 45, 46, 47, 48, 49, 50, 51, 52, 53, 54, 55, 56]), ([0, 1, 2, 3, 4, 5, 6, 7, 8, 9, 10, 11, 12, 13], [6, 44, 45, 46, 47, 48, 49, 50, 51, 52, 53, 54, 55, 56])] [(13, 14)] (Γx := []) ?_; dsimp only [prev0, List.length_nil, List.length_cons])
       | (refine isReg 30 ?_; refine WPc.drA [([], [97, 98, 99, 104, 105, 106, 107, 108, 109, 110]), ([], [96, 104, 105, 106, 107, 108, 109, 110]), ([1], [96, 97, 104, 105, 106, 107, 108, 109, 110]), ([1, 2], [96, 97, 98, 104, 105, 106, 107, 108, 109, 110]), ([0, 1, 2, 3], [96, 97, 98, 99, 104, 105, 106, 107, 108, 109, 110]), ([0, 1, 2, 3, 4], [96, 97, 98, 99, 100, 104, 105, 106, 107, 108, 109, 110]), ([0, 1, 2, 3, 4, 5], [96, 97, 98, 99, 100, 101, 104, 105, 106, 107, 108, 109, 110]), ([0, 1, 2, 3, 4, 5, 6], [96, 97, 98, 99, 100, 101, 102, 104, 105, 106, 107, 108, 109, 110]), ([], [96, 97, 98, 99, 100, 101, 102, 103, 105, 106, 107]), ([], [96, 97, 98, 99, 100, 101, 102, 103, 104]), ([9], [96, 97, 98, 99, 100, 101, 102, 103, 104, 105]), ([9, 10], [96, 97, 98, 99, 100, 101, 102, 103, 104, 105, 106]), ([8, 9, 10, 11], [96, 97, 98, 99, 100, 101, 102, 103, 104, 105, 106, 107]), ([8, 9, 10, 11, 12], [96, 97, 98, 99, 100, 101, 102, 103, 104, 105, 106, 107, 108]), ([8, 9, 10, 11, 12, 13], [96, 97, 98, 99, 100, 101, 102, 103, 104, 105, 106, 107, 108, 109]), ([0, 1, 2, 3, 4, 5, 6, 7, 8, 9, 10, 11, 12, 13, 14], [96, 97, 98, 99, 100, 101, 102, 103, 104, 105, 106, 107, 108, 109, 110]), ([0, 1, 2, 3, 4, 5, 6, 7, 8, 9, 10, 11, 12, 13, 14, 15], [96, 97, 98, 99, 100, 101, 102, 103, 104, 105, 106, 107, 108, 109, 110, 111])] [] (Γx := []) ?_; dsimp only [prev0, List.length_nil, List.length_cons])
       | (refine isReg 34 ?_; refine WPc.drA [([], [134, 135, 138, 139, 140, 141]), ([], [133, 138, 139, 140, 141]), ([1], [133, 134, 138, 139, 140, 141]), ([0, 1, 2], [133, 134, 135, 138, 139, 140, 141]), ([0, 1, 2, 3], [133, 134, 135, 136, 138, 139, 140, 141]), ([], [133, 134, 135, 136, 137, 140]), ([5], [133, 134, 135, 136, 137, 138, 140]), ([], [133, 134, 135, 136, 137, 138, 139, 142]), ([5, 6, 7], [133, 134, 135, 136, 137, 138, 139, 140, 142]), ([0, 1, 2, 3, 4, 5, 6], [133, 134, 135, 136, 137, 138, 139, 140, 141]), ([0, 1, 2, 3, 4, 5, 6, 9], [133, 134, 135, 136, 137, 138, 139, 140, 141, 142]), ([0, 1, 2, 3, 4, 5, 6, 7, 8, 9, 10], [133, 134, 135, 136, 137, 138, 139, 140, 141, 142]), ([0, 1, 2, 3, 4, 5, 6, 7, 8, 9, 10, 11], [133, 134, 135, 136, 137, 138, 139, 140, 141, 142, 143])] [] (Γx := []) ?_; dsimp only [prev0, List.length_nil, List.length_cons])
       | (refine gAny ?_; first | (refine gC 63 ?_; refine RGl.vl (fun e hk => OpT.callN (hbt)) ?_) | (refine gOp ?_; first | refine RGl.rdA ?_ | refine RGl.rdX (fun e hk => by (try dsimp only [bndR, ensR, oksR, fcutR, List.append_nil, List.nil_append, List.cons_append, List.append_assoc] at hk ⊢); exact readB) ?_) | (refine gAl ?_; refine RGl.nwA ?_) | (refine gSt ?_; refine RGl.stA ?_) | (refine RGl.fin (fun e hk => ?_); (try dsimp only [bndA, ensAR, oksA, List.append_nil, List.nil_append, List.cons_append, List.append_assoc] at hk ⊢); (repeat (obtain ⟨hk1, hk⟩ := hk))) | fail)
       | (refine isCond ?_; first | refine WPc.cT ?_ | refine WPc.cF ?_ | (refine WPc.cQ (fun hc => ?_) (fun hc => ?_) <;> try exact prA))
       | (refine isC 63 ?_; refine WPl.cV (hbt) ?_)
       | (refine isOp ?_; first | refine WPl.rd ?_ | refine WPl.sk ?_ | refine WPl.rdB ?_)
       | (refine isAl ?_; refine WPl.nw fun g => ?_)
       | (refine isSt ?_; first | refine WPl.st1 ?_ | refine WPl.stA ?_ | refine WPl.stEB ?_ | refine WPl.stRB ?_)
       | (show WPl _ _ _ _ _ _ _ (⟨_, .indexAddr _ _ _, _, _, _, _⟩ :: _) _; refine WPl.rdX (ReadR.indexE rfl rfl hasA (by first | assumption | omega)) ?_)
       | (show WPl _ _ _ _ _ _ _ (⟨_, .fieldAddr _ _ _, _, _, _, _⟩ :: _) _; refine WPl.rdX (ReadR.fieldE rfl hasA (by first | assumption | omega)) ?_)
       | (show WPl _ _ _ _ _ _ _ (⟨_, .load _ _, _, _, _, _⟩ :: _) _; first | refine WPl.rdX (ReadR.loadE rfl hasA (by assumption)) ?_ | refine WPl.rdX (ReadR.loadES (by assumption) (by first | assumption | omega) rfl hasA) ?_)
       | (show WPl _ _ _ _ _ _ _ (⟨_, .slice _ _ _ _ _, _, _, _, _⟩ :: _) _; first | refine WPl.rdX (ReadR.sliceH rfl rfl hasA (by omega)) ?_ | refine WPl.rdX (ReadR.sliceL rfl rfl hasA (by omega)) ?_ | refine WPl.rdX (ReadR.sliceLH rfl rfl rfl hasA (by omega) (by omega)) ?_)
       | (refine WPl.spQ (fun hc => ?_) (fun hc => ?_) <;> try exact prA)
       | fail)
      all_goals try (first | exact WPq.dTp | exact WPq.dTs | exact WPq.dV | exact WPq.dR | exact WPq.dR2 | exact WPq.dH | exact WPq.dBH | exact WPq.dT)
    | true =>
      rw [hb] at hbt
      by_cases h8 : i = 8
      · subst h8
        rw [sVal_no he (by omega) (hxa.trans (xall_end hb))]
        repeat' (first
         | refine WPl.nil ?_ | refine WPq.then ?_ | refine WPq.thenR ?_ | refine WPq.thenE ?_ | refine WPq.blockN ?_ | refine WPq.blockR ?_ | refine WPq.blockE ?_ | refine WPq.blockO rfl ?_ | refine WPc.seq ?_ | refine WPc.block ?_ | refine WPc.ret ?_ | refine WPc.exit ?_ | refine WPc.skip ?_ | refine WPc.region ?_
         | (refine isReg 15 ?_; refine WPc.drA [([], [6, 47, 48, 49, 50, 51, 52, 53, 54, 55]), ([0], [6, 44, 47, 48, 49, 50, 51, 52, 53, 54, 55]), ([0, 1], [6, 44, 45, 47, 48, 49, 50, 51, 52, 53, 54, 55]), ([], [6, 44, 45, 46, 50, 51, 53, 54, 55]), ([3], [6, 44, 45, 46, 47, 50, 51, 53, 54, 55]), ([3, 4], [6, 44, 45, 46, 47, 48, 50, 51, 53, 54, 55]), ([], [6, 44, 45, 46, 47, 48, 49, 53, 54, 55]), ([6], [6, 44, 45, 46, 47, 48, 49, 50, 53, 54, 55]), ([3, 4, 5, 6, 7], [6, 44, 45, 46, 47, 48, 49, 50, 51, 53, 54, 55]), ([], [6, 44, 45, 46, 47, 48, 49, 50, 51, 52]), ([9], [6, 44, 45, 46, 47, 48, 49, 50, 51, 52, 53]), ([9, 10], [6, 44, 45, 46, 47, 48, 49, 50, 51, 52, 53, 54]), ([0, 1, 2, 3, 4, 5, 6, 7, 8, 9, 10, 11], [6, 44, 45, 46, 47, 48, 49, 50, 51, 52, 53, 54, 55]), ([], [44, 45, 46, 47, 48, 49, 50, 51, 52, 53, 54, 55, 56]), ([0, 1, 2, 3, 4, 5, 6, 7, 8, 9, 10, 11, 12, 13], [6, 44, 45, 46, 47, 48, 49, 50, 51, 52, 53, 54, 55, 56])] [(13, 14)] (Γx := []) ?_; dsimp only [prev0, List.length_nil, List.length_cons])
         | (refine isReg 30 ?_; refine WPc.drA [([], [97, 98, 99, 104, 105, 106, 107, 108, 109, 110]), ([], [96, 104, 105, 106, 107, 108, 109, 110]), ([1], [96, 97, 104, 105, 106, 107, 108, 109, 110]), ([1, 2], [96, 97, 98, 104, 105, 106, 107, 108, 109, 110]), ([0, 1, 2, 3], [96, 97, 98, 99, 104, 105, 106, 107, 108, 109, 110]), ([0, 1, 2, 3, 4], [96, 97, 98, 99, 100, 104, 105, 106, 107, 108, 109, 110]), ([0, 1, 2, 3, 4, 5], [96, 97, 98, 99, 100, 101, 104, 105, 106, 107, 108, 109, 110]), ([0, 1, 2, 3, 4, 5, 6], [96, 97, 98, 99, 100, 101, 102, 104, 105, 106, 107, 108, 109, 110]), ([], [96, 97, 98, 99, 100, 101, 102, 103, 105, 106, 107]), ([], [96, 97, 98, 99, 100, 101, 102, 103, 104]), ([9], [96, 97, 98, 99, 100, 101, 102, 103, 104, 105]), ([9, 10], [96, 97, 98, 99, 100, 101, 102, 103, 104, 105, 106]), ([8, 9, 10, 11], [96, 97, 98, 99, 100, 101, 102, 103, 104, 105, 106, 107]), ([8, 9, 10, 11, 12], [96, 97, 98, 99, 100, 101, 102, 103, 104, 105, 106, 107, 108]), ([8, 9, 10, 11, 12, 13], [96, 97, 98, 99, 100, 101, 102, 103, 104, 105, 106, 107, 108, 109]), ([0, 1, 2, 3, 4, 5, 6, 7, 8, 9, 10, 11, 12, 13, 14], [96, 97, 98, 99, 100, 101, 102, 103, 104, 105, 106, 107, 108, 109, 110]), ([0, 1, 2, 3, 4, 5, 6, 7, 8, 9, 10, 11, 12, 13, 14, 15], [96, 97, 98, 99, 100, 101, 102, 103, 104, 105, 106, 107, 108, 109, 110, 111])] [] (Γx := []) ?_; dsimp only [prev0, List.length_nil, List.length_cons])
         | (refine isReg 34 ?_; refine WPc.drA [([], [134, 135, 138, 139, 140, 141]), ([], [133, 138, 139, 140, 141]), ([1], [133, 134, 138, 139, 140, 141]), ([0, 1, 2], [133, 134, 135, 138, 139, 140, 141]), ([0, 1, 2, 3], [133, 134, 135, 136, 138, 139, 140, 141]), ([], [133, 134, 135, 136, 137, 140]), ([5], [133, 134, 135, 136, 137, 138, 140]), ([], [133, 134, 135, 136, 137, 138, 139, 142]), ([5, 6, 7], [133, 134, 135, 136, 137, 138, 139, 140, 142]), ([0, 1, 2, 3, 4, 5, 6], [133, 134, 135, 136, 137, 138, 139, 140, 141]), ([0, 1, 2, 3, 4, 5, 6, 9], [133, 134, 135, 136, 137, 138, 139, 140, 141, 142]), ([0, 1, 2, 3, 4, 5, 6, 7, 8, 9, 10], [133, 134, 135, 136, 137, 138, 139, 140, 141, 142]), ([0, 1, 2, 3, 4, 5, 6, 7, 8, 9, 10, 11], [133, 134, 135, 136, 137, 138, 139, 140, 141, 142, 143])] [] (Γx := []) ?_; dsimp only [prev0, List.length_nil, List.length_cons])
         | (refine gAny ?_; first | (refine gC 63 ?_; refine RGl.vl (fun e hk => OpT.callN (hbt)) ?_) | (refine gOp ?_; first | refine RGl.rdA ?_ | refine RGl.rdX (fun e hk => by (try dsimp only [bndR, ensR, oksR, fcutR, List.append_nil, List.nil_append, List.cons_append, List.append_assoc] at hk ⊢); exact readB) ?_) | (refine gAl ?_; refine RGl.nwA ?_) | (refine gSt ?_; refine RGl.stA ?_) | (refine RGl.fin (fun e hk => ?_); (try dsimp only [bndA, ensAR, oksA, List.append_nil, List.nil_append, List.cons_append, List.append_assoc] at hk ⊢); (repeat (obtain ⟨hk1, hk⟩ := hk))) | fail)
         | (refine isCond ?_; first | refine WPc.cT ?_ | refine WPc.cF ?_ | (refine WPc.cQ (fun hc => ?_) (fun hc => ?_) <;> try exact prA))
         | (refine isC 63 ?_; refine WPl.cV (hbt) ?_)
         | (refine isOp ?_; first | refine WPl.rd ?_ | refine WPl.sk ?_ | refine WPl.rdB ?_)
         | (refine isAl ?_; refine WPl.nw fun g => ?_)
         | (refine isSt ?_; first | refine WPl.st1 ?_ | refine WPl.stA ?_ | refine WPl.stEB ?_ | refine WPl.stRB ?_)
         | (show WPl _ _ _ _ _ _ _ (⟨_, .indexAddr _ _ _, _, _, _, _⟩ :: _) _; refine WPl.rdX (ReadR.indexE rfl rfl hasA (by first | assumption | omega)) ?_)
         | (show WPl _ _ _ _ _ _ _ (⟨_, .fieldAddr _ _ _, _, _, _, _⟩ :: _) _; refine WPl.rdX (ReadR.fieldE rfl hasA (by first | assumption | omega)) ?_)
         | (show WPl _ _ _ _ _ _ _ (⟨_, .load _ _, _, _, _, _⟩ :: _) _; first | refine WPl.rdX (ReadR.loadE rfl hasA (by assumption)) ?_ | refine WPl.rdX (ReadR.loadES (by assumption) (by first | assumption | omega) rfl hasA) ?_)
         | (show WPl _ _ _ _ _ _ _ (⟨_, .slice _ _ _ _ _, _, _, _, _⟩ :: _) _; first | refine WPl.rdX (ReadR.sliceH rfl rfl hasA (by omega)) ?_ | refine WPl.rdX (ReadR.sliceL rfl rfl hasA (by omega)) ?_ | refine WPl.rdX (ReadR.sliceLH rfl rfl rfl hasA (by omega) (by omega)) ?_)
         | (refine WPl.spQ (fun hc => ?_) (fun hc => ?_) <;> try exact prA)
         | fail)
        all_goals try (first | exact WPq.dTp | exact WPq.dTs | exact WPq.dV | exact WPq.dR | exact WPq.dR2 | exact WPq.dH | exact WPq.dBH | exact WPq.dT)
      · obtain ⟨m, hm⟩ : ∃ m, 8 - i = m + 1 := ⟨7 - i, by omega⟩
        by_cases h0 : s.proto.toNat = 0 ∧ m + 1 < 8
        · rw [hm] at hxa
          rw [sVal_no he (by omega) (hxa.trans (xall_form hb h0.1 h0.2))]
          obtain ⟨h00, h01⟩ := h0
          repeat' (first
           | refine WPl.nil ?_ | refine WPq.then ?_ | refine WPq.thenR ?_ | refine WPq.thenE ?_ | refine WPq.blockN ?_ | refine WPq.blockR ?_ | refine WPq.blockE ?_ | refine WPq.blockO rfl ?_ | refine WPc.seq ?_ | refine WPc.block ?_ | refine WPc.ret ?_ | refine WPc.exit ?_ | refine WPc.skip ?_ | refine WPc.region ?_
           | (refine isReg 15 ?_; refine WPc.drA [([], [6, 47, 48, 49, 50, 51, 52, 53, 54, 55]), ([0], [6, 44, 47, 48, 49, 50, 51, 52, 53, 54, 55]), ([0, 1], [6, 44, 45, 47, 48, 49, 50, 51, 52, 53, 54, 55]), ([], [6, 44, 45, 46, 50, 51, 53, 54, 55]), ([3], [6, 44, 45, 46, 47, 50, 51, 53, 54, 55]), ([3, 4], [6, 44, 45, 46, 47, 48, 50, 51, 53, 54, 55]), ([], [6, 44, 45, 46, 47, 48, 49, 53, 54, 55]), ([6], [6, 44, 45, 46, 47, 48, 49, 50, 53, 54, 55]), ([3, 4, 5, 6, 7], [6, 44, 45, 46, 47, 48, 49, 50, 51, 53, 54, 55]), ([], [6, 44, 45, 46, 47, 48, 49, 50, 51, 52]), ([9], [6, 44, 45, 46, 47, 48, 49, 50, 51, 52, 53]), ([9, 10], [6, 44, 45, 46, 47, 48, 49, 50, 51, 52, 53, 54]), ([0, 1, 2, 3, 4, 5, 6, 7, 8, 9, 10, 11], [6, 44, 45, 46, 47, 48, 49, 50, 51, 52, 53, 54, 55]), ([], [44, 45, 46, 47, 48, 49, 50, 51, 52, 53, 54, 55, 56]), ([0, 1, 2, 3, 4, 5, 6, 7, 8, 9, 10, 11, 12, 13], [6, 44, 45, 46, 47, 48, 49, 50, 51, 52, 53, 54, 55, 56])] [(13, 14)] (Γx := []) ?_; dsimp only [prev0, List.length_nil, List.length_cons])
           | (refine isReg 30 ?_; refine WPc.drA [([], [97, 98, 99, 104, 105, 106, 107, 108, 109, 110]), ([], [96, 104, 105, 106, 107, 108, 109, 110]), ([1], [96, 97, 104, 105, 106, 107, 108, 109, 110]), ([1, 2], [96, 97, 98, 104, 105, 106, 107, 108, 109, 110]), ([0, 1, 2, 3], [96, 97, 98, 99, 104, 105, 106, 107, 108, 109, 110]), ([0, 1, 2, 3, 4], [96, 97, 98, 99, 100, 104, 105, 106, 107, 108, 109, 110]), ([0, 1, 2, 3, 4, 5], [96, 97, 98, 99, 100, 101, 104, 105, 106, 107, 108, 109, 110]), ([0, 1, 2, 3, 4, 5, 6], [96, 97, 98, 99, 100, 101, 102, 104, 105, 106, 107, 108, 109, 110]), ([], [96, 97, 98, 99, 100, 101, 102, 103, 105, 106, 107]), ([], [96, 97, 98, 99, 100, 101, 102, 103, 104]), ([9], [96, 97, 98, 99, 100, 101, 102, 103, 104, 105]), ([9, 10], [96, 97, 98, 99, 100, 101, 102, 103, 104, 105, 106]), ([8, 9, 10, 11], [96, 97, 98, 99, 100, 101, 102, 103, 104, 105, 106, 107]), ([8, 9, 10, 11, 12], [96, 97, 98, 99, 100, 101, 102, 103, 104, 105, 106, 107, 108]), ([8, 9, 10, 11, 12, 13], [96, 97, 98, 99, 100, 101, 102, 103, 104, 105, 106, 107, 108, 109]), ([0, 1, 2, 3, 4, 5, 6, 7, 8, 9, 10, 11, 12, 13, 14], [96, 97, 98, 99, 100, 101, 102, 103, 104, 105, 106, 107, 108, 109, 110]), ([0, 1, 2, 3, 4, 5, 6, 7, 8, 9, 10, 11, 12, 13, 14, 15], [96, 97, 98, 99, 100, 101, 102, 103, 104, 105, 106, 107, 108, 109, 110, 111])] [] (Γx := []) ?_; dsimp only [prev0, List.length_nil, List.length_cons])
           | (refine isReg 34 ?_; refine WPc.drA [([], [134, 135, 138, 139, 140, 141]), ([], [133, 138, 139, 140, 141]), ([1], [133, 134, 138, 139, 140, 141]), ([0, 1, 2], [133, 134, 135, 138, 139, 140, 141]), ([0, 1, 2, 3], [133, 134, 135, 136, 138, 139, 140, 141]), ([], [133, 134, 135, 136, 137, 140]), ([5], [133, 134, 135, 136, 137, 138, 140]), ([], [133, 134, 135, 136, 137, 138, 139, 142]), ([5, 6, 7], [133, 134, 135, 136, 137, 138, 139, 140, 142]), ([0, 1, 2, 3, 4, 5, 6], [133, 134, 135, 136, 137, 138, 139, 140, 141]), ([0, 1, 2, 3, 4, 5, 6, 9], [133, 134, 135, 136, 137, 138, 139, 140, 141, 142]), ([0, 1, 2, 3, 4, 5, 6, 7, 8, 9, 10], [133, 134, 135, 136, 137, 138, 139, 140, 141, 142]), ([0, 1, 2, 3, 4, 5, 6, 7, 8, 9, 10, 11], [133, 134, 135, 136, 137, 138, 139, 140, 141, 142, 143])] [] (Γx := []) ?_; dsimp only [prev0, List.length_nil, List.length_cons])
           | (refine gAny ?_; first | (refine gC 63 ?_; refine RGl.vl (fun e hk => OpT.callN (hbt)) ?_) | (refine gOp ?_; first | refine RGl.rdA ?_ | refine RGl.rdX (fun e hk => by (try dsimp only [bndR, ensR, oksR, fcutR, List.append_nil, List.nil_append, List.cons_append, List.append_assoc] at hk ⊢); exact readB) ?_) | (refine gAl ?_; refine RGl.nwA ?_) | (refine gSt ?_; refine RGl.stA ?_) | (refine RGl.fin (fun e hk => ?_); (try dsimp only [bndA, ensAR, oksA, List.append_nil, List.nil_append, List.cons_append, List.append_assoc] at hk ⊢); (repeat (obtain ⟨hk1, hk⟩ := hk))) | fail)
           | (refine isCond ?_; first | refine WPc.cT ?_ | refine WPc.cF ?_ | (refine WPc.cQ (fun hc => ?_) (fun hc => ?_) <;> try exact prA))
           | (refine isC 63 ?_; refine WPl.cV (hbt) ?_)
           | (refine isOp ?_; first | refine WPl.rd ?_ | refine WPl.sk ?_ | refine WPl.rdB ?_)
           | (refine isAl ?_; refine WPl.nw fun g => ?_)
           | (refine isSt ?_; first | refine WPl.st1 ?_ | refine WPl.stA ?_ | refine WPl.stEB ?_ | refine WPl.stRB ?_)
           | (show WPl _ _ _ _ _ _ _ (⟨_, .indexAddr _ _ _, _, _, _, _⟩ :: _) _; refine WPl.rdX (ReadR.indexE rfl rfl hasA (by first | assumption | omega)) ?_)
           | (show WPl _ _ _ _ _ _ _ (⟨_, .fieldAddr _ _ _, _, _, _, _⟩ :: _) _; refine WPl.rdX (ReadR.fieldE rfl hasA (by first | assumption | omega)) ?_)
           | (show WPl _ _ _ _ _ _ _ (⟨_, .load _ _, _, _, _, _⟩ :: _) _; first | refine WPl.rdX (ReadR.loadE rfl hasA (by assumption)) ?_ | refine WPl.rdX (ReadR.loadES (by assumption) (by first | assumption | omega) rfl hasA) ?_)
           | (show WPl _ _ _ _ _ _ _ (⟨_, .slice _ _ _ _ _, _, _, _, _⟩ :: _) _; first | refine WPl.rdX (ReadR.sliceH rfl rfl hasA (by omega)) ?_ | refine WPl.rdX (ReadR.sliceL rfl rfl hasA (by omega)) ?_ | refine WPl.rdX (ReadR.sliceLH rfl rfl rfl hasA (by omega) (by omega)) ?_)
           | (refine WPl.spQ (fun hc => ?_) (fun hc => ?_) <;> try exact prA)
           | fail)
          all_goals try (first | exact WPq.dTp | exact WPq.dTs | exact WPq.dV | exact WPq.dR | exact WPq.dR2 | exact WPq.dH | exact WPq.dBH | exact WPq.dT)
        · have h0' : ¬ s.proto.toNat = 0 ∨ i = 0 := by omega
          have hsl : b.length - s.pos < 8 ∨ (s.pos + 8 ≤ b.length ∧ s.pos ≤ 2040) := by omega
          have hbb := xbad_b b s
          have hc1 := byteN_lt b (s.pos + 1)
          have hc2 := byteN_lt b (s.pos + 2)
          have hc3 := byteN_lt b (s.pos + 3)
          have hsz : (8 : Int) + 8 * (((b.getD (s.pos + 1) 0).toNat : Nat) : Int) = ((8 + 8 * byteN b (s.pos + 1) : Nat) : Int) := by unfold byteN; omega
          have hK : (((b.getD (s.pos + 2) 0).toNat : Nat) : Int) * 256 + (((b.getD (s.pos + 3) 0).toNat : Nat) : Int) = ((xK b s.pos : Nat) : Int) := by unfold xK byteN; omega
          have hKl : xK b s.pos < 65536 := by unfold xK; omega
          cases hbad : xbad b s with
          | true =>
            rw [hm] at hxa
            rw [sVal_no he (by omega) (hxa.trans (xall_bad hb h0 hbad))]
            rw [hbad] at hbb
            rcases hsl with hsl | ⟨hsl, hsl2⟩
            · skip
              repeat' (first
               | refine WPl.nil ?_ | refine WPq.then ?_ | refine WPq.thenR ?_ | refine WPq.thenE ?_ | refine WPq.blockN ?_ | refine WPq.blockR ?_ | refine WPq.blockE ?_ | refine WPq.blockO rfl ?_ | refine WPc.seq ?_ | refine WPc.block ?_ | refine WPc.ret ?_ | refine WPc.exit ?_ | refine WPc.skip ?_ | refine WPc.region ?_
               | (refine isReg 15 ?_; refine WPc.drA [([], [6, 47, 48, 49, 50, 51, 52, 53, 54, 55]), ([0], [6, 44, 47, 48, 49, 50, 51, 52, 53, 54, 55]), ([0, 1], [6, 44, 45, 47, 48, 49, 50, 51, 52, 53, 54, 55]), ([], [6, 44, 45, 46, 50, 51, 53, 54, 55]), ([3], [6, 44, 45, 46, 47, 50, 51, 53, 54, 55]), ([3, 4], [6, 44, 45, 46, 47, 48, 50, 51, 53, 54, 55]), ([], [6, 44, 45, 46, 47, 48, 49, 53, 54, 55]), ([6], [6, 44, 45, 46, 47, 48, 49, 50, 53, 54, 55]), ([3, 4, 5, 6, 7], [6, 44, 45, 46, 47, 48, 49, 50, 51, 53, 54, 55]), ([], [6, 44, 45, 46, 47, 48, 49, 50, 51, 52]), ([9], [6, 44, 45, 46, 47, 48, 49, 50, 51, 52, 53]), ([9, 10], [6, 44, 45, 46, 47, 48, 49, 50, 51, 52, 53, 54]), ([0, 1, 2, 3, 4, 5, 6, 7, 8, 9, 10, 11], [6, 44, 45, 46, 47, 48, 49, 50, 51, 52, 53, 54, 55]), ([], [44, 45, 46, 47, 48, 49, 50, 51, 52, 53, 54, 55, 56]), ([0, 1, 2, 3, 4, 5, 6, 7, 8, 9, 10, 11, 12, 13], [6, 44, 45, 46, 47, 48, 49, 50, 51, 52, 53, 54, 55, 56])] [(13, 14)] (Γx := []) ?_; dsimp only [prev0, List.length_nil, List.length_cons])
               | (refine isReg 30 ?_; refine WPc.drA [([], [97, 98, 99, 104, 105, 106, 107, 108, 109, 110]), ([], [96, 104, 105, 106, 107, 108, 109, 110]), ([1], [96, 97, 104, 105, 106, 107, 108, 109, 110]), ([1, 2], [96, 97, 98, 104, 105, 106, 107, 108, 109, 110]), ([0, 1, 2, 3], [96, 97, 98, 99, 104, 105, 106, 107, 108, 109, 110]), ([0, 1, 2, 3, 4], [96, 97, 98, 99, 100, 104, 105, 106, 107, 108, 109, 110]), ([0, 1, 2, 3, 4, 5], [96, 97, 98, 99, 100, 101, 104, 105, 106, 107, 108, 109, 110]), ([0, 1, 2, 3, 4, 5, 6], [96, 97, 98, 99, 100, 101, 102, 104, 105, 106, 107, 108, 109, 110]), ([], [96, 97, 98, 99, 100, 101, 102, 103, 105, 106, 107]), ([], [96, 97, 98, 99, 100, 101, 102, 103, 104]), ([9], [96, 97, 98, 99, 100, 101, 102, 103, 104, 105]), ([9, 10], [96, 97, 98, 99, 100, 101, 102, 103, 104, 105, 106]), ([8, 9, 10, 11], [96, 97, 98, 99, 100, 101, 102, 103, 104, 105, 106, 107]), ([8, 9, 10, 11, 12], [96, 97, 98, 99, 100, 101, 102, 103, 104, 105, 106, 107, 108]), ([8, 9, 10, 11, 12, 13], [96, 97, 98, 99, 100, 101, 102, 103, 104, 105, 106, 107, 108, 109]), ([0, 1, 2, 3, 4, 5, 6, 7, 8, 9, 10, 11, 12, 13, 14], [96, 97, 98, 99, 100, 101, 102, 103, 104, 105, 106, 107, 108, 109, 110]), ([0, 1, 2, 3, 4, 5, 6, 7, 8, 9, 10, 11, 12, 13, 14, 15], [96, 97, 98, 99, 100, 101, 102, 103, 104, 105, 106, 107, 108, 109, 110, 111])] [] (Γx := []) ?_; dsimp only [prev0, List.length_nil, List.length_cons])
               | (refine isReg 34 ?_; refine WPc.drA [([], [134, 135, 138, 139, 140, 141]), ([], [133, 138, 139, 140, 141]), ([1], [133, 134, 138, 139, 140, 141]), ([0, 1, 2], [133, 134, 135, 138, 139, 140, 141]), ([0, 1, 2, 3], [133, 134, 135, 136, 138, 139, 140, 141]), ([], [133, 134, 135, 136, 137, 140]), ([5], [133, 134, 135, 136, 137, 138, 140]), ([], [133, 134, 135, 136, 137, 138, 139, 142]), ([5, 6, 7], [133, 134, 135, 136, 137, 138, 139, 140, 142]), ([0, 1, 2, 3, 4, 5, 6], [133, 134, 135, 136, 137, 138, 139, 140, 141]), ([0, 1, 2, 3, 4, 5, 6, 9], [133, 134, 135, 136, 137, 138, 139, 140, 141, 142]), ([0, 1, 2, 3, 4, 5, 6, 7, 8, 9, 10], [133, 134, 135, 136, 137, 138, 139, 140, 141, 142]), ([0, 1, 2, 3, 4, 5, 6, 7, 8, 9, 10, 11], [133, 134, 135, 136, 137, 138, 139, 140, 141, 142, 143])] [] (Γx := []) ?_; dsimp only [prev0, List.length_nil, List.length_cons])
               | (refine gAny ?_; first | (refine gC 63 ?_; refine RGl.vl (fun e hk => OpT.callN (hbt)) ?_) | (refine gOp ?_; first | refine RGl.rdA ?_ | refine RGl.rdX (fun e hk => by (try dsimp only [bndR, ensR, oksR, fcutR, List.append_nil, List.nil_append, List.cons_append, List.append_assoc] at hk ⊢); exact readB) ?_) | (refine gAl ?_; refine RGl.nwA ?_) | (refine gSt ?_; refine RGl.stA ?_) | (refine RGl.fin (fun e hk => ?_); (try dsimp only [bndA, ensAR, oksA, List.append_nil, List.nil_append, List.cons_append, List.append_assoc] at hk ⊢); (repeat (obtain ⟨hk1, hk⟩ := hk))) | fail)
               | (refine isCond ?_; first | refine WPc.cT ?_ | refine WPc.cF ?_ | (refine WPc.cQ (fun hc => ?_) (fun hc => ?_) <;> try exact prA))
               | (refine isC 63 ?_; refine WPl.cV (hbt) ?_)
               | (refine isOp ?_; first | refine WPl.rd ?_ | refine WPl.sk ?_ | refine WPl.rdB ?_)
               | (refine isAl ?_; refine WPl.nw fun g => ?_)
               | (refine isSt ?_; first | refine WPl.st1 ?_ | refine WPl.stA ?_ | refine WPl.stEB ?_ | refine WPl.stRB ?_)
               | (show WPl _ _ _ _ _ _ _ (⟨_, .indexAddr _ _ _, _, _, _, _⟩ :: _) _; refine WPl.rdX (ReadR.indexE rfl rfl hasA (by first | assumption | omega)) ?_)
               | (show WPl _ _ _ _ _ _ _ (⟨_, .fieldAddr _ _ _, _, _, _, _⟩ :: _) _; refine WPl.rdX (ReadR.fieldE rfl hasA (by first | assumption | omega)) ?_)
               | (show WPl _ _ _ _ _ _ _ (⟨_, .load _ _, _, _, _, _⟩ :: _) _; first | refine WPl.rdX (ReadR.loadE rfl hasA (by assumption)) ?_ | refine WPl.rdX (ReadR.loadES (by assumption) (by first | assumption | omega) rfl hasA) ?_)
               | (show WPl _ _ _ _ _ _ _ (⟨_, .slice _ _ _ _ _, _, _, _, _⟩ :: _) _; first | refine WPl.rdX (ReadR.sliceH rfl rfl hasA (by omega)) ?_ | refine WPl.rdX (ReadR.sliceL rfl rfl hasA (by omega)) ?_ | refine WPl.rdX (ReadR.sliceLH rfl rfl rfl hasA (by omega) (by omega)) ?_)
               | (refine WPl.spQ (fun hc => ?_) (fun hc => ?_) <;> try exact prA)
               | fail)
              all_goals try (first | exact WPq.dTp | exact WPq.dTs | exact WPq.dV | exact WPq.dR | exact WPq.dR2 | exact WPq.dH | exact WPq.dBH | exact WPq.dT)
            · have hxs : b.length - s.pos < xsize b s := by
                have := hbb.symm
                simp only [Bool.or_eq_true, decide_eq_true_eq] at this
                omega
              rw [xsize_b] at hxs
              have h44 : ¬ s.proto.toNat = 44 := by intro h; rw [if_pos h] at hxs; omega
              rw [if_neg h44] at hxs
              repeat' (first
               | refine WPl.nil ?_ | refine WPq.then ?_ | refine WPq.thenR ?_ | refine WPq.thenE ?_ | refine WPq.blockN ?_ | refine WPq.blockR ?_ | refine WPq.blockE ?_ | refine WPq.blockO rfl ?_ | refine WPc.seq ?_ | refine WPc.block ?_ | refine WPc.ret ?_ | refine WPc.exit ?_ | refine WPc.skip ?_ | refine WPc.region ?_
               | (refine isReg 15 ?_; refine WPc.drA [([], [6, 47, 48, 49, 50, 51, 52, 53, 54, 55]), ([0], [6, 44, 47, 48, 49, 50, 51, 52, 53, 54, 55]), ([0, 1], [6, 44, 45, 47, 48, 49, 50, 51, 52, 53, 54, 55]), ([], [6, 44, 45, 46, 50, 51, 53, 54, 55]), ([3], [6, 44, 45, 46, 47, 50, 51, 53, 54, 55]), ([3, 4], [6, 44, 45, 46, 47, 48, 50, 51, 53, 54, 55]), ([], [6, 44, 45, 46, 47, 48, 49, 53, 54, 55]), ([6], [6, 44, 45, 46, 47, 48, 49, 50, 53, 54, 55]), ([3, 4, 5, 6, 7], [6, 44, 45, 46, 47, 48, 49, 50, 51, 53, 54, 55]), ([], [6, 44, 45, 46, 47, 48, 49, 50, 51, 52]), ([9], [6, 44, 45, 46, 47, 48, 49, 50, 51, 52, 53]), ([9, 10], [6, 44, 45, 46, 47, 48, 49, 50, 51, 52, 53, 54]), ([0, 1, 2, 3, 4, 5, 6, 7, 8, 9, 10, 11], [6, 44, 45, 46, 47, 48, 49, 50, 51, 52, 53, 54, 55]), ([], [44, 45, 46, 47, 48, 49, 50, 51, 52, 53, 54, 55, 56]), ([0, 1, 2, 3, 4, 5, 6, 7, 8, 9, 10, 11, 12, 13], [6, 44, 45, 46, 47, 48, 49, 50, 51, 52, 53, 54, 55, 56])] [(13, 14)] (Γx := []) ?_; dsimp only [prev0, List.length_nil, List.length_cons])
               | (refine isReg 30 ?_; refine WPc.drA [([], [97, 98, 99, 104, 105, 106, 107, 108, 109, 110]), ([], [96, 104, 105, 106, 107, 108, 109, 110]), ([1], [96, 97, 104, 105, 106, 107, 108, 109, 110]), ([1, 2], [96, 97, 98, 104, 105, 106, 107, 108, 109, 110]), ([0, 1, 2, 3], [96, 97, 98, 99, 104, 105, 106, 107, 108, 109, 110]), ([0, 1, 2, 3, 4], [96, 97, 98, 99, 100, 104, 105, 106, 107, 108, 109, 110]), ([0, 1, 2, 3, 4, 5], [96, 97, 98, 99, 100, 101, 104, 105, 106, 107, 108, 109, 110]), ([0, 1, 2, 3, 4, 5, 6], [96, 97, 98, 99, 100, 101, 102, 104, 105, 106, 107, 108, 109, 110]), ([], [96, 97, 98, 99, 100, 101, 102, 103, 105, 106, 107]), ([], [96, 97, 98, 99, 100, 101, 102, 103, 104]), ([9], [96, 97, 98, 99, 100, 101, 102, 103, 104, 105]), ([9, 10], [96, 97, 98, 99, 100, 101, 102, 103, 104, 105, 106]), ([8, 9, 10, 11], [96, 97, 98, 99, 100, 101, 102, 103, 104, 105, 106, 107]), ([8, 9, 10, 11, 12], [96, 97, 98, 99, 100, 101, 102, 103, 104, 105, 106, 107, 108]), ([8, 9, 10, 11, 12, 13], [96, 97, 98, 99, 100, 101, 102, 103, 104, 105, 106, 107, 108, 109]), ([0, 1, 2, 3, 4, 5, 6, 7, 8, 9, 10, 11, 12, 13, 14], [96, 97, 98, 99, 100, 101, 102, 103, 104, 105, 106, 107, 108, 109, 110]), ([0, 1, 2, 3, 4, 5, 6, 7, 8, 9, 10, 11, 12, 13, 14, 15], [96, 97, 98, 99, 100, 101, 102, 103, 104, 105, 106, 107, 108, 109, 110, 111])] [] (Γx := []) ?_; dsimp only [prev0, List.length_nil, List.length_cons])
               | (refine isReg 34 ?_; refine WPc.drA [([], [134, 135, 138, 139, 140, 141]), ([], [133, 138, 139, 140, 141]), ([1], [133, 134, 138, 139, 140, 141]), ([0, 1, 2], [133, 134, 135, 138, 139, 140, 141]), ([0, 1, 2, 3], [133, 134, 135, 136, 138, 139, 140, 141]), ([], [133, 134, 135, 136, 137, 140]), ([5], [133, 134, 135, 136, 137, 138, 140]), ([], [133, 134, 135, 136, 137, 138, 139, 142]), ([5, 6, 7], [133, 134, 135, 136, 137, 138, 139, 140, 142]), ([0, 1, 2, 3, 4, 5, 6], [133, 134, 135, 136, 137, 138, 139, 140, 141]), ([0, 1, 2, 3, 4, 5, 6, 9], [133, 134, 135, 136, 137, 138, 139, 140, 141, 142]), ([0, 1, 2, 3, 4, 5, 6, 7, 8, 9, 10], [133, 134, 135, 136, 137, 138, 139, 140, 141, 142]), ([0, 1, 2, 3, 4, 5, 6, 7, 8, 9, 10, 11], [133, 134, 135, 136, 137, 138, 139, 140, 141, 142, 143])] [] (Γx := []) ?_; dsimp only [prev0, List.length_nil, List.length_cons])
               | (refine gAny ?_; first | (refine gC 63 ?_; refine RGl.vl (fun e hk => OpT.callN (hbt)) ?_) | (refine gD 92 ?_; refine RGl.rdX (fun e hk => by (try dsimp only [bndR, ensR, oksR, fcutR, List.append_nil, List.nil_append, List.cons_append, List.append_assoc] at hk ⊢); exact ReadR.bin rfl rfl (BinR.addT hsz (by simp only [kmin]; omega) (by simp only [kmax]; omega))) ?_) | (refine gOp ?_; first | refine RGl.rdA ?_ | refine RGl.rdX (fun e hk => by (try dsimp only [bndR, ensR, oksR, fcutR, List.append_nil, List.nil_append, List.cons_append, List.append_assoc] at hk ⊢); exact readB) ?_) | (refine gAl ?_; refine RGl.nwA ?_) | (refine gSt ?_; refine RGl.stA ?_) | (refine RGl.fin (fun e hk => ?_); (try dsimp only [bndA, ensAR, oksA, List.append_nil, List.nil_append, List.cons_append, List.append_assoc] at hk ⊢); (repeat (obtain ⟨hk1, hk⟩ := hk))) | fail)
               | (refine isCond ?_; first | refine WPc.cT ?_ | refine WPc.cF ?_ | (refine WPc.cQ (fun hc => ?_) (fun hc => ?_) <;> try exact prA))
               | (refine isC 63 ?_; refine WPl.cV (hbt) ?_)
               | (refine isD 92 ?_; refine WPl.rdX (ReadR.bin rfl rfl (BinR.addT hsz (by simp only [kmin]; omega) (by simp only [kmax]; omega))) ?_)
               | (refine isOp ?_; first | refine WPl.rd ?_ | refine WPl.sk ?_ | refine WPl.rdB ?_)
               | (refine isAl ?_; refine WPl.nw fun g => ?_)
               | (refine isSt ?_; first | refine WPl.st1 ?_ | refine WPl.stA ?_ | refine WPl.stEB ?_ | refine WPl.stRB ?_)
               | (show WPl _ _ _ _ _ _ _ (⟨_, .indexAddr _ _ _, _, _, _, _⟩ :: _) _; refine WPl.rdX (ReadR.indexE rfl rfl hasA (by first | assumption | omega)) ?_)
               | (show WPl _ _ _ _ _ _ _ (⟨_, .fieldAddr _ _ _, _, _, _, _⟩ :: _) _; refine WPl.rdX (ReadR.fieldE rfl hasA (by first | assumption | omega)) ?_)
               | (show WPl _ _ _ _ _ _ _ (⟨_, .load _ _, _, _, _, _⟩ :: _) _; first | refine WPl.rdX (ReadR.loadE rfl hasA (by assumption)) ?_ | refine WPl.rdX (ReadR.loadES (by assumption) (by first | assumption | omega) rfl hasA) ?_)
               | (show WPl _ _ _ _ _ _ _ (⟨_, .slice _ _ _ _ _, _, _, _, _⟩ :: _) _; first | refine WPl.rdX (ReadR.sliceH rfl rfl hasA (by omega)) ?_ | refine WPl.rdX (ReadR.sliceL rfl rfl hasA (by omega)) ?_ | refine WPl.rdX (ReadR.sliceLH rfl rfl rfl hasA (by omega) (by omega)) ?_)
               | (refine WPl.spQ (fun hc => ?_) (fun hc => ?_) <;> try exact prA)
               | fail)
              all_goals try (first | exact WPq.dTp | exact WPq.dTs | exact WPq.dV | exact WPq.dR | exact WPq.dR2 | exact WPq.dH | exact WPq.dBH | exact WPq.dT)
          | false =>
            rw [hbad] at hbb
            have hbb := hbb.symm
            simp only [Bool.or_eq_false_iff, decide_eq_false_iff_not] at hbb
            obtain ⟨hb8, hbs⟩ := hbb
            have hnx := xnext_b b s
            rw [xsize_b] at hbs hnx
            have hsl2 : s.pos + 8 ≤ b.length := by omega
            have hposn : ((s.pos : Int)).toNat = s.pos := by omega
            by_cases h44 : s.proto.toNat = 44
            · rw [if_pos h44] at hbs hnx
              rw [xpart_b b s (by omega) h44] at hnx
              cases hp : s.part with
              | true =>
                rw [hp, Bool.true_or] at hnx
                repeat' (first
                 | refine WPl.nil ?_ | refine WPq.then ?_ | refine WPq.thenR ?_ | refine WPq.thenE ?_ | refine WPq.blockN ?_ | refine WPq.blockR ?_ | refine WPq.blockE ?_ | refine WPq.blockO rfl ?_ | refine WPc.seq ?_ | refine WPc.block ?_ | refine WPc.ret ?_ | refine WPc.exit ?_ | refine WPc.skip ?_ | refine WPc.region ?_
                 | (refine isReg 15 ?_; refine WPc.drA [([], [6, 47, 48, 49, 50, 51, 52, 53, 54, 55]), ([0], [6, 44, 47, 48, 49, 50, 51, 52, 53, 54, 55]), ([0, 1], [6, 44, 45, 47, 48, 49, 50, 51, 52, 53, 54, 55]), ([], [6, 44, 45, 46, 50, 51, 53, 54, 55]), ([3], [6, 44, 45, 46, 47, 50, 51, 53, 54, 55]), ([3, 4], [6, 44, 45, 46, 47, 48, 50, 51, 53, 54, 55]), ([], [6, 44, 45, 46, 47, 48, 49, 53, 54, 55]), ([6], [6, 44, 45, 46, 47, 48, 49, 50, 53, 54, 55]), ([3, 4, 5, 6, 7], [6, 44, 45, 46, 47, 48, 49, 50, 51, 53, 54, 55]), ([], [6, 44, 45, 46, 47, 48, 49, 50, 51, 52]), ([9], [6, 44, 45, 46, 47, 48, 49, 50, 51, 52, 53]), ([9, 10], [6, 44, 45, 46, 47, 48, 49, 50, 51, 52, 53, 54]), ([0, 1, 2, 3, 4, 5, 6, 7, 8, 9, 10, 11], [6, 44, 45, 46, 47, 48, 49, 50, 51, 52, 53, 54, 55]), ([], [44, 45, 46, 47, 48, 49, 50, 51, 52, 53, 54, 55, 56]), ([0, 1, 2, 3, 4, 5, 6, 7, 8, 9, 10, 11, 12, 13], [6, 44, 45, 46, 47, 48, 49, 50, 51, 52, 53, 54, 55, 56])] [(13, 14)] (Γx := []) ?_; dsimp only [prev0, List.length_nil, List.length_cons])
                 | (refine isReg 30 ?_; refine WPc.drA [([], [97, 98, 99, 104, 105, 106, 107, 108, 109, 110]), ([], [96, 104, 105, 106, 107, 108, 109, 110]), ([1], [96, 97, 104, 105, 106, 107, 108, 109, 110]), ([1, 2], [96, 97, 98, 104, 105, 106, 107, 108, 109, 110]), ([0, 1, 2, 3], [96, 97, 98, 99, 104, 105, 106, 107, 108, 109, 110]), ([0, 1, 2, 3, 4], [96, 97, 98, 99, 100, 104, 105, 106, 107, 108, 109, 110]), ([0, 1, 2, 3, 4, 5], [96, 97, 98, 99, 100, 101, 104, 105, 106, 107, 108, 109, 110]), ([0, 1, 2, 3, 4, 5, 6], [96, 97, 98, 99, 100, 101, 102, 104, 105, 106, 107, 108, 109, 110]), ([], [96, 97, 98, 99, 100, 101, 102, 103, 105, 106, 107]), ([], [96, 97, 98, 99, 100, 101, 102, 103, 104]), ([9], [96, 97, 98, 99, 100, 101, 102, 103, 104, 105]), ([9, 10], [96, 97, 98, 99, 100, 101, 102, 103, 104, 105, 106]), ([8, 9, 10, 11], [96, 97, 98, 99, 100, 101, 102, 103, 104, 105, 106, 107]), ([8, 9, 10, 11, 12], [96, 97, 98, 99, 100, 101, 102, 103, 104, 105, 106, 107, 108]), ([8, 9, 10, 11, 12, 13], [96, 97, 98, 99, 100, 101, 102, 103, 104, 105, 106, 107, 108, 109]), ([0, 1, 2, 3, 4, 5, 6, 7, 8, 9, 10, 11, 12, 13, 14], [96, 97, 98, 99, 100, 101, 102, 103, 104, 105, 106, 107, 108, 109, 110]), ([0, 1, 2, 3, 4, 5, 6, 7, 8, 9, 10, 11, 12, 13, 14, 15], [96, 97, 98, 99, 100, 101, 102, 103, 104, 105, 106, 107, 108, 109, 110, 111])] [] (Γx := []) ?_; dsimp only [prev0, List.length_nil, List.length_cons])
                 | (refine isReg 34 ?_; refine WPc.drA [([13], [134, 135, 138, 139, 140, 141]), ([13], [133, 138, 139, 140, 141]), ([1, 13], [133, 134, 138, 139, 140, 141]), ([0, 1, 2, 13], [133, 134, 135, 138, 139, 140, 141]), ([0, 1, 2, 3, 13], [133, 134, 135, 136, 138, 139, 140, 141]), ([13], [133, 134, 135, 136, 137, 140]), ([5, 13], [133, 134, 135, 136, 137, 138, 140]), ([13], [133, 134, 135, 136, 137, 138, 139, 142]), ([5, 6, 7, 13], [133, 134, 135, 136, 137, 138, 139, 140, 142]), ([0, 1, 2, 3, 4, 5, 6, 13], [133, 134, 135, 136, 137, 138, 139, 140, 141]), ([0, 1, 2, 3, 4, 5, 6, 9, 13], [133, 134, 135, 136, 137, 138, 139, 140, 141, 142]), ([0, 1, 2, 3, 4, 5, 6, 7, 8, 9, 10, 13], [133, 134, 135, 136, 137, 138, 139, 140, 141, 142]), ([0, 1, 2, 3, 4, 5, 6, 7, 8, 9, 10, 11, 13], [133, 134, 135, 136, 137, 138, 139, 140, 141, 142, 143])] [(13, 10), (10, 12), (13, 0), (13, 1), (13, 2), (13, 3), (13, 4), (13, 5), (13, 6), (13, 9), (10, 11)] (Γx := [bx gh 33 (hcx b ⟨s.proto, s.pos, true⟩)]) ?_; dsimp only [prev0, List.length_nil, List.length_cons])
                 | (refine gAny ?_; first | (refine gC 63 ?_; refine RGl.vl (fun e hk => OpT.callN (hbt)) ?_) | (refine gD 92 ?_; refine RGl.rdX (fun e hk => by (try dsimp only [bndR, ensR, oksR, fcutR, List.append_nil, List.nil_append, List.cons_append, List.append_assoc] at hk ⊢); exact ReadR.bin rfl rfl (BinR.addT hsz (by simp only [kmin]; omega) (by simp only [kmax]; omega))) ?_) | (refine gD 111 ?_; refine RGl.rdX (fun e hk => by (try dsimp only [bndR, ensR, oksR, fcutR, List.append_nil, List.nil_append, List.cons_append, List.append_assoc] at hk ⊢); exact ReadR.bin rfl rfl (BinR.addT hK (by simp only [kmin]; omega) (by simp only [kmax]; omega))) ?_) | (refine gOp ?_; first | refine RGl.rdA ?_ | refine RGl.rdX (fun e hk => by (try dsimp only [bndR, ensR, oksR, fcutR, List.append_nil, List.nil_append, List.cons_append, List.append_assoc] at hk ⊢); exact readB) ?_) | (refine gAl ?_; refine RGl.nwA ?_) | (refine gSt ?_; refine RGl.stA ?_) | (refine RGl.fin (fun e hk => ?_); (try dsimp only [bndA, ensAR, oksA, List.append_nil, List.nil_append, List.cons_append, List.append_assoc] at hk ⊢); (repeat (obtain ⟨hk1, hk⟩ := hk))) | fail)
                 | (refine isCond ?_; first | refine WPc.cT ?_ | refine WPc.cF ?_ | (refine WPc.cQ (fun hc => ?_) (fun hc => ?_) <;> try exact prA))
                 | (refine isC 63 ?_; refine WPl.cV (hbt) ?_)
                 | (refine isD 92 ?_; refine WPl.rdX (ReadR.bin rfl rfl (BinR.addT hsz (by simp only [kmin]; omega) (by simp only [kmax]; omega))) ?_)
                 | (refine isD 111 ?_; refine WPl.rdX (ReadR.bin rfl rfl (BinR.addT hK (by simp only [kmin]; omega) (by simp only [kmax]; omega))) ?_)
                 | (refine isOp ?_; first | refine WPl.rd ?_ | refine WPl.sk ?_ | refine WPl.rdB ?_)
                 | (refine isAl ?_; refine WPl.nw fun g => ?_)
                 | (refine isSt ?_; first | refine WPl.st1 ?_ | refine WPl.stA ?_ | refine WPl.stEB ?_ | refine WPl.stRB ?_)
                 | (show WPl _ _ _ _ _ _ _ (⟨_, .indexAddr _ _ _, _, _, _, _⟩ :: _) _; refine WPl.rdX (ReadR.indexE rfl rfl hasA (by first | assumption | omega)) ?_)
                 | (show WPl _ _ _ _ _ _ _ (⟨_, .fieldAddr _ _ _, _, _, _, _⟩ :: _) _; refine WPl.rdX (ReadR.fieldE rfl hasA (by first | assumption | omega)) ?_)
                 | (show WPl _ _ _ _ _ _ _ (⟨_, .load _ _, _, _, _, _⟩ :: _) _; first | refine WPl.rdX (ReadR.loadE rfl hasA (by assumption)) ?_ | refine WPl.rdX (ReadR.loadES (by assumption) (by first | assumption | omega) rfl hasA) ?_)
                 | (show WPl _ _ _ _ _ _ _ (⟨_, .slice _ _ _ _ _, _, _, _, _⟩ :: _) _; first | refine WPl.rdX (ReadR.sliceH rfl rfl hasA (by omega)) ?_ | refine WPl.rdX (ReadR.sliceL rfl rfl hasA (by omega)) ?_ | refine WPl.rdX (ReadR.sliceLH rfl rfl rfl hasA (by omega) (by omega)) ?_)
                 | (refine WPl.spQ (fun hc => ?_) (fun hc => ?_) <;> try exact prA)
                 | fail)
                all_goals exact WPq.rnd (σ := Nat × XS) (i + 1, ⟨b.getD s.pos 0, s.pos + 8, true⟩) ⟨by show i + 1 ≤ 8; omega, by show s.pos + 8 ≤ _; omega, by show _ = xall b (8 - (i + 1)) _; rw [hxa, hm, xall_next hb h0 hbad, hnx, show 8 - (i + 1) = m by omega]⟩ (by show 8 - (i + 1) < _; omega)
              | false =>
                rw [hp, Bool.false_or] at hnx
                by_cases hk8 : xK b s.pos / 8 = 0
                · by_cases hk2 : xK b s.pos % 2 = 1
                  · rw [decide_eq_true (.inr hk2)] at hnx
                    repeat' (first
                     | refine WPl.nil ?_ | refine WPq.then ?_ | refine WPq.thenR ?_ | refine WPq.thenE ?_ | refine WPq.blockN ?_ | refine WPq.blockR ?_ | refine WPq.blockE ?_ | refine WPq.blockO rfl ?_ | refine WPc.seq ?_ | refine WPc.block ?_ | refine WPc.ret ?_ | refine WPc.exit ?_ | refine WPc.skip ?_ | refine WPc.region ?_
                     | (refine isReg 15 ?_; refine WPc.drA [([], [6, 47, 48, 49, 50, 51, 52, 53, 54, 55]), ([0], [6, 44, 47, 48, 49, 50, 51, 52, 53, 54, 55]), ([0, 1], [6, 44, 45, 47, 48, 49, 50, 51, 52, 53, 54, 55]), ([], [6, 44, 45, 46, 50, 51, 53, 54, 55]), ([3], [6, 44, 45, 46, 47, 50, 51, 53, 54, 55]), ([3, 4], [6, 44, 45, 46, 47, 48, 50, 51, 53, 54, 55]), ([], [6, 44, 45, 46, 47, 48, 49, 53, 54, 55]), ([6], [6, 44, 45, 46, 47, 48, 49, 50, 53, 54, 55]), ([3, 4, 5, 6, 7], [6, 44, 45, 46, 47, 48, 49, 50, 51, 53, 54, 55]), ([], [6, 44, 45, 46, 47, 48, 49, 50, 51, 52]), ([9], [6, 44, 45, 46, 47, 48, 49, 50, 51, 52, 53]), ([9, 10], [6, 44, 45, 46, 47, 48, 49, 50, 51, 52, 53, 54]), ([0, 1, 2, 3, 4, 5, 6, 7, 8, 9, 10, 11], [6, 44, 45, 46, 47, 48, 49, 50, 51, 52, 53, 54, 55]), ([], [44, 45, 46, 47, 48, 49, 50, 51, 52, 53, 54, 55, 56]), ([0, 1, 2, 3, 4, 5, 6, 7, 8, 9, 10, 11, 12, 13], [6, 44, 45, 46, 47, 48, 49, 50, 51, 52, 53, 54, 55, 56])] [(13, 14)] (Γx := []) ?_; dsimp only [prev0, List.length_nil, List.length_cons])
                     | (refine isReg 30 ?_; refine WPc.drA [([], [97, 98, 99, 104, 105, 106, 107, 108, 109, 110]), ([], [96, 104, 105, 106, 107, 108, 109, 110]), ([1], [96, 97, 104, 105, 106, 107, 108, 109, 110]), ([1, 2], [96, 97, 98, 104, 105, 106, 107, 108, 109, 110]), ([0, 1, 2, 3], [96, 97, 98, 99, 104, 105, 106, 107, 108, 109, 110]), ([0, 1, 2, 3, 4], [96, 97, 98, 99, 100, 104, 105, 106, 107, 108, 109, 110]), ([0, 1, 2, 3, 4, 5], [96, 97, 98, 99, 100, 101, 104, 105, 106, 107, 108, 109, 110]), ([0, 1, 2, 3, 4, 5, 6], [96, 97, 98, 99, 100, 101, 102, 104, 105, 106, 107, 108, 109, 110]), ([], [96, 97, 98, 99, 100, 101, 102, 103, 105, 106, 107]), ([], [96, 97, 98, 99, 100, 101, 102, 103, 104]), ([9], [96, 97, 98, 99, 100, 101, 102, 103, 104, 105]), ([9, 10], [96, 97, 98, 99, 100, 101, 102, 103, 104, 105, 106]), ([8, 9, 10, 11], [96, 97, 98, 99, 100, 101, 102, 103, 104, 105, 106, 107]), ([8, 9, 10, 11, 12], [96, 97, 98, 99, 100, 101, 102, 103, 104, 105, 106, 107, 108]), ([8, 9, 10, 11, 12, 13], [96, 97, 98, 99, 100, 101, 102, 103, 104, 105, 106, 107, 108, 109]), ([0, 1, 2, 3, 4, 5, 6, 7, 8, 9, 10, 11, 12, 13, 14], [96, 97, 98, 99, 100, 101, 102, 103, 104, 105, 106, 107, 108, 109, 110]), ([0, 1, 2, 3, 4, 5, 6, 7, 8, 9, 10, 11, 12, 13, 14, 15], [96, 97, 98, 99, 100, 101, 102, 103, 104, 105, 106, 107, 108, 109, 110, 111])] [] (Γx := []) ?_; dsimp only [prev0, List.length_nil, List.length_cons])
                     | (refine isReg 34 ?_; refine WPc.drA [([13], [134, 135, 138, 139, 140, 141]), ([13], [133, 138, 139, 140, 141]), ([1, 13], [133, 134, 138, 139, 140, 141]), ([0, 1, 2, 13], [133, 134, 135, 138, 139, 140, 141]), ([0, 1, 2, 3, 13], [133, 134, 135, 136, 138, 139, 140, 141]), ([13], [133, 134, 135, 136, 137, 140]), ([5, 13], [133, 134, 135, 136, 137, 138, 140]), ([13], [133, 134, 135, 136, 137, 138, 139, 142]), ([5, 6, 7, 13], [133, 134, 135, 136, 137, 138, 139, 140, 142]), ([0, 1, 2, 3, 4, 5, 6, 13], [133, 134, 135, 136, 137, 138, 139, 140, 141]), ([0, 1, 2, 3, 4, 5, 6, 9, 13], [133, 134, 135, 136, 137, 138, 139, 140, 141, 142]), ([0, 1, 2, 3, 4, 5, 6, 7, 8, 9, 10, 13], [133, 134, 135, 136, 137, 138, 139, 140, 141, 142]), ([0, 1, 2, 3, 4, 5, 6, 7, 8, 9, 10, 11, 13], [133, 134, 135, 136, 137, 138, 139, 140, 141, 142, 143])] [(13, 10), (10, 12), (13, 0), (13, 1), (13, 2), (13, 3), (13, 4), (13, 5), (13, 6), (13, 9), (10, 11)] (Γx := [bx gh 33 (hcx b ⟨s.proto, s.pos, true⟩)]) ?_; dsimp only [prev0, List.length_nil, List.length_cons])
                     | (refine gAny ?_; first | (refine gC 63 ?_; refine RGl.vl (fun e hk => OpT.callN (hbt)) ?_) | (refine gD 92 ?_; refine RGl.rdX (fun e hk => by (try dsimp only [bndR, ensR, oksR, fcutR, List.append_nil, List.nil_append, List.cons_append, List.append_assoc] at hk ⊢); exact ReadR.bin rfl rfl (BinR.addT hsz (by simp only [kmin]; omega) (by simp only [kmax]; omega))) ?_) | (refine gD 111 ?_; refine RGl.rdX (fun e hk => by (try dsimp only [bndR, ensR, oksR, fcutR, List.append_nil, List.nil_append, List.cons_append, List.append_assoc] at hk ⊢); exact ReadR.bin rfl rfl (BinR.addT hK (by simp only [kmin]; omega) (by simp only [kmax]; omega))) ?_) | (refine gD 117 ?_; refine RGl.rdX (fun e hk => by (try dsimp only [bndR, ensR, oksR, fcutR, List.append_nil, List.nil_append, List.cons_append, List.append_assoc] at hk ⊢); exact ReadR.binE rfl rfl BinR.neq (congrArg Value.bool (show (!decide _) = false by rw [decide_eq_true (by omega)]; rfl))) ?_) | (refine gD 122 ?_; refine RGl.rdX (fun e hk => by (try dsimp only [bndR, ensR, oksR, fcutR, List.append_nil, List.nil_append, List.cons_append, List.append_assoc] at hk ⊢); exact ReadR.binE rfl rfl BinR.eql (congrArg Value.bool (decide_eq_true (by omega)))) ?_) | (refine gOp ?_; first | refine RGl.rdA ?_ | refine RGl.rdX (fun e hk => by (try dsimp only [bndR, ensR, oksR, fcutR, List.append_nil, List.nil_append, List.cons_append, List.append_assoc] at hk ⊢); exact readB) ?_) | (refine gAl ?_; refine RGl.nwA ?_) | (refine gSt ?_; refine RGl.stA ?_) | (refine RGl.fin (fun e hk => ?_); (try dsimp only [bndA, ensAR, oksA, List.append_nil, List.nil_append, List.cons_append, List.append_assoc] at hk ⊢); (repeat (obtain ⟨hk1, hk⟩ := hk))) | fail)
                     | (refine isCond ?_; first | refine WPc.cT ?_ | refine WPc.cF ?_ | (refine WPc.cQ (fun hc => ?_) (fun hc => ?_) <;> try exact prA))
                     | (refine isC 63 ?_; refine WPl.cV (hbt) ?_)
                     | (refine isD 92 ?_; refine WPl.rdX (ReadR.bin rfl rfl (BinR.addT hsz (by simp only [kmin]; omega) (by simp only [kmax]; omega))) ?_)
                     | (refine isD 111 ?_; refine WPl.rdX (ReadR.bin rfl rfl (BinR.addT hK (by simp only [kmin]; omega) (by simp only [kmax]; omega))) ?_)
                     | (refine isD 117 ?_; refine WPl.rdX (ReadR.binE rfl rfl BinR.neq (congrArg Value.bool (show (!decide _) = false by rw [decide_eq_true (by omega)]; rfl))) ?_)
                     | (refine isD 122 ?_; refine WPl.rdX (ReadR.binE rfl rfl BinR.eql (congrArg Value.bool (decide_eq_true (by omega)))) ?_)
                     | (refine isOp ?_; first | refine WPl.rd ?_ | refine WPl.sk ?_ | refine WPl.rdB ?_)
                     | (refine isAl ?_; refine WPl.nw fun g => ?_)
                     | (refine isSt ?_; first | refine WPl.st1 ?_ | refine WPl.stA ?_ | refine WPl.stEB ?_ | refine WPl.stRB ?_)
                     | (show WPl _ _ _ _ _ _ _ (⟨_, .indexAddr _ _ _, _, _, _, _⟩ :: _) _; refine WPl.rdX (ReadR.indexE rfl rfl hasA (by first | assumption | omega)) ?_)
                     | (show WPl _ _ _ _ _ _ _ (⟨_, .fieldAddr _ _ _, _, _, _, _⟩ :: _) _; refine WPl.rdX (ReadR.fieldE rfl hasA (by first | assumption | omega)) ?_)
                     | (show WPl _ _ _ _ _ _ _ (⟨_, .load _ _, _, _, _, _⟩ :: _) _; first | refine WPl.rdX (ReadR.loadE rfl hasA (by assumption)) ?_ | refine WPl.rdX (ReadR.loadES (by assumption) (by first | assumption | omega) rfl hasA) ?_)
                     | (show WPl _ _ _ _ _ _ _ (⟨_, .slice _ _ _ _ _, _, _, _, _⟩ :: _) _; first | refine WPl.rdX (ReadR.sliceH rfl rfl hasA (by omega)) ?_ | refine WPl.rdX (ReadR.sliceL rfl rfl hasA (by omega)) ?_ | refine WPl.rdX (ReadR.sliceLH rfl rfl rfl hasA (by omega) (by omega)) ?_)
                     | (refine WPl.spQ (fun hc => ?_) (fun hc => ?_) <;> try exact prA)
                     | fail)
                    all_goals exact WPq.rnd (σ := Nat × XS) (i + 1, ⟨b.getD s.pos 0, s.pos + 8, true⟩) ⟨by show i + 1 ≤ 8; omega, by show s.pos + 8 ≤ _; omega, by show _ = xall b (8 - (i + 1)) _; rw [hxa, hm, xall_next hb h0 hbad, hnx, show 8 - (i + 1) = m by omega]⟩ (by show 8 - (i + 1) < _; omega)
                  · rw [decide_eq_false (by omega)] at hnx
                    repeat' (first
                     | refine WPl.nil ?_ | refine WPq.then ?_ | refine WPq.thenR ?_ | refine WPq.thenE ?_ | refine WPq.blockN ?_ | refine WPq.blockR ?_ | refine WPq.blockE ?_ | refine WPq.blockO rfl ?_ | refine WPc.seq ?_ | refine WPc.block ?_ | refine WPc.ret ?_ | refine WPc.exit ?_ | refine WPc.skip ?_ | refine WPc.region ?_
                     | (refine isReg 15 ?_; refine WPc.drA [([], [6, 47, 48, 49, 50, 51, 52, 53, 54, 55]), ([0], [6, 44, 47, 48, 49, 50, 51, 52, 53, 54, 55]), ([0, 1], [6, 44, 45, 47, 48, 49, 50, 51, 52, 53, 54, 55]), ([], [6, 44, 45, 46, 50, 51, 53, 54, 55]), ([3], [6, 44, 45, 46, 47, 50, 51, 53, 54, 55]), ([3, 4], [6, 44, 45, 46, 47, 48, 50, 51, 53, 54, 55]), ([], [6, 44, 45, 46, 47, 48, 49, 53, 54, 55]), ([6], [6, 44, 45, 46, 47, 48, 49, 50, 53, 54, 55]), ([3, 4, 5, 6, 7], [6, 44, 45, 46, 47, 48, 49, 50, 51, 53, 54, 55]), ([], [6, 44, 45, 46, 47, 48, 49, 50, 51, 52]), ([9], [6, 44, 45, 46, 47, 48, 49, 50, 51, 52, 53]), ([9, 10], [6, 44, 45, 46, 47, 48, 49, 50, 51, 52, 53, 54]), ([0, 1, 2, 3, 4, 5, 6, 7, 8, 9, 10, 11], [6, 44, 45, 46, 47, 48, 49, 50, 51, 52, 53, 54, 55]), ([], [44, 45, 46, 47, 48, 49, 50, 51, 52, 53, 54, 55, 56]), ([0, 1, 2, 3, 4, 5, 6, 7, 8, 9, 10, 11, 12, 13], [6, 44, 45, 46, 47, 48, 49, 50, 51, 52, 53, 54, 55, 56])] [(13, 14)] (Γx := []) ?_; dsimp only [prev0, List.length_nil, List.length_cons])
                     | (refine isReg 30 ?_; refine WPc.drA [([], [97, 98, 99, 104, 105, 106, 107, 108, 109, 110]), ([], [96, 104, 105, 106, 107, 108, 109, 110]), ([1], [96, 97, 104, 105, 106, 107, 108, 109, 110]), ([1, 2], [96, 97, 98, 104, 105, 106, 107, 108, 109, 110]), ([0, 1, 2, 3], [96, 97, 98, 99, 104, 105, 106, 107, 108, 109, 110]), ([0, 1, 2, 3, 4], [96, 97, 98, 99, 100, 104, 105, 106, 107, 108, 109, 110]), ([0, 1, 2, 3, 4, 5], [96, 97, 98, 99, 100, 101, 104, 105, 106, 107, 108, 109, 110]), ([0, 1, 2, 3, 4, 5, 6], [96, 97, 98, 99, 100, 101, 102, 104, 105, 106, 107, 108, 109, 110]), ([], [96, 97, 98, 99, 100, 101, 102, 103, 105, 106, 107]), ([], [96, 97, 98, 99, 100, 101, 102, 103, 104]), ([9], [96, 97, 98, 99, 100, 101, 102, 103, 104, 105]), ([9, 10], [96, 97, 98, 99, 100, 101, 102, 103, 104, 105, 106]), ([8, 9, 10, 11], [96, 97, 98, 99, 100, 101, 102, 103, 104, 105, 106, 107]), ([8, 9, 10, 11, 12], [96, 97, 98, 99, 100, 101, 102, 103, 104, 105, 106, 107, 108]), ([8, 9, 10, 11, 12, 13], [96, 97, 98, 99, 100, 101, 102, 103, 104, 105, 106, 107, 108, 109]), ([0, 1, 2, 3, 4, 5, 6, 7, 8, 9, 10, 11, 12, 13, 14], [96, 97, 98, 99, 100, 101, 102, 103, 104, 105, 106, 107, 108, 109, 110]), ([0, 1, 2, 3, 4, 5, 6, 7, 8, 9, 10, 11, 12, 13, 14, 15], [96, 97, 98, 99, 100, 101, 102, 103, 104, 105, 106, 107, 108, 109, 110, 111])] [] (Γx := []) ?_; dsimp only [prev0, List.length_nil, List.length_cons])
                     | (refine isReg 34 ?_; refine WPc.drA [([13], [134, 135, 138, 139, 140, 141]), ([13], [133, 138, 139, 140, 141]), ([1, 13], [133, 134, 138, 139, 140, 141]), ([0, 1, 2, 13], [133, 134, 135, 138, 139, 140, 141]), ([0, 1, 2, 3, 13], [133, 134, 135, 136, 138, 139, 140, 141]), ([13], [133, 134, 135, 136, 137, 140]), ([5, 13], [133, 134, 135, 136, 137, 138, 140]), ([13], [133, 134, 135, 136, 137, 138, 139, 142]), ([5, 6, 7, 13], [133, 134, 135, 136, 137, 138, 139, 140, 142]), ([0, 1, 2, 3, 4, 5, 6, 13], [133, 134, 135, 136, 137, 138, 139, 140, 141]), ([0, 1, 2, 3, 4, 5, 6, 9, 13], [133, 134, 135, 136, 137, 138, 139, 140, 141, 142]), ([0, 1, 2, 3, 4, 5, 6, 7, 8, 9, 10, 13], [133, 134, 135, 136, 137, 138, 139, 140, 141, 142]), ([0, 1, 2, 3, 4, 5, 6, 7, 8, 9, 10, 11, 13], [133, 134, 135, 136, 137, 138, 139, 140, 141, 142, 143])] [(13, 10), (10, 12), (13, 0), (13, 1), (13, 2), (13, 3), (13, 4), (13, 5), (13, 6), (13, 9), (10, 11)] (Γx := [bx gh 33 (hcx b ⟨s.proto, s.pos, false⟩)]) ?_; dsimp only [prev0, List.length_nil, List.length_cons])
                     | (refine gAny ?_; first | (refine gC 63 ?_; refine RGl.vl (fun e hk => OpT.callN (hbt)) ?_) | (refine gD 92 ?_; refine RGl.rdX (fun e hk => by (try dsimp only [bndR, ensR, oksR, fcutR, List.append_nil, List.nil_append, List.cons_append, List.append_assoc] at hk ⊢); exact ReadR.bin rfl rfl (BinR.addT hsz (by simp only [kmin]; omega) (by simp only [kmax]; omega))) ?_) | (refine gD 111 ?_; refine RGl.rdX (fun e hk => by (try dsimp only [bndR, ensR, oksR, fcutR, List.append_nil, List.nil_append, List.cons_append, List.append_assoc] at hk ⊢); exact ReadR.bin rfl rfl (BinR.addT hK (by simp only [kmin]; omega) (by simp only [kmax]; omega))) ?_) | (refine gD 117 ?_; refine RGl.rdX (fun e hk => by (try dsimp only [bndR, ensR, oksR, fcutR, List.append_nil, List.nil_append, List.cons_append, List.append_assoc] at hk ⊢); exact ReadR.binE rfl rfl BinR.neq (congrArg Value.bool (show (!decide _) = false by rw [decide_eq_true (by omega)]; rfl))) ?_) | (refine gD 122 ?_; refine RGl.rdX (fun e hk => by (try dsimp only [bndR, ensR, oksR, fcutR, List.append_nil, List.nil_append, List.cons_append, List.append_assoc] at hk ⊢); exact ReadR.binE rfl rfl BinR.eql (congrArg Value.bool (decide_eq_false (by omega)))) ?_) | (refine gOp ?_; first | refine RGl.rdA ?_ | refine RGl.rdX (fun e hk => by (try dsimp only [bndR, ensR, oksR, fcutR, List.append_nil, List.nil_append, List.cons_append, List.append_assoc] at hk ⊢); exact readB) ?_) | (refine gAl ?_; refine RGl.nwA ?_) | (refine gSt ?_; refine RGl.stA ?_) | (refine RGl.fin (fun e hk => ?_); (try dsimp only [bndA, ensAR, oksA, List.append_nil, List.nil_append, List.cons_append, List.append_assoc] at hk ⊢); (repeat (obtain ⟨hk1, hk⟩ := hk))) | fail)
                     | (refine isCond ?_; first | refine WPc.cT ?_ | refine WPc.cF ?_ | (refine WPc.cQ (fun hc => ?_) (fun hc => ?_) <;> try exact prA))
                     | (refine isC 63 ?_; refine WPl.cV (hbt) ?_)
                     | (refine isD 92 ?_; refine WPl.rdX (ReadR.bin rfl rfl (BinR.addT hsz (by simp only [kmin]; omega) (by simp only [kmax]; omega))) ?_)
                     | (refine isD 111 ?_; refine WPl.rdX (ReadR.bin rfl rfl (BinR.addT hK (by simp only [kmin]; omega) (by simp only [kmax]; omega))) ?_)
                     | (refine isD 117 ?_; refine WPl.rdX (ReadR.binE rfl rfl BinR.neq (congrArg Value.bool (show (!decide _) = false by rw [decide_eq_true (by omega)]; rfl))) ?_)
                     | (refine isD 122 ?_; refine WPl.rdX (ReadR.binE rfl rfl BinR.eql (congrArg Value.bool (decide_eq_false (by omega)))) ?_)
                     | (refine isOp ?_; first | refine WPl.rd ?_ | refine WPl.sk ?_ | refine WPl.rdB ?_)
                     | (refine isAl ?_; refine WPl.nw fun g => ?_)
                     | (refine isSt ?_; first | refine WPl.st1 ?_ | refine WPl.stA ?_ | refine WPl.stEB ?_ | refine WPl.stRB ?_)
                     | (show WPl _ _ _ _ _ _ _ (⟨_, .indexAddr _ _ _, _, _, _, _⟩ :: _) _; refine WPl.rdX (ReadR.indexE rfl rfl hasA (by first | assumption | omega)) ?_)
                     | (show WPl _ _ _ _ _ _ _ (⟨_, .fieldAddr _ _ _, _, _, _, _⟩ :: _) _; refine WPl.rdX (ReadR.fieldE rfl hasA (by first | assumption | omega)) ?_)
                     | (show WPl _ _ _ _ _ _ _ (⟨_, .load _ _, _, _, _, _⟩ :: _) _; first | refine WPl.rdX (ReadR.loadE rfl hasA (by assumption)) ?_ | refine WPl.rdX (ReadR.loadES (by assumption) (by first | assumption | omega) rfl hasA) ?_)
                     | (show WPl _ _ _ _ _ _ _ (⟨_, .slice _ _ _ _ _, _, _, _, _⟩ :: _) _; first | refine WPl.rdX (ReadR.sliceH rfl rfl hasA (by omega)) ?_ | refine WPl.rdX (ReadR.sliceL rfl rfl hasA (by omega)) ?_ | refine WPl.rdX (ReadR.sliceLH rfl rfl rfl hasA (by omega) (by omega)) ?_)
                     | (refine WPl.spQ (fun hc => ?_) (fun hc => ?_) <;> try exact prA)
                     | fail)
                    all_goals exact WPq.rnd (σ := Nat × XS) (i + 1, ⟨b.getD s.pos 0, s.pos + 8, false⟩) ⟨by show i + 1 ≤ 8; omega, by show s.pos + 8 ≤ _; omega, by show _ = xall b (8 - (i + 1)) _; rw [hxa, hm, xall_next hb h0 hbad, hnx, show 8 - (i + 1) = m by omega]⟩ (by show 8 - (i + 1) < _; omega)
                · rw [decide_eq_true (.inl hk8)] at hnx
                  repeat' (first
                   | refine WPl.nil ?_ | refine WPq.then ?_ | refine WPq.thenR ?_ | refine WPq.thenE ?_ | refine WPq.blockN ?_ | refine WPq.blockR ?_ | refine WPq.blockE ?_ | refine WPq.blockO rfl ?_ | refine WPc.seq ?_ | refine WPc.block ?_ | refine WPc.ret ?_ | refine WPc.exit ?_ | refine WPc.skip ?_ | refine WPc.region ?_
                   | (refine isReg 15 ?_; refine WPc.drA [([], [6, 47, 48, 49, 50, 51, 52, 53, 54, 55]), ([0], [6, 44, 47, 48, 49, 50, 51, 52, 53, 54, 55]), ([0, 1], [6, 44, 45, 47, 48, 49, 50, 51, 52, 53, 54, 55]), ([], [6, 44, 45, 46, 50, 51, 53, 54, 55]), ([3], [6, 44, 45, 46, 47, 50, 51, 53, 54, 55]), ([3, 4], [6, 44, 45, 46, 47, 48, 50, 51, 53, 54, 55]), ([], [6, 44, 45, 46, 47, 48, 49, 53, 54, 55]), ([6], [6, 44, 45, 46, 47, 48, 49, 50, 53, 54, 55]), ([3, 4, 5, 6, 7], [6, 44, 45, 46, 47, 48, 49, 50, 51, 53, 54, 55]), ([], [6, 44, 45, 46, 47, 48, 49, 50, 51, 52]), ([9], [6, 44, 45, 46, 47, 48, 49, 50, 51, 52, 53]), ([9, 10], [6, 44, 45, 46, 47, 48, 49, 50, 51, 52, 53, 54]), ([0, 1, 2, 3, 4, 5, 6, 7, 8, 9, 10, 11], [6, 44, 45, 46, 47, 48, 49, 50, 51, 52, 53, 54, 55]), ([], [44, 45, 46, 47, 48, 49, 50, 51, 52, 53, 54, 55, 56]), ([0, 1, 2, 3, 4, 5, 6, 7, 8, 9, 10, 11, 12, 13], [6, 44, 45, 46, 47, 48, 49, 50, 51, 52, 53, 54, 55, 56])] [(13, 14)] (Γx := []) ?_; dsimp only [prev0, List.length_nil, List.length_cons])
                   | (refine isReg 30 ?_; refine WPc.drA [([], [97, 98, 99, 104, 105, 106, 107, 108, 109, 110]), ([], [96, 104, 105, 106, 107, 108, 109, 110]), ([1], [96, 97, 104, 105, 106, 107, 108, 109, 110]), ([1, 2], [96, 97, 98, 104, 105, 106, 107, 108, 109, 110]), ([0, 1, 2, 3], [96, 97, 98, 99, 104, 105, 106, 107, 108, 109, 110]), ([0, 1, 2, 3, 4], [96, 97, 98, 99, 100, 104, 105, 106, 107, 108, 109, 110]), ([0, 1, 2, 3, 4, 5], [96, 97, 98, 99, 100, 101, 104, 105, 106, 107, 108, 109, 110]), ([0, 1, 2, 3, 4, 5, 6], [96, 97, 98, 99, 100, 101, 102, 104, 105, 106, 107, 108, 109, 110]), ([], [96, 97, 98, 99, 100, 101, 102, 103, 105, 106, 107]), ([], [96, 97, 98, 99, 100, 101, 102, 103, 104]), ([9], [96, 97, 98, 99, 100, 101, 102, 103, 104, 105]), ([9, 10], [96, 97, 98, 99, 100, 101, 102, 103, 104, 105, 106]), ([8, 9, 10, 11], [96, 97, 98, 99, 100, 101, 102, 103, 104, 105, 106, 107]), ([8, 9, 10, 11, 12], [96, 97, 98, 99, 100, 101, 102, 103, 104, 105, 106, 107, 108]), ([8, 9, 10, 11, 12, 13], [96, 97, 98, 99, 100, 101, 102, 103, 104, 105, 106, 107, 108, 109]), ([0, 1, 2, 3, 4, 5, 6, 7, 8, 9, 10, 11, 12, 13, 14], [96, 97, 98, 99, 100, 101, 102, 103, 104, 105, 106, 107, 108, 109, 110]), ([0, 1, 2, 3, 4, 5, 6, 7, 8, 9, 10, 11, 12, 13, 14, 15], [96, 97, 98, 99, 100, 101, 102, 103, 104, 105, 106, 107, 108, 109, 110, 111])] [] (Γx := []) ?_; dsimp only [prev0, List.length_nil, List.length_cons])
                   | (refine isReg 34 ?_; refine WPc.drA [([13], [134, 135, 138, 139, 140, 141]), ([13], [133, 138, 139, 140, 141]), ([1, 13], [133, 134, 138, 139, 140, 141]), ([0, 1, 2, 13], [133, 134, 135, 138, 139, 140, 141]), ([0, 1, 2, 3, 13], [133, 134, 135, 136, 138, 139, 140, 141]), ([13], [133, 134, 135, 136, 137, 140]), ([5, 13], [133, 134, 135, 136, 137, 138, 140]), ([13], [133, 134, 135, 136, 137, 138, 139, 142]), ([5, 6, 7, 13], [133, 134, 135, 136, 137, 138, 139, 140, 142]), ([0, 1, 2, 3, 4, 5, 6, 13], [133, 134, 135, 136, 137, 138, 139, 140, 141]), ([0, 1, 2, 3, 4, 5, 6, 9, 13], [133, 134, 135, 136, 137, 138, 139, 140, 141, 142]), ([0, 1, 2, 3, 4, 5, 6, 7, 8, 9, 10, 13], [133, 134, 135, 136, 137, 138, 139, 140, 141, 142]), ([0, 1, 2, 3, 4, 5, 6, 7, 8, 9, 10, 11, 13], [133, 134, 135, 136, 137, 138, 139, 140, 141, 142, 143])] [(13, 10), (10, 12), (13, 0), (13, 1), (13, 2), (13, 3), (13, 4), (13, 5), (13, 6), (13, 9), (10, 11)] (Γx := [bx gh 33 (hcx b ⟨s.proto, s.pos, true⟩)]) ?_; dsimp only [prev0, List.length_nil, List.length_cons])
                   | (refine gAny ?_; first | (refine gC 63 ?_; refine RGl.vl (fun e hk => OpT.callN (hbt)) ?_) | (refine gD 92 ?_; refine RGl.rdX (fun e hk => by (try dsimp only [bndR, ensR, oksR, fcutR, List.append_nil, List.nil_append, List.cons_append, List.append_assoc] at hk ⊢); exact ReadR.bin rfl rfl (BinR.addT hsz (by simp only [kmin]; omega) (by simp only [kmax]; omega))) ?_) | (refine gD 111 ?_; refine RGl.rdX (fun e hk => by (try dsimp only [bndR, ensR, oksR, fcutR, List.append_nil, List.nil_append, List.cons_append, List.append_assoc] at hk ⊢); exact ReadR.bin rfl rfl (BinR.addT hK (by simp only [kmin]; omega) (by simp only [kmax]; omega))) ?_) | (refine gD 117 ?_; refine RGl.rdX (fun e hk => by (try dsimp only [bndR, ensR, oksR, fcutR, List.append_nil, List.nil_append, List.cons_append, List.append_assoc] at hk ⊢); exact ReadR.binE rfl rfl BinR.neq (congrArg Value.bool (show (!decide _) = true by rw [decide_eq_false (by omega)]; rfl))) ?_) | (refine gOp ?_; first | refine RGl.rdA ?_ | refine RGl.rdX (fun e hk => by (try dsimp only [bndR, ensR, oksR, fcutR, List.append_nil, List.nil_append, List.cons_append, List.append_assoc] at hk ⊢); exact readB) ?_) | (refine gAl ?_; refine RGl.nwA ?_) | (refine gSt ?_; refine RGl.stA ?_) | (refine RGl.fin (fun e hk => ?_); (try dsimp only [bndA, ensAR, oksA, List.append_nil, List.nil_append, List.cons_append, List.append_assoc] at hk ⊢); (repeat (obtain ⟨hk1, hk⟩ := hk))) | fail)
                   | (refine isCond ?_; first | refine WPc.cT ?_ | refine WPc.cF ?_ | (refine WPc.cQ (fun hc => ?_) (fun hc => ?_) <;> try exact prA))
                   | (refine isC 63 ?_; refine WPl.cV (hbt) ?_)
                   | (refine isD 92 ?_; refine WPl.rdX (ReadR.bin rfl rfl (BinR.addT hsz (by simp only [kmin]; omega) (by simp only [kmax]; omega))) ?_)
                   | (refine isD 111 ?_; refine WPl.rdX (ReadR.bin rfl rfl (BinR.addT hK (by simp only [kmin]; omega) (by simp only [kmax]; omega))) ?_)
                   | (refine isD 117 ?_; refine WPl.rdX (ReadR.binE rfl rfl BinR.neq (congrArg Value.bool (show (!decide _) = true by rw [decide_eq_false (by omega)]; rfl))) ?_)
                   | (refine isOp ?_; first | refine WPl.rd ?_ | refine WPl.sk ?_ | refine WPl.rdB ?_)
                   | (refine isAl ?_; refine WPl.nw fun g => ?_)
                   | (refine isSt ?_; first | refine WPl.st1 ?_ | refine WPl.stA ?_ | refine WPl.stEB ?_ | refine WPl.stRB ?_)
                   | (show WPl _ _ _ _ _ _ _ (⟨_, .indexAddr _ _ _, _, _, _, _⟩ :: _) _; refine WPl.rdX (ReadR.indexE rfl rfl hasA (by first | assumption | omega)) ?_)
                   | (show WPl _ _ _ _ _ _ _ (⟨_, .fieldAddr _ _ _, _, _, _, _⟩ :: _) _; refine WPl.rdX (ReadR.fieldE rfl hasA (by first | assumption | omega)) ?_)
                   | (show WPl _ _ _ _ _ _ _ (⟨_, .load _ _, _, _, _, _⟩ :: _) _; first | refine WPl.rdX (ReadR.loadE rfl hasA (by assumption)) ?_ | refine WPl.rdX (ReadR.loadES (by assumption) (by first | assumption | omega) rfl hasA) ?_)
                   | (show WPl _ _ _ _ _ _ _ (⟨_, .slice _ _ _ _ _, _, _, _, _⟩ :: _) _; first | refine WPl.rdX (ReadR.sliceH rfl rfl hasA (by omega)) ?_ | refine WPl.rdX (ReadR.sliceL rfl rfl hasA (by omega)) ?_ | refine WPl.rdX (ReadR.sliceLH rfl rfl rfl hasA (by omega) (by omega)) ?_)
                   | (refine WPl.spQ (fun hc => ?_) (fun hc => ?_) <;> try exact prA)
                   | fail)
                  all_goals exact WPq.rnd (σ := Nat × XS) (i + 1, ⟨b.getD s.pos 0, s.pos + 8, true⟩) ⟨by show i + 1 ≤ 8; omega, by show s.pos + 8 ≤ _; omega, by show _ = xall b (8 - (i + 1)) _; rw [hxa, hm, xall_next hb h0 hbad, hnx, show 8 - (i + 1) = m by omega]⟩ (by show 8 - (i + 1) < _; omega)
            · rw [if_neg h44] at hbs hnx
              have hxp : xpart b s = s.part := by unfold xpart; rw [if_neg h44]
              rw [hxp] at hnx
              repeat' (first
               | refine WPl.nil ?_ | refine WPq.then ?_ | refine WPq.thenR ?_ | refine WPq.thenE ?_ | refine WPq.blockN ?_ | refine WPq.blockR ?_ | refine WPq.blockE ?_ | refine WPq.blockO rfl ?_ | refine WPc.seq ?_ | refine WPc.block ?_ | refine WPc.ret ?_ | refine WPc.exit ?_ | refine WPc.skip ?_ | refine WPc.region ?_
               | (refine isReg 15 ?_; refine WPc.drA [([], [6, 47, 48, 49, 50, 51, 52, 53, 54, 55]), ([0], [6, 44, 47, 48, 49, 50, 51, 52, 53, 54, 55]), ([0, 1], [6, 44, 45, 47, 48, 49, 50, 51, 52, 53, 54, 55]), ([], [6, 44, 45, 46, 50, 51, 53, 54, 55]), ([3], [6, 44, 45, 46, 47, 50, 51, 53, 54, 55]), ([3, 4], [6, 44, 45, 46, 47, 48, 50, 51, 53, 54, 55]), ([], [6, 44, 45, 46, 47, 48, 49, 53, 54, 55]), ([6], [6, 44, 45, 46, 47, 48, 49, 50, 53, 54, 55]), ([3, 4, 5, 6, 7], [6, 44, 45, 46, 47, 48, 49, 50, 51, 53, 54, 55]), ([], [6, 44, 45, 46, 47, 48, 49, 50, 51, 52]), ([9], [6, 44, 45, 46, 47, 48, 49, 50, 51, 52, 53]), ([9, 10], [6, 44, 45, 46, 47, 48, 49, 50, 51, 52, 53, 54]), ([0, 1, 2, 3, 4, 5, 6, 7, 8, 9, 10, 11], [6, 44, 45, 46, 47, 48, 49, 50, 51, 52, 53, 54, 55]), ([], [44, 45, 46, 47, 48, 49, 50, 51, 52, 53, 54, 55, 56]), ([0, 1, 2, 3, 4, 5, 6, 7, 8, 9, 10, 11, 12, 13], [6, 44, 45, 46, 47, 48, 49, 50, 51, 52, 53, 54, 55, 56])] [(13, 14)] (Γx := []) ?_; dsimp only [prev0, List.length_nil, List.length_cons])
               | (refine isReg 30 ?_; refine WPc.drA [([], [97, 98, 99, 104, 105, 106, 107, 108, 109, 110]), ([], [96, 104, 105, 106, 107, 108, 109, 110]), ([1], [96, 97, 104, 105, 106, 107, 108, 109, 110]), ([1, 2], [96, 97, 98, 104, 105, 106, 107, 108, 109, 110]), ([0, 1, 2, 3], [96, 97, 98, 99, 104, 105, 106, 107, 108, 109, 110]), ([0, 1, 2, 3, 4], [96, 97, 98, 99, 100, 104, 105, 106, 107, 108, 109, 110]), ([0, 1, 2, 3, 4, 5], [96, 97, 98, 99, 100, 101, 104, 105, 106, 107, 108, 109, 110]), ([0, 1, 2, 3, 4, 5, 6], [96, 97, 98, 99, 100, 101, 102, 104, 105, 106, 107, 108, 109, 110]), ([], [96, 97, 98, 99, 100, 101, 102, 103, 105, 106, 107]), ([], [96, 97, 98, 99, 100, 101, 102, 103, 104]), ([9], [96, 97, 98, 99, 100, 101, 102, 103, 104, 105]), ([9, 10], [96, 97, 98, 99, 100, 101, 102, 103, 104, 105, 106]), ([8, 9, 10, 11], [96, 97, 98, 99, 100, 101, 102, 103, 104, 105, 106, 107]), ([8, 9, 10, 11, 12], [96, 97, 98, 99, 100, 101, 102, 103, 104, 105, 106, 107, 108]), ([8, 9, 10, 11, 12, 13], [96, 97, 98, 99, 100, 101, 102, 103, 104, 105, 106, 107, 108, 109]), ([0, 1, 2, 3, 4, 5, 6, 7, 8, 9, 10, 11, 12, 13, 14], [96, 97, 98, 99, 100, 101, 102, 103, 104, 105, 106, 107, 108, 109, 110]), ([0, 1, 2, 3, 4, 5, 6, 7, 8, 9, 10, 11, 12, 13, 14, 15], [96, 97, 98, 99, 100, 101, 102, 103, 104, 105, 106, 107, 108, 109, 110, 111])] [] (Γx := []) ?_; dsimp only [prev0, List.length_nil, List.length_cons])
               | (refine isReg 34 ?_; refine WPc.drA [([13], [134, 135, 138, 139, 140, 141]), ([13], [133, 138, 139, 140, 141]), ([1, 13], [133, 134, 138, 139, 140, 141]), ([0, 1, 2, 13], [133, 134, 135, 138, 139, 140, 141]), ([0, 1, 2, 3, 13], [133, 134, 135, 136, 138, 139, 140, 141]), ([13], [133, 134, 135, 136, 137, 140]), ([5, 13], [133, 134, 135, 136, 137, 138, 140]), ([13], [133, 134, 135, 136, 137, 138, 139, 142]), ([5, 6, 7, 13], [133, 134, 135, 136, 137, 138, 139, 140, 142]), ([0, 1, 2, 3, 4, 5, 6, 13], [133, 134, 135, 136, 137, 138, 139, 140, 141]), ([0, 1, 2, 3, 4, 5, 6, 9, 13], [133, 134, 135, 136, 137, 138, 139, 140, 141, 142]), ([0, 1, 2, 3, 4, 5, 6, 7, 8, 9, 10, 13], [133, 134, 135, 136, 137, 138, 139, 140, 141, 142]), ([0, 1, 2, 3, 4, 5, 6, 7, 8, 9, 10, 11, 13], [133, 134, 135, 136, 137, 138, 139, 140, 141, 142, 143])] [(13, 10), (10, 12), (13, 0), (13, 1), (13, 2), (13, 3), (13, 4), (13, 5), (13, 6), (13, 9), (10, 11)] (Γx := [bx gh 33 (hcx b s)]) ?_; dsimp only [prev0, List.length_nil, List.length_cons])
               | (refine gAny ?_; first | (refine gC 63 ?_; refine RGl.vl (fun e hk => OpT.callN (hbt)) ?_) | (refine gD 92 ?_; refine RGl.rdX (fun e hk => by (try dsimp only [bndR, ensR, oksR, fcutR, List.append_nil, List.nil_append, List.cons_append, List.append_assoc] at hk ⊢); exact ReadR.bin rfl rfl (BinR.addT hsz (by simp only [kmin]; omega) (by simp only [kmax]; omega))) ?_) | (refine gOp ?_; first | refine RGl.rdA ?_ | refine RGl.rdX (fun e hk => by (try dsimp only [bndR, ensR, oksR, fcutR, List.append_nil, List.nil_append, List.cons_append, List.append_assoc] at hk ⊢); exact readB) ?_) | (refine gAl ?_; refine RGl.nwA ?_) | (refine gSt ?_; refine RGl.stA ?_) | (refine RGl.fin (fun e hk => ?_); (try dsimp only [bndA, ensAR, oksA, List.append_nil, List.nil_append, List.cons_append, List.append_assoc] at hk ⊢); (repeat (obtain ⟨hk1, hk⟩ := hk))) | fail)
               | (refine isCond ?_; first | refine WPc.cT ?_ | refine WPc.cF ?_ | (refine WPc.cQ (fun hc => ?_) (fun hc => ?_) <;> try exact prA))
               | (refine isC 63 ?_; refine WPl.cV (hbt) ?_)
               | (refine isD 92 ?_; refine WPl.rdX (ReadR.bin rfl rfl (BinR.addT hsz (by simp only [kmin]; omega) (by simp only [kmax]; omega))) ?_)
               | (refine isOp ?_; first | refine WPl.rd ?_ | refine WPl.sk ?_ | refine WPl.rdB ?_)
               | (refine isAl ?_; refine WPl.nw fun g => ?_)
               | (refine isSt ?_; first | refine WPl.st1 ?_ | refine WPl.stA ?_ | refine WPl.stEB ?_ | refine WPl.stRB ?_)
               | (show WPl _ _ _ _ _ _ _ (⟨_, .indexAddr _ _ _, _, _, _, _⟩ :: _) _; refine WPl.rdX (ReadR.indexE rfl rfl hasA (by first | assumption | omega)) ?_)
               | (show WPl _ _ _ _ _ _ _ (⟨_, .fieldAddr _ _ _, _, _, _, _⟩ :: _) _; refine WPl.rdX (ReadR.fieldE rfl hasA (by first | assumption | omega)) ?_)
               | (show WPl _ _ _ _ _ _ _ (⟨_, .load _ _, _, _, _, _⟩ :: _) _; first | refine WPl.rdX (ReadR.loadE rfl hasA (by assumption)) ?_ | refine WPl.rdX (ReadR.loadES (by assumption) (by first | assumption | omega) rfl hasA) ?_)
               | (show WPl _ _ _ _ _ _ _ (⟨_, .slice _ _ _ _ _, _, _, _, _⟩ :: _) _; first | refine WPl.rdX (ReadR.sliceH rfl rfl hasA (by omega)) ?_ | refine WPl.rdX (ReadR.sliceL rfl rfl hasA (by omega)) ?_ | refine WPl.rdX (ReadR.sliceLH rfl rfl rfl hasA (by omega) (by omega)) ?_)
               | (refine WPl.spQ (fun hc => ?_) (fun hc => ?_) <;> try exact prA)
               | fail)
              all_goals exact WPq.rnd (σ := Nat × XS) (i + 1, ⟨b.getD s.pos 0, s.pos + (8 + 8 * byteN b (s.pos + 1)), s.part⟩) ⟨by show i + 1 ≤ 8; omega, by show s.pos + (8 + 8 * byteN b (s.pos + 1)) ≤ _; omega, by show _ = xall b (8 - (i + 1)) _; rw [hxa, hm, xall_next hb h0 hbad, hnx, show 8 - (i + 1) = m by omega]⟩ (by show 8 - (i + 1) < _; omega)
  · rw [show sVal b = .tuple #[ag (hdc Hd.none), .int .i64 (xerr0 b)] by unfold sVal xread xerr; rw [if_neg he, if_neg he]]
    have hne := xerr0_ne he
    refine Triple.enter Try.func19 rfl Try.ntmps19 rfl (fun W => ?_)
    dsimp only [argsF, Nat.reduceAdd]
    repeat' (first
     | refine WPl.nil ?_ | refine WPq.then ?_ | refine WPq.thenR ?_ | refine WPq.thenE ?_ | refine WPq.blockN ?_ | refine WPq.blockR ?_ | refine WPq.blockE ?_ | refine WPq.blockO rfl ?_ | refine WPc.seq ?_ | refine WPc.block ?_ | refine WPc.ret ?_ | refine WPc.exit ?_ | refine WPc.skip ?_ | refine WPc.region ?_
     | (refine isReg 15 ?_; refine WPc.drA [([], [6, 47, 48, 49, 50, 51, 52, 53, 54, 55]), ([0], [6, 44, 47, 48, 49, 50, 51, 52, 53, 54, 55]), ([0, 1], [6, 44, 45, 47, 48, 49, 50, 51, 52, 53, 54, 55]), ([], [6, 44, 45, 46, 50, 51, 53, 54, 55]), ([3], [6, 44, 45, 46, 47, 50, 51, 53, 54, 55]), ([3, 4], [6, 44, 45, 46, 47, 48, 50, 51, 53, 54, 55]), ([], [6, 44, 45, 46, 47, 48, 49, 53, 54, 55]), ([6], [6, 44, 45, 46, 47, 48, 49, 50, 53, 54, 55]), ([3, 4, 5, 6, 7], [6, 44, 45, 46, 47, 48, 49, 50, 51, 53, 54, 55]), ([], [6, 44, 45, 46, 47, 48, 49, 50, 51, 52]), ([9], [6, 44, 45, 46, 47, 48, 49, 50, 51, 52, 53]), ([9, 10], [6, 44, 45, 46, 47, 48, 49, 50, 51, 52, 53, 54]), ([0, 1, 2, 3, 4, 5, 6, 7, 8, 9, 10, 11], [6, 44, 45, 46, 47, 48, 49, 50, 51, 52, 53, 54, 55]), ([], [44, 45, 46, 47, 48, 49, 50, 51, 52, 53, 54, 55, 56]), ([0, 1, 2, 3, 4, 5, 6, 7, 8, 9, 10, 11, 12, 13], [6, 44, 45, 46, 47, 48, 49, 50, 51, 52, 53, 54, 55, 56])] [(13, 14)] (Γx := []) ?_; dsimp only [prev0, List.length_nil, List.length_cons])
     | (refine isReg 30 ?_; refine WPc.drA [([], [97, 98, 99, 104, 105, 106, 107, 108, 109, 110]), ([], [96, 104, 105, 106, 107, 108, 109, 110]), ([1], [96, 97, 104, 105, 106, 107, 108, 109, 110]), ([1, 2], [96, 97, 98, 104, 105, 106, 107, 108, 109, 110]), ([0, 1, 2, 3], [96, 97, 98, 99, 104, 105, 106, 107, 108, 109, 110]), ([0, 1, 2, 3, 4], [96, 97, 98, 99, 100, 104, 105, 106, 107, 108, 109, 110]), ([0, 1, 2, 3, 4, 5], [96, 97, 98, 99, 100, 101, 104, 105, 106, 107, 108, 109, 110]), ([0, 1, 2, 3, 4, 5, 6], [96, 97, 98, 99, 100, 101, 102, 104, 105, 106, 107, 108, 109, 110]), ([], [96, 97, 98, 99, 100, 101, 102, 103, 105, 106, 107]), ([], [96, 97, 98, 99, 100, 101, 102, 103, 104]), ([9], [96, 97, 98, 99, 100, 101, 102, 103, 104, 105]), ([9, 10], [96, 97, 98, 99, 100, 101, 102, 103, 104, 105, 106]), ([8, 9, 10, 11], [96, 97, 98, 99, 100, 101, 102, 103, 104, 105, 106, 107]), ([8, 9, 10, 11, 12], [96, 97, 98, 99, 100, 101, 102, 103, 104, 105, 106, 107, 108]), ([8, 9, 10, 11, 12, 13], [96, 97, 98, 99, 100, 101, 102, 103, 104, 105, 106, 107, 108, 109]), ([0, 1, 2, 3, 4, 5, 6, 7, 8, 9, 10, 11, 12, 13, 14], [96, 97, 98, 99, 100, 101, 102, 103, 104, 105, 106, 107, 108, 109, 110]), ([0, 1, 2, 3, 4, 5, 6, 7, 8, 9, 10, 11, 12, 13, 14, 15], [96, 97, 98, 99, 100, 101, 102, 103, 104, 105, 106, 107, 108, 109, 110, 111])] [] (Γx := []) ?_; dsimp only [prev0, List.length_nil, List.length_cons])
     | (refine isReg 34 ?_; refine WPc.drA [([], [134, 135, 138, 139, 140, 141]), ([], [133, 138, 139, 140, 141]), ([1], [133, 134, 138, 139, 140, 141]), ([0, 1, 2], [133, 134, 135, 138, 139, 140, 141]), ([0, 1, 2, 3], [133, 134, 135, 136, 138, 139, 140, 141]), ([], [133, 134, 135, 136, 137, 140]), ([5], [133, 134, 135, 136, 137, 138, 140]), ([], [133, 134, 135, 136, 137, 138, 139, 142]), ([5, 6, 7], [133, 134, 135, 136, 137, 138, 139, 140, 142]), ([0, 1, 2, 3, 4, 5, 6], [133, 134, 135, 136, 137, 138, 139, 140, 141]), ([0, 1, 2, 3, 4, 5, 6, 9], [133, 134, 135, 136, 137, 138, 139, 140, 141, 142]), ([0, 1, 2, 3, 4, 5, 6, 7, 8, 9, 10], [133, 134, 135, 136, 137, 138, 139, 140, 141, 142]), ([0, 1, 2, 3, 4, 5, 6, 7, 8, 9, 10, 11], [133, 134, 135, 136, 137, 138, 139, 140, 141, 142, 143])] [] (Γx := []) ?_; dsimp only [prev0, List.length_nil, List.length_cons])
     | (refine gAny ?_; first | (refine gC 26 ?_; refine RGl.vl (fun e hk => OpT.callN (rget_t v b 4 2 (by omega) (by omega) (by omega))) ?_) | (refine gOp ?_; first | refine RGl.rdA ?_ | refine RGl.rdX (fun e hk => by (try dsimp only [bndR, ensR, oksR, fcutR, List.append_nil, List.nil_append, List.cons_append, List.append_assoc] at hk ⊢); exact readB) ?_) | (refine gAl ?_; refine RGl.nwA ?_) | (refine gSt ?_; refine RGl.stA ?_) | (refine RGl.fin (fun e hk => ?_); (try dsimp only [bndA, ensAR, oksA, List.append_nil, List.nil_append, List.cons_append, List.append_assoc] at hk ⊢); (repeat (obtain ⟨hk1, hk⟩ := hk))) | fail)
     | (refine isCond ?_; first | refine WPc.cT ?_ | refine WPc.cF ?_ | (refine WPc.cQ (fun hc => ?_) (fun hc => ?_) <;> try exact prA))
     | (refine isC 26 ?_; refine WPl.cV (rget_t v b 4 2 (by omega) (by omega) (by omega)) ?_)
     | (refine isOp ?_; first | refine WPl.rd ?_ | refine WPl.sk ?_ | refine WPl.rdB ?_)
     | (refine isAl ?_; refine WPl.nw fun g => ?_)
     | (refine isSt ?_; first | refine WPl.st1 ?_ | refine WPl.stA ?_ | refine WPl.stEB ?_ | refine WPl.stRB ?_)
     | (show WPl _ _ _ _ _ _ _ (⟨_, .indexAddr _ _ _, _, _, _, _⟩ :: _) _; refine WPl.rdX (ReadR.indexE rfl rfl hasA (by first | assumption | omega)) ?_)
     | (show WPl _ _ _ _ _ _ _ (⟨_, .fieldAddr _ _ _, _, _, _, _⟩ :: _) _; refine WPl.rdX (ReadR.fieldE rfl hasA (by first | assumption | omega)) ?_)
     | (show WPl _ _ _ _ _ _ _ (⟨_, .load _ _, _, _, _, _⟩ :: _) _; first | refine WPl.rdX (ReadR.loadE rfl hasA (by assumption)) ?_ | refine WPl.rdX (ReadR.loadES (by assumption) (by first | assumption | omega) rfl hasA) ?_)
     | (show WPl _ _ _ _ _ _ _ (⟨_, .slice _ _ _ _ _, _, _, _, _⟩ :: _) _; first | refine WPl.rdX (ReadR.sliceH rfl rfl hasA (by omega)) ?_ | refine WPl.rdX (ReadR.sliceL rfl rfl hasA (by omega)) ?_ | refine WPl.rdX (ReadR.sliceLH rfl rfl rfl hasA (by omega) (by omega)) ?_)
     | (refine WPl.spQ (fun hc => ?_) (fun hc => ?_) <;> try exact prA)
     | fail)
    all_goals
      refine WPq.dV (hc := ?_)
      show Value.tuple #[_, Value.int .i64 _] = Value.tuple #[_, Value.int .i64 _]
      congr 5
      unfold xerr0
      repeat' (first | omega | split)
end Go.Proofs.Ytjfhiifpnpokpaa
