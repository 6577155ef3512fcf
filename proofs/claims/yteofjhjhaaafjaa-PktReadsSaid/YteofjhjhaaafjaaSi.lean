/- Reference of layer 15 (seg): reading: contracts. -/
import Derived.Test.YteofjhjhaaafjaaSh
namespace Go.Proofs.Yteofjhjhaaafjaa
open Go.RowKit
set_option linter.unusedSimpArgs false
set_option linter.unusedVariables false
set_option maxRecDepth 20000
set_option maxHeartbeats 4000000
attribute [local irreducible] WPc WPl WPq ReadR OpT BinR HasS bx rdN rowN Take Takes Prov Triple ResF BuildP Done ag Int.decLt Int.decLe Int.instDecidableEq
attribute [local irreducible] psu sgood

theorem rsread_t (h : Hd) (vb : Value) (b : List UInt8) (hl : b.length ≤ 100000) : Triple Try.prog 42 #[ag (hdc h), vb] [rb vb b] (RVal (gVal h b)) := by
  have l1 := h.src.len
  have l2 := h.dst.len
  have hv0 := val2_lt (l := b) (k := 0)
  have hv2 := val2_lt (l := b) (k := 2)
  have hv4 := val2_lt (l := b) (k := 4)
  have u12 : byteN b 12 = (b.getD 12 0).toNat := rfl
  have hu := byteN_lt b 12
  have u6 : byteN b 6 = (b.getD 6 0).toNat := rfl
  have u7 : byteN b 7 = (b.getD 7 0).toNat := rfl
  have htn : tN b = 4 * (byteN b 12 / 16) := rfl
  have hg := rsgood_t h vb b hl
  have hmul : ((((b.getD 12 0).toNat : Nat) : Int) / 16) * (4 : Int) = ((tN b : Nat) : Int) := by rw [htn]; unfold byteN; omega
  have hz6 : 8 ≤ b.length → val (seg b 6 2) = 256 * byteN b 6 + byteN b 7 := fun hh => val_seg2 (by omega)
  by_cases h6 : h.proto.toNat = 6
  · have h0 : sgE0 h b = tcpE h b := by unfold sgE0; rw [if_pos h6]
    by_cases he : tcpE h b = 0
    · obtain ⟨f1, f2, f3, f4⟩ := tcpE_zero he
      rw [f4] at hg
      cases hz : pz b with
      | true =>
        have hz' : val (seg b 0 2) = 0 ∨ val (seg b 2 2) = 0 := by simpa [pz] using hz
        have hE : sgE h b = 4 := by unfold sgE; rw [h0, if_pos he, hz]; rfl
        rw [show gVal h b = .tuple #[ag (sgc Sg.none), .int .i64 4] by unfold gVal sgR; rw [hE, if_neg (by omega)]]
        refine Triple.enter Try.func42 rfl Try.ntmps42 rfl (fun W => ?_)
        dsimp only [argsF, Nat.reduceAdd]
        repeat' (first
          | refine WPl.nil ?_
          | refine WPq.then ?_
          | refine WPq.thenR ?_
          | refine WPq.thenE ?_
          | refine WPq.blockN ?_
          | refine WPq.blockR ?_
          | refine WPq.blockE ?_
          | refine WPq.blockO rfl ?_
          | refine WPc.seq ?_
          | refine WPc.block ?_
          | refine WPc.ret ?_
          | refine WPc.exit ?_
          | refine WPc.skip ?_
          | refine WPc.region ?_
          | ((show WPc _ _ _ _ _ _ (.cond _ _ _) _; first | refine WPc.cT ?_ | refine WPc.cF ?_ | (refine WPc.cS (fun hc => ?_) (fun hc => ?_) <;> (try simp only [decide_eq_true_eq, decide_eq_false_iff_not, Bool.not_eq_true', Bool.not_eq_false', Bool.and_eq_true, Bool.or_eq_true, Bool.and_eq_false_iff, Bool.or_eq_false_iff, Bool.not_true, Bool.not_false, Int.not_lt, Int.not_le] at hc) <;> (try (exfalso; first | omega | exact clash1 hc (by assumption) | exact clash2 hc (by assumption) | exact hc trivial | exact hc (by assumption) | exact absurd hc (by assumption))))))
          | ((show WPl _ _ _ _ _ _ _ (⟨some 99, .call ⟨.value _, _, _⟩, _, _, _, _⟩ :: _) _; refine WPl.cV (hg) ?_))
          | ((show WPl _ _ _ _ _ _ _ (⟨some 38, .binOp .mul _ _ _ _, _, _, _, _⟩ :: _) _; refine WPl.rdX (ReadR.bin rfl rfl (BinR.mulT hmul (by simp only [kmin]; omega) (by simp only [kmax]; omega))) ?_))
          | ((show WPl _ _ _ _ _ _ _ (⟨some 104, .call ⟨.value _, _, _⟩, _, _, _, _⟩ :: _) _; refine WPl.cV (rget_t vb b 0 2 (by omega) (by omega) (by omega)) ?_))
          | ((show WPl _ _ _ _ _ _ _ (⟨some 107, .call ⟨.value _, _, _⟩, _, _, _, _⟩ :: _) _; refine WPl.cV (rget_t vb b 2 2 (by omega) (by omega) (by omega)) ?_))
          | ((show WPl _ _ _ _ _ _ _ (_ :: _) _; first | refine WPl.rd ?_ | refine WPl.sk ?_ | refine WPl.rdB ?_))
          | ((show WPl _ _ _ _ _ _ _ (⟨_, .alloc _, _, _, _, _⟩ :: _) _; refine WPl.nw fun g => ?_))
          | ((show WPl _ _ _ _ _ _ _ (⟨_, .box _ _, _, _, _, _⟩ :: _) _; refine WPl.nw fun g => ?_))
          | ((show WPl _ _ _ _ _ _ _ (⟨_, .store _ _ _, _, _, _, _⟩ :: _) _; first | refine WPl.st1 ?_ | refine WPl.stA ?_ | refine WPl.stEB ?_ | refine WPl.stRB ?_))
          | ((show WPl _ _ _ _ _ _ _ (_ :: _) _; refine WPl.spl (fun hc => ?_) (fun hc => ?_) <;> (try simp only [decide_eq_true_eq, decide_eq_false_iff_not, Bool.not_eq_true', Bool.not_eq_false', Bool.and_eq_true, Bool.or_eq_true, Bool.and_eq_false_iff, Bool.or_eq_false_iff, Bool.not_true, Bool.not_false, Int.not_lt, Int.not_le] at hc) <;> (try (exfalso; first | omega | exact clash1 hc (by assumption) | exact clash2 hc (by assumption) | exact hc trivial | exact hc (by assumption) | exact absurd hc (by assumption)))))
          | fail)
        all_goals try (first
          | exact WPq.dV
          | exact WPq.dR
          | exact WPq.dR2
          | exact WPq.dH
          | exact WPq.dBH
          | exact WPq.dT)
      | false =>
        obtain ⟨z1, z2⟩ := pz_no hz
        have hE : sgE h b = 0 := by unfold sgE; rw [h0, if_pos he, hz]; rfl
        rw [show gVal h b = .tuple #[ag (sgc ((tcpS b).at b)), .int .i64 0] by unfold gVal sgR sg0; rw [hE, if_pos rfl, if_pos h6]]
        refine Triple.enter Try.func42 rfl Try.ntmps42 rfl (fun W => ?_)
        dsimp only [argsF, Nat.reduceAdd]
        repeat' (first
          | refine WPl.nil ?_
          | refine WPq.then ?_
          | refine WPq.thenR ?_
          | refine WPq.thenE ?_
          | refine WPq.blockN ?_
          | refine WPq.blockR ?_
          | refine WPq.blockE ?_
          | refine WPq.blockO rfl ?_
          | refine WPc.seq ?_
          | refine WPc.block ?_
          | refine WPc.ret ?_
          | refine WPc.exit ?_
          | refine WPc.skip ?_
          | refine WPc.region ?_
          | ((show WPc _ _ _ _ _ _ (.cond _ _ _) _; first | refine WPc.cT ?_ | refine WPc.cF ?_ | (refine WPc.cS (fun hc => ?_) (fun hc => ?_) <;> (try simp only [decide_eq_true_eq, decide_eq_false_iff_not, Bool.not_eq_true', Bool.not_eq_false', Bool.and_eq_true, Bool.or_eq_true, Bool.and_eq_false_iff, Bool.or_eq_false_iff, Bool.not_true, Bool.not_false, Int.not_lt, Int.not_le] at hc) <;> (try (exfalso; first | omega | exact clash1 hc (by assumption) | exact clash2 hc (by assumption) | exact hc trivial | exact hc (by assumption) | exact absurd hc (by assumption))))))
          | ((show WPl _ _ _ _ _ _ _ (⟨some 99, .call ⟨.value _, _, _⟩, _, _, _, _⟩ :: _) _; refine WPl.cV (hg) ?_))
          | ((show WPl _ _ _ _ _ _ _ (⟨some 38, .binOp .mul _ _ _ _, _, _, _, _⟩ :: _) _; refine WPl.rdX (ReadR.bin rfl rfl (BinR.mulT hmul (by simp only [kmin]; omega) (by simp only [kmax]; omega))) ?_))
          | ((show WPl _ _ _ _ _ _ _ (⟨some 104, .call ⟨.value _, _, _⟩, _, _, _, _⟩ :: _) _; refine WPl.cV (rget_t vb b 0 2 (by omega) (by omega) (by omega)) ?_))
          | ((show WPl _ _ _ _ _ _ _ (⟨some 107, .call ⟨.value _, _, _⟩, _, _, _, _⟩ :: _) _; refine WPl.cV (rget_t vb b 2 2 (by omega) (by omega) (by omega)) ?_))
          | ((show WPl _ _ _ _ _ _ _ (_ :: _) _; first | refine WPl.rd ?_ | refine WPl.sk ?_ | refine WPl.rdB ?_))
          | ((show WPl _ _ _ _ _ _ _ (⟨_, .alloc _, _, _, _, _⟩ :: _) _; refine WPl.nw fun g => ?_))
          | ((show WPl _ _ _ _ _ _ _ (⟨_, .box _ _, _, _, _, _⟩ :: _) _; refine WPl.nw fun g => ?_))
          | ((show WPl _ _ _ _ _ _ _ (⟨_, .store _ _ _, _, _, _, _⟩ :: _) _; first | refine WPl.st1 ?_ | refine WPl.stA ?_ | refine WPl.stEB ?_ | refine WPl.stRB ?_))
          | ((show WPl _ _ _ _ _ _ _ (_ :: _) _; refine WPl.spl (fun hc => ?_) (fun hc => ?_) <;> (try simp only [decide_eq_true_eq, decide_eq_false_iff_not, Bool.not_eq_true', Bool.not_eq_false', Bool.and_eq_true, Bool.or_eq_true, Bool.and_eq_false_iff, Bool.or_eq_false_iff, Bool.not_true, Bool.not_false, Int.not_lt, Int.not_le] at hc) <;> (try (exfalso; first | omega | exact clash1 hc (by assumption) | exact clash2 hc (by assumption) | exact hc trivial | exact hc (by assumption) | exact absurd hc (by assumption)))))
          | fail)
        all_goals try (first
          | exact WPq.dV
          | exact WPq.dR
          | exact WPq.dR2
          | exact WPq.dH
          | exact WPq.dBH
          | exact WPq.dT)
    · have hE : sgE h b = tcpE h b := by unfold sgE; rw [h0, if_neg he]
      rw [show gVal h b = .tuple #[ag (sgc Sg.none), .int .i64 (tcpE h b)] by unfold gVal sgR; rw [hE, if_neg he]]
      cases hsg : sgood h b with
      | true =>
        rw [hsg] at hg
        have hh : tcpE h b = (if b.length < 20 then 9 else if tN b < 20 then 4 else if b.length < tN b then 9 else 0) := by unfold tcpE; rw [hsg]; simp
        rw [hh] at he ⊢
        have hne : b.length < 20 ∨ tN b < 20 ∨ b.length < tN b := by
          apply Classical.byContradiction
          intro hn
          apply he
          repeat' (first | omega | split)
        refine Triple.enter Try.func42 rfl Try.ntmps42 rfl (fun W => ?_)
        dsimp only [argsF, Nat.reduceAdd]
        repeat' (first
          | refine WPl.nil ?_
          | refine WPq.then ?_
          | refine WPq.thenR ?_
          | refine WPq.thenE ?_
          | refine WPq.blockN ?_
          | refine WPq.blockR ?_
          | refine WPq.blockE ?_
          | refine WPq.blockO rfl ?_
          | refine WPc.seq ?_
          | refine WPc.block ?_
          | refine WPc.ret ?_
          | refine WPc.exit ?_
          | refine WPc.skip ?_
          | refine WPc.region ?_
          | ((show WPc _ _ _ _ _ _ (.cond _ _ _) _; first | refine WPc.cT ?_ | refine WPc.cF ?_ | (refine WPc.cS (fun hc => ?_) (fun hc => ?_) <;> (try simp only [decide_eq_true_eq, decide_eq_false_iff_not, Bool.not_eq_true', Bool.not_eq_false', Bool.and_eq_true, Bool.or_eq_true, Bool.and_eq_false_iff, Bool.or_eq_false_iff, Bool.not_true, Bool.not_false, Int.not_lt, Int.not_le] at hc) <;> (try (exfalso; first | omega | exact clash1 hc (by assumption) | exact clash2 hc (by assumption) | exact hc trivial | exact hc (by assumption) | exact absurd hc (by assumption))))))
          | ((show WPl _ _ _ _ _ _ _ (⟨some 99, .call ⟨.value _, _, _⟩, _, _, _, _⟩ :: _) _; refine WPl.cV (hg) ?_))
          | ((show WPl _ _ _ _ _ _ _ (⟨some 38, .binOp .mul _ _ _ _, _, _, _, _⟩ :: _) _; refine WPl.rdX (ReadR.bin rfl rfl (BinR.mulT hmul (by simp only [kmin]; omega) (by simp only [kmax]; omega))) ?_))
          | ((show WPl _ _ _ _ _ _ _ (_ :: _) _; first | refine WPl.rd ?_ | refine WPl.sk ?_ | refine WPl.rdB ?_))
          | ((show WPl _ _ _ _ _ _ _ (⟨_, .alloc _, _, _, _, _⟩ :: _) _; refine WPl.nw fun g => ?_))
          | ((show WPl _ _ _ _ _ _ _ (⟨_, .box _ _, _, _, _, _⟩ :: _) _; refine WPl.nw fun g => ?_))
          | ((show WPl _ _ _ _ _ _ _ (⟨_, .store _ _ _, _, _, _, _⟩ :: _) _; first | refine WPl.st1 ?_ | refine WPl.stA ?_ | refine WPl.stEB ?_ | refine WPl.stRB ?_))
          | ((show WPl _ _ _ _ _ _ _ (_ :: _) _; refine WPl.spl (fun hc => ?_) (fun hc => ?_) <;> (try simp only [decide_eq_true_eq, decide_eq_false_iff_not, Bool.not_eq_true', Bool.not_eq_false', Bool.and_eq_true, Bool.or_eq_true, Bool.and_eq_false_iff, Bool.or_eq_false_iff, Bool.not_true, Bool.not_false, Int.not_lt, Int.not_le] at hc) <;> (try (exfalso; first | omega | exact clash1 hc (by assumption) | exact clash2 hc (by assumption) | exact hc trivial | exact hc (by assumption) | exact absurd hc (by assumption)))))
          | fail)
        all_goals
          refine WPq.dV (hc := ?_)
          show Value.tuple #[_, Value.int .i64 _] = Value.tuple #[_, Value.int .i64 _]
          congr 5
          repeat' (first | omega | split)
      | false =>
        rw [hsg] at hg
        have hh : tcpE h b = (if b.length < 20 then 9 else if tN b < 20 then 4 else if b.length < tN b then 9 else 5) := by unfold tcpE; rw [hsg]; simp
        rw [hh]
        refine Triple.enter Try.func42 rfl Try.ntmps42 rfl (fun W => ?_)
        dsimp only [argsF, Nat.reduceAdd]
        repeat' (first
          | refine WPl.nil ?_
          | refine WPq.then ?_
          | refine WPq.thenR ?_
          | refine WPq.thenE ?_
          | refine WPq.blockN ?_
          | refine WPq.blockR ?_
          | refine WPq.blockE ?_
          | refine WPq.blockO rfl ?_
          | refine WPc.seq ?_
          | refine WPc.block ?_
          | refine WPc.ret ?_
          | refine WPc.exit ?_
          | refine WPc.skip ?_
          | refine WPc.region ?_
          | ((show WPc _ _ _ _ _ _ (.cond _ _ _) _; first | refine WPc.cT ?_ | refine WPc.cF ?_ | (refine WPc.cS (fun hc => ?_) (fun hc => ?_) <;> (try simp only [decide_eq_true_eq, decide_eq_false_iff_not, Bool.not_eq_true', Bool.not_eq_false', Bool.and_eq_true, Bool.or_eq_true, Bool.and_eq_false_iff, Bool.or_eq_false_iff, Bool.not_true, Bool.not_false, Int.not_lt, Int.not_le] at hc) <;> (try (exfalso; first | omega | exact clash1 hc (by assumption) | exact clash2 hc (by assumption) | exact hc trivial | exact hc (by assumption) | exact absurd hc (by assumption))))))
          | ((show WPl _ _ _ _ _ _ _ (⟨some 99, .call ⟨.value _, _, _⟩, _, _, _, _⟩ :: _) _; refine WPl.cV (hg) ?_))
          | ((show WPl _ _ _ _ _ _ _ (⟨some 38, .binOp .mul _ _ _ _, _, _, _, _⟩ :: _) _; refine WPl.rdX (ReadR.bin rfl rfl (BinR.mulT hmul (by simp only [kmin]; omega) (by simp only [kmax]; omega))) ?_))
          | ((show WPl _ _ _ _ _ _ _ (_ :: _) _; first | refine WPl.rd ?_ | refine WPl.sk ?_ | refine WPl.rdB ?_))
          | ((show WPl _ _ _ _ _ _ _ (⟨_, .alloc _, _, _, _, _⟩ :: _) _; refine WPl.nw fun g => ?_))
          | ((show WPl _ _ _ _ _ _ _ (⟨_, .box _ _, _, _, _, _⟩ :: _) _; refine WPl.nw fun g => ?_))
          | ((show WPl _ _ _ _ _ _ _ (⟨_, .store _ _ _, _, _, _, _⟩ :: _) _; first | refine WPl.st1 ?_ | refine WPl.stA ?_ | refine WPl.stEB ?_ | refine WPl.stRB ?_))
          | ((show WPl _ _ _ _ _ _ _ (_ :: _) _; refine WPl.spl (fun hc => ?_) (fun hc => ?_) <;> (try simp only [decide_eq_true_eq, decide_eq_false_iff_not, Bool.not_eq_true', Bool.not_eq_false', Bool.and_eq_true, Bool.or_eq_true, Bool.and_eq_false_iff, Bool.or_eq_false_iff, Bool.not_true, Bool.not_false, Int.not_lt, Int.not_le] at hc) <;> (try (exfalso; first | omega | exact clash1 hc (by assumption) | exact clash2 hc (by assumption) | exact hc trivial | exact hc (by assumption) | exact absurd hc (by assumption)))))
          | fail)
        all_goals
          refine WPq.dV (hc := ?_)
          show Value.tuple #[_, Value.int .i64 _] = Value.tuple #[_, Value.int .i64 _]
          congr 5
          repeat' (first | omega | split)
  · by_cases h17 : h.proto.toNat = 17
    · have h0 : sgE0 h b = udpE h b := by unfold sgE0; rw [if_neg h6, if_pos h17]
      by_cases he : udpE h b = 0
      · obtain ⟨f1, f2, f3⟩ := udpE_zero he
        have hz6 := hz6 f1
        cases hz : pz b with
        | true =>
          have hz' : val (seg b 0 2) = 0 ∨ val (seg b 2 2) = 0 := by simpa [pz] using hz
          have hE : sgE h b = 4 := by unfold sgE; rw [h0, if_pos he, hz]; rfl
          rw [show gVal h b = .tuple #[ag (sgc Sg.none), .int .i64 4] by unfold gVal sgR; rw [hE, if_neg (by omega)]]
          rcases f3 with ⟨f3, f4⟩ | ⟨f3, f4⟩
          · skip
            refine Triple.enter Try.func42 rfl Try.ntmps42 rfl (fun W => ?_)
            dsimp only [argsF, Nat.reduceAdd]
            repeat' (first
              | refine WPl.nil ?_
              | refine WPq.then ?_
              | refine WPq.thenR ?_
              | refine WPq.thenE ?_
              | refine WPq.blockN ?_
              | refine WPq.blockR ?_
              | refine WPq.blockE ?_
              | refine WPq.blockO rfl ?_
              | refine WPc.seq ?_
              | refine WPc.block ?_
              | refine WPc.ret ?_
              | refine WPc.exit ?_
              | refine WPc.skip ?_
              | refine WPc.region ?_
              | ((show WPc _ _ _ _ _ _ (.cond _ _ _) _; first | refine WPc.cT ?_ | refine WPc.cF ?_ | (refine WPc.cS (fun hc => ?_) (fun hc => ?_) <;> (try simp only [decide_eq_true_eq, decide_eq_false_iff_not, Bool.not_eq_true', Bool.not_eq_false', Bool.and_eq_true, Bool.or_eq_true, Bool.and_eq_false_iff, Bool.or_eq_false_iff, Bool.not_true, Bool.not_false, Int.not_lt, Int.not_le] at hc) <;> (try (exfalso; first | omega | exact clash1 hc (by assumption) | exact clash2 hc (by assumption) | exact hc trivial | exact hc (by assumption) | exact absurd hc (by assumption))))))
              | ((show WPl _ _ _ _ _ _ _ (⟨some 58, .binOp .eql _ _ _ _, _, _, _, _⟩ :: _) _; refine WPl.rdX (ReadR.binE rfl rfl BinR.eql (congrArg Value.bool (decide_eq_true (by omega)))) ?_))
              | ((show WPl _ _ _ _ _ _ _ (⟨some 63, .binOp .eql _ _ _ _, _, _, _, _⟩ :: _) _; refine WPl.rdX (ReadR.binE rfl rfl BinR.eql (congrArg Value.bool (decide_eq_true (by omega)))) ?_))
              | ((show WPl _ _ _ _ _ _ _ (⟨some 53, .call ⟨.value _, _, _⟩, _, _, _, _⟩ :: _) _; refine WPl.cV (rget_t vb b 4 2 (by omega) (by omega) (by omega)) ?_))
              | ((show WPl _ _ _ _ _ _ _ (⟨some 104, .call ⟨.value _, _, _⟩, _, _, _, _⟩ :: _) _; refine WPl.cV (rget_t vb b 0 2 (by omega) (by omega) (by omega)) ?_))
              | ((show WPl _ _ _ _ _ _ _ (⟨some 107, .call ⟨.value _, _, _⟩, _, _, _, _⟩ :: _) _; refine WPl.cV (rget_t vb b 2 2 (by omega) (by omega) (by omega)) ?_))
              | ((show WPl _ _ _ _ _ _ _ (_ :: _) _; first | refine WPl.rd ?_ | refine WPl.sk ?_ | refine WPl.rdB ?_))
              | ((show WPl _ _ _ _ _ _ _ (⟨_, .alloc _, _, _, _, _⟩ :: _) _; refine WPl.nw fun g => ?_))
              | ((show WPl _ _ _ _ _ _ _ (⟨_, .box _ _, _, _, _, _⟩ :: _) _; refine WPl.nw fun g => ?_))
              | ((show WPl _ _ _ _ _ _ _ (⟨_, .store _ _ _, _, _, _, _⟩ :: _) _; first | refine WPl.st1 ?_ | refine WPl.stA ?_ | refine WPl.stEB ?_ | refine WPl.stRB ?_))
              | ((show WPl _ _ _ _ _ _ _ (_ :: _) _; refine WPl.spl (fun hc => ?_) (fun hc => ?_) <;> (try simp only [decide_eq_true_eq, decide_eq_false_iff_not, Bool.not_eq_true', Bool.not_eq_false', Bool.and_eq_true, Bool.or_eq_true, Bool.and_eq_false_iff, Bool.or_eq_false_iff, Bool.not_true, Bool.not_false, Int.not_lt, Int.not_le] at hc) <;> (try (exfalso; first | omega | exact clash1 hc (by assumption) | exact clash2 hc (by assumption) | exact hc trivial | exact hc (by assumption) | exact absurd hc (by assumption)))))
              | fail)
            all_goals try (first
              | exact WPq.dV
              | exact WPq.dR
              | exact WPq.dR2
              | exact WPq.dH
              | exact WPq.dBH
              | exact WPq.dT)
          · rw [f4] at hg
            refine Triple.enter Try.func42 rfl Try.ntmps42 rfl (fun W => ?_)
            dsimp only [argsF, Nat.reduceAdd]
            repeat' (first
              | refine WPl.nil ?_
              | refine WPq.then ?_
              | refine WPq.thenR ?_
              | refine WPq.thenE ?_
              | refine WPq.blockN ?_
              | refine WPq.blockR ?_
              | refine WPq.blockE ?_
              | refine WPq.blockO rfl ?_
              | refine WPc.seq ?_
              | refine WPc.block ?_
              | refine WPc.ret ?_
              | refine WPc.exit ?_
              | refine WPc.skip ?_
              | refine WPc.region ?_
              | ((show WPc _ _ _ _ _ _ (.cond _ _ _) _; first | refine WPc.cT ?_ | refine WPc.cF ?_ | (refine WPc.cS (fun hc => ?_) (fun hc => ?_) <;> (try simp only [decide_eq_true_eq, decide_eq_false_iff_not, Bool.not_eq_true', Bool.not_eq_false', Bool.and_eq_true, Bool.or_eq_true, Bool.and_eq_false_iff, Bool.or_eq_false_iff, Bool.not_true, Bool.not_false, Int.not_lt, Int.not_le] at hc) <;> (try (exfalso; first | omega | exact clash1 hc (by assumption) | exact clash2 hc (by assumption) | exact hc trivial | exact hc (by assumption) | exact absurd hc (by assumption))))))
              | ((show WPl _ _ _ _ _ _ _ (⟨some 99, .call ⟨.value _, _, _⟩, _, _, _, _⟩ :: _) _; refine WPl.cV (hg) ?_))
              | ((show WPl _ _ _ _ _ _ _ (⟨some 53, .call ⟨.value _, _, _⟩, _, _, _, _⟩ :: _) _; refine WPl.cV (rget_t vb b 4 2 (by omega) (by omega) (by omega)) ?_))
              | ((show WPl _ _ _ _ _ _ _ (⟨some 104, .call ⟨.value _, _, _⟩, _, _, _, _⟩ :: _) _; refine WPl.cV (rget_t vb b 0 2 (by omega) (by omega) (by omega)) ?_))
              | ((show WPl _ _ _ _ _ _ _ (⟨some 107, .call ⟨.value _, _, _⟩, _, _, _, _⟩ :: _) _; refine WPl.cV (rget_t vb b 2 2 (by omega) (by omega) (by omega)) ?_))
              | ((show WPl _ _ _ _ _ _ _ (_ :: _) _; first | refine WPl.rd ?_ | refine WPl.sk ?_ | refine WPl.rdB ?_))
              | ((show WPl _ _ _ _ _ _ _ (⟨_, .alloc _, _, _, _, _⟩ :: _) _; refine WPl.nw fun g => ?_))
              | ((show WPl _ _ _ _ _ _ _ (⟨_, .box _ _, _, _, _, _⟩ :: _) _; refine WPl.nw fun g => ?_))
              | ((show WPl _ _ _ _ _ _ _ (⟨_, .store _ _ _, _, _, _, _⟩ :: _) _; first | refine WPl.st1 ?_ | refine WPl.stA ?_ | refine WPl.stEB ?_ | refine WPl.stRB ?_))
              | ((show WPl _ _ _ _ _ _ _ (_ :: _) _; refine WPl.spl (fun hc => ?_) (fun hc => ?_) <;> (try simp only [decide_eq_true_eq, decide_eq_false_iff_not, Bool.not_eq_true', Bool.not_eq_false', Bool.and_eq_true, Bool.or_eq_true, Bool.and_eq_false_iff, Bool.or_eq_false_iff, Bool.not_true, Bool.not_false, Int.not_lt, Int.not_le] at hc) <;> (try (exfalso; first | omega | exact clash1 hc (by assumption) | exact clash2 hc (by assumption) | exact hc trivial | exact hc (by assumption) | exact absurd hc (by assumption)))))
              | fail)
            all_goals try (first
              | exact WPq.dV
              | exact WPq.dR
              | exact WPq.dR2
              | exact WPq.dH
              | exact WPq.dBH
              | exact WPq.dT)
        | false =>
          obtain ⟨z1, z2⟩ := pz_no hz
          have hE : sgE h b = 0 := by unfold sgE; rw [h0, if_pos he, hz]; rfl
          rw [show gVal h b = .tuple #[ag (sgc ((udpS b).at b)), .int .i64 0] by unfold gVal sgR sg0; rw [hE, if_pos rfl, if_neg h6]]
          rcases f3 with ⟨f3, f4⟩ | ⟨f3, f4⟩
          · rw [show udpS b = ⟨0, 0, 0, 6, true, 8⟩ by unfold udpS; rw [decide_eq_true f3]]
            refine Triple.enter Try.func42 rfl Try.ntmps42 rfl (fun W => ?_)
            dsimp only [argsF, Nat.reduceAdd]
            repeat' (first
              | refine WPl.nil ?_
              | refine WPq.then ?_
              | refine WPq.thenR ?_
              | refine WPq.thenE ?_
              | refine WPq.blockN ?_
              | refine WPq.blockR ?_
              | refine WPq.blockE ?_
              | refine WPq.blockO rfl ?_
              | refine WPc.seq ?_
              | refine WPc.block ?_
              | refine WPc.ret ?_
              | refine WPc.exit ?_
              | refine WPc.skip ?_
              | refine WPc.region ?_
              | ((show WPc _ _ _ _ _ _ (.cond _ _ _) _; first | refine WPc.cT ?_ | refine WPc.cF ?_ | (refine WPc.cS (fun hc => ?_) (fun hc => ?_) <;> (try simp only [decide_eq_true_eq, decide_eq_false_iff_not, Bool.not_eq_true', Bool.not_eq_false', Bool.and_eq_true, Bool.or_eq_true, Bool.and_eq_false_iff, Bool.or_eq_false_iff, Bool.not_true, Bool.not_false, Int.not_lt, Int.not_le] at hc) <;> (try (exfalso; first | omega | exact clash1 hc (by assumption) | exact clash2 hc (by assumption) | exact hc trivial | exact hc (by assumption) | exact absurd hc (by assumption))))))
              | ((show WPl _ _ _ _ _ _ _ (⟨some 58, .binOp .eql _ _ _ _, _, _, _, _⟩ :: _) _; refine WPl.rdX (ReadR.binE rfl rfl BinR.eql (congrArg Value.bool (decide_eq_true (by omega)))) ?_))
              | ((show WPl _ _ _ _ _ _ _ (⟨some 63, .binOp .eql _ _ _ _, _, _, _, _⟩ :: _) _; refine WPl.rdX (ReadR.binE rfl rfl BinR.eql (congrArg Value.bool (decide_eq_true (by omega)))) ?_))
              | ((show WPl _ _ _ _ _ _ _ (⟨some 53, .call ⟨.value _, _, _⟩, _, _, _, _⟩ :: _) _; refine WPl.cV (rget_t vb b 4 2 (by omega) (by omega) (by omega)) ?_))
              | ((show WPl _ _ _ _ _ _ _ (⟨some 104, .call ⟨.value _, _, _⟩, _, _, _, _⟩ :: _) _; refine WPl.cV (rget_t vb b 0 2 (by omega) (by omega) (by omega)) ?_))
              | ((show WPl _ _ _ _ _ _ _ (⟨some 107, .call ⟨.value _, _, _⟩, _, _, _, _⟩ :: _) _; refine WPl.cV (rget_t vb b 2 2 (by omega) (by omega) (by omega)) ?_))
              | ((show WPl _ _ _ _ _ _ _ (_ :: _) _; first | refine WPl.rd ?_ | refine WPl.sk ?_ | refine WPl.rdB ?_))
              | ((show WPl _ _ _ _ _ _ _ (⟨_, .alloc _, _, _, _, _⟩ :: _) _; refine WPl.nw fun g => ?_))
              | ((show WPl _ _ _ _ _ _ _ (⟨_, .box _ _, _, _, _, _⟩ :: _) _; refine WPl.nw fun g => ?_))
              | ((show WPl _ _ _ _ _ _ _ (⟨_, .store _ _ _, _, _, _, _⟩ :: _) _; first | refine WPl.st1 ?_ | refine WPl.stA ?_ | refine WPl.stEB ?_ | refine WPl.stRB ?_))
              | ((show WPl _ _ _ _ _ _ _ (_ :: _) _; refine WPl.spl (fun hc => ?_) (fun hc => ?_) <;> (try simp only [decide_eq_true_eq, decide_eq_false_iff_not, Bool.not_eq_true', Bool.not_eq_false', Bool.and_eq_true, Bool.or_eq_true, Bool.and_eq_false_iff, Bool.or_eq_false_iff, Bool.not_true, Bool.not_false, Int.not_lt, Int.not_le] at hc) <;> (try (exfalso; first | omega | exact clash1 hc (by assumption) | exact clash2 hc (by assumption) | exact hc trivial | exact hc (by assumption) | exact absurd hc (by assumption)))))
              | fail)
            all_goals try (first
              | exact WPq.dV
              | exact WPq.dR
              | exact WPq.dR2
              | exact WPq.dH
              | exact WPq.dBH
              | exact WPq.dT)
          · rw [f4] at hg
            rw [show udpS b = ⟨0, 0, 0, 6, false, 8⟩ by unfold udpS; rw [decide_eq_false f3]]
            by_cases hb6 : byteN b 6 = 0
            · skip
              refine Triple.enter Try.func42 rfl Try.ntmps42 rfl (fun W => ?_)
              dsimp only [argsF, Nat.reduceAdd]
              repeat' (first
                | refine WPl.nil ?_
                | refine WPq.then ?_
                | refine WPq.thenR ?_
                | refine WPq.thenE ?_
                | refine WPq.blockN ?_
                | refine WPq.blockR ?_
                | refine WPq.blockE ?_
                | refine WPq.blockO rfl ?_
                | refine WPc.seq ?_
                | refine WPc.block ?_
                | refine WPc.ret ?_
                | refine WPc.exit ?_
                | refine WPc.skip ?_
                | refine WPc.region ?_
                | ((show WPc _ _ _ _ _ _ (.cond _ _ _) _; first | refine WPc.cT ?_ | refine WPc.cF ?_ | (refine WPc.cS (fun hc => ?_) (fun hc => ?_) <;> (try simp only [decide_eq_true_eq, decide_eq_false_iff_not, Bool.not_eq_true', Bool.not_eq_false', Bool.and_eq_true, Bool.or_eq_true, Bool.and_eq_false_iff, Bool.or_eq_false_iff, Bool.not_true, Bool.not_false, Int.not_lt, Int.not_le] at hc) <;> (try (exfalso; first | omega | exact clash1 hc (by assumption) | exact clash2 hc (by assumption) | exact hc trivial | exact hc (by assumption) | exact absurd hc (by assumption))))))
                | ((show WPl _ _ _ _ _ _ _ (⟨some 58, .binOp .eql _ _ _ _, _, _, _, _⟩ :: _) _; refine WPl.rdX (ReadR.binE rfl rfl BinR.eql (congrArg Value.bool (decide_eq_true (by omega)))) ?_))
                | ((show WPl _ _ _ _ _ _ _ (⟨some 63, .binOp .eql _ _ _ _, _, _, _, _⟩ :: _) _; refine WPl.rdX (ReadR.binE rfl rfl BinR.eql (congrArg Value.bool (decide_eq_false (by omega)))) ?_))
                | ((show WPl _ _ _ _ _ _ _ (⟨some 99, .call ⟨.value _, _, _⟩, _, _, _, _⟩ :: _) _; refine WPl.cV (hg) ?_))
                | ((show WPl _ _ _ _ _ _ _ (⟨some 53, .call ⟨.value _, _, _⟩, _, _, _, _⟩ :: _) _; refine WPl.cV (rget_t vb b 4 2 (by omega) (by omega) (by omega)) ?_))
                | ((show WPl _ _ _ _ _ _ _ (⟨some 104, .call ⟨.value _, _, _⟩, _, _, _, _⟩ :: _) _; refine WPl.cV (rget_t vb b 0 2 (by omega) (by omega) (by omega)) ?_))
                | ((show WPl _ _ _ _ _ _ _ (⟨some 107, .call ⟨.value _, _, _⟩, _, _, _, _⟩ :: _) _; refine WPl.cV (rget_t vb b 2 2 (by omega) (by omega) (by omega)) ?_))
                | ((show WPl _ _ _ _ _ _ _ (_ :: _) _; first | refine WPl.rd ?_ | refine WPl.sk ?_ | refine WPl.rdB ?_))
                | ((show WPl _ _ _ _ _ _ _ (⟨_, .alloc _, _, _, _, _⟩ :: _) _; refine WPl.nw fun g => ?_))
                | ((show WPl _ _ _ _ _ _ _ (⟨_, .box _ _, _, _, _, _⟩ :: _) _; refine WPl.nw fun g => ?_))
                | ((show WPl _ _ _ _ _ _ _ (⟨_, .store _ _ _, _, _, _, _⟩ :: _) _; first | refine WPl.st1 ?_ | refine WPl.stA ?_ | refine WPl.stEB ?_ | refine WPl.stRB ?_))
                | ((show WPl _ _ _ _ _ _ _ (_ :: _) _; refine WPl.spl (fun hc => ?_) (fun hc => ?_) <;> (try simp only [decide_eq_true_eq, decide_eq_false_iff_not, Bool.not_eq_true', Bool.not_eq_false', Bool.and_eq_true, Bool.or_eq_true, Bool.and_eq_false_iff, Bool.or_eq_false_iff, Bool.not_true, Bool.not_false, Int.not_lt, Int.not_le] at hc) <;> (try (exfalso; first | omega | exact clash1 hc (by assumption) | exact clash2 hc (by assumption) | exact hc trivial | exact hc (by assumption) | exact absurd hc (by assumption)))))
                | fail)
              all_goals try (first
                | exact WPq.dV
                | exact WPq.dR
                | exact WPq.dR2
                | exact WPq.dH
                | exact WPq.dBH
                | exact WPq.dT)
            · skip
              refine Triple.enter Try.func42 rfl Try.ntmps42 rfl (fun W => ?_)
              dsimp only [argsF, Nat.reduceAdd]
              repeat' (first
                | refine WPl.nil ?_
                | refine WPq.then ?_
                | refine WPq.thenR ?_
                | refine WPq.thenE ?_
                | refine WPq.blockN ?_
                | refine WPq.blockR ?_
                | refine WPq.blockE ?_
                | refine WPq.blockO rfl ?_
                | refine WPc.seq ?_
                | refine WPc.block ?_
                | refine WPc.ret ?_
                | refine WPc.exit ?_
                | refine WPc.skip ?_
                | refine WPc.region ?_
                | ((show WPc _ _ _ _ _ _ (.cond _ _ _) _; first | refine WPc.cT ?_ | refine WPc.cF ?_ | (refine WPc.cS (fun hc => ?_) (fun hc => ?_) <;> (try simp only [decide_eq_true_eq, decide_eq_false_iff_not, Bool.not_eq_true', Bool.not_eq_false', Bool.and_eq_true, Bool.or_eq_true, Bool.and_eq_false_iff, Bool.or_eq_false_iff, Bool.not_true, Bool.not_false, Int.not_lt, Int.not_le] at hc) <;> (try (exfalso; first | omega | exact clash1 hc (by assumption) | exact clash2 hc (by assumption) | exact hc trivial | exact hc (by assumption) | exact absurd hc (by assumption))))))
                | ((show WPl _ _ _ _ _ _ _ (⟨some 58, .binOp .eql _ _ _ _, _, _, _, _⟩ :: _) _; refine WPl.rdX (ReadR.binE rfl rfl BinR.eql (congrArg Value.bool (decide_eq_false (by omega)))) ?_))
                | ((show WPl _ _ _ _ _ _ _ (⟨some 99, .call ⟨.value _, _, _⟩, _, _, _, _⟩ :: _) _; refine WPl.cV (hg) ?_))
                | ((show WPl _ _ _ _ _ _ _ (⟨some 53, .call ⟨.value _, _, _⟩, _, _, _, _⟩ :: _) _; refine WPl.cV (rget_t vb b 4 2 (by omega) (by omega) (by omega)) ?_))
                | ((show WPl _ _ _ _ _ _ _ (⟨some 104, .call ⟨.value _, _, _⟩, _, _, _, _⟩ :: _) _; refine WPl.cV (rget_t vb b 0 2 (by omega) (by omega) (by omega)) ?_))
                | ((show WPl _ _ _ _ _ _ _ (⟨some 107, .call ⟨.value _, _, _⟩, _, _, _, _⟩ :: _) _; refine WPl.cV (rget_t vb b 2 2 (by omega) (by omega) (by omega)) ?_))
                | ((show WPl _ _ _ _ _ _ _ (_ :: _) _; first | refine WPl.rd ?_ | refine WPl.sk ?_ | refine WPl.rdB ?_))
                | ((show WPl _ _ _ _ _ _ _ (⟨_, .alloc _, _, _, _, _⟩ :: _) _; refine WPl.nw fun g => ?_))
                | ((show WPl _ _ _ _ _ _ _ (⟨_, .box _ _, _, _, _, _⟩ :: _) _; refine WPl.nw fun g => ?_))
                | ((show WPl _ _ _ _ _ _ _ (⟨_, .store _ _ _, _, _, _, _⟩ :: _) _; first | refine WPl.st1 ?_ | refine WPl.stA ?_ | refine WPl.stEB ?_ | refine WPl.stRB ?_))
                | ((show WPl _ _ _ _ _ _ _ (_ :: _) _; refine WPl.spl (fun hc => ?_) (fun hc => ?_) <;> (try simp only [decide_eq_true_eq, decide_eq_false_iff_not, Bool.not_eq_true', Bool.not_eq_false', Bool.and_eq_true, Bool.or_eq_true, Bool.and_eq_false_iff, Bool.or_eq_false_iff, Bool.not_true, Bool.not_false, Int.not_lt, Int.not_le] at hc) <;> (try (exfalso; first | omega | exact clash1 hc (by assumption) | exact clash2 hc (by assumption) | exact hc trivial | exact hc (by assumption) | exact absurd hc (by assumption)))))
                | fail)
              all_goals try (first
                | exact WPq.dV
                | exact WPq.dR
                | exact WPq.dR2
                | exact WPq.dH
                | exact WPq.dBH
                | exact WPq.dT)
      · have hE : sgE h b = udpE h b := by unfold sgE; rw [h0, if_neg he]
        rw [show gVal h b = .tuple #[ag (sgc Sg.none), .int .i64 (udpE h b)] by unfold gVal sgR; rw [hE, if_neg he]]
        cases hsx : h.six with
        | true =>
          cases hsg : sgood h b with
          | true =>
            rw [hsg] at hg
            have hh : udpE h b = (if b.length < 8 then 9 else if val (seg b 4 2) < 8 then 4 else if b.length < val (seg b 4 2) then 9 else if val (seg b 4 2) < b.length then 10 else if val (seg b 6 2) = 0 then 4 else 0) := by unfold udpE; rw [hsg, hsx]; simp
            rw [hh] at he ⊢
            have hne : b.length < 8 ∨ val (seg b 4 2) < 8 ∨ val (seg b 4 2) ≠ b.length ∨ val (seg b 6 2) = 0 := by
              apply Classical.byContradiction
              intro hn
              apply he
              repeat' (first | omega | split)
            refine Triple.enter Try.func42 rfl Try.ntmps42 rfl (fun W => ?_)
            dsimp only [argsF, Nat.reduceAdd]
            repeat' (first
              | refine WPl.nil ?_
              | refine WPq.then ?_
              | refine WPq.thenR ?_
              | refine WPq.thenE ?_
              | refine WPq.blockN ?_
              | refine WPq.blockR ?_
              | refine WPq.blockE ?_
              | refine WPq.blockO rfl ?_
              | refine WPc.seq ?_
              | refine WPc.block ?_
              | refine WPc.ret ?_
              | refine WPc.exit ?_
              | refine WPc.skip ?_
              | refine WPc.region ?_
              | ((show WPc _ _ _ _ _ _ (.cond _ _ _) _; first | refine WPc.cT ?_ | refine WPc.cF ?_ | (refine WPc.cS (fun hc => ?_) (fun hc => ?_) <;> (try simp only [decide_eq_true_eq, decide_eq_false_iff_not, Bool.not_eq_true', Bool.not_eq_false', Bool.and_eq_true, Bool.or_eq_true, Bool.and_eq_false_iff, Bool.or_eq_false_iff, Bool.not_true, Bool.not_false, Int.not_lt, Int.not_le] at hc) <;> (try (exfalso; first | omega | exact clash1 hc (by assumption) | exact clash2 hc (by assumption) | exact hc trivial | exact hc (by assumption) | exact absurd hc (by assumption))))))
              | ((show WPl _ _ _ _ _ _ _ (⟨some 99, .call ⟨.value _, _, _⟩, _, _, _, _⟩ :: _) _; refine WPl.cV (hg) ?_))
              | ((show WPl _ _ _ _ _ _ _ (⟨some 53, .call ⟨.value _, _, _⟩, _, _, _, _⟩ :: _) _; refine WPl.cV (rget_t vb b 4 2 (by omega) (by omega) (by omega)) ?_))
              | ((show WPl _ _ _ _ _ _ _ (_ :: _) _; first | refine WPl.rd ?_ | refine WPl.sk ?_ | refine WPl.rdB ?_))
              | ((show WPl _ _ _ _ _ _ _ (⟨_, .alloc _, _, _, _, _⟩ :: _) _; refine WPl.nw fun g => ?_))
              | ((show WPl _ _ _ _ _ _ _ (⟨_, .box _ _, _, _, _, _⟩ :: _) _; refine WPl.nw fun g => ?_))
              | ((show WPl _ _ _ _ _ _ _ (⟨_, .store _ _ _, _, _, _, _⟩ :: _) _; first | refine WPl.st1 ?_ | refine WPl.stA ?_ | refine WPl.stEB ?_ | refine WPl.stRB ?_))
              | ((show WPl _ _ _ _ _ _ _ (_ :: _) _; refine WPl.spl (fun hc => ?_) (fun hc => ?_) <;> (try simp only [decide_eq_true_eq, decide_eq_false_iff_not, Bool.not_eq_true', Bool.not_eq_false', Bool.and_eq_true, Bool.or_eq_true, Bool.and_eq_false_iff, Bool.or_eq_false_iff, Bool.not_true, Bool.not_false, Int.not_lt, Int.not_le] at hc) <;> (try (exfalso; first | omega | exact clash1 hc (by assumption) | exact clash2 hc (by assumption) | exact hc trivial | exact hc (by assumption) | exact absurd hc (by assumption)))))
              | fail)
            all_goals
              refine WPq.dV (hc := ?_)
              show Value.tuple #[_, Value.int .i64 _] = Value.tuple #[_, Value.int .i64 _]
              congr 5
              repeat' (first | omega | split)
          | false =>
            rw [hsg] at hg
            have hh : udpE h b = (if b.length < 8 then 9 else if val (seg b 4 2) < 8 then 4 else if b.length < val (seg b 4 2) then 9 else if val (seg b 4 2) < b.length then 10 else if val (seg b 6 2) = 0 then 4 else 5) := by unfold udpE; rw [hsg, hsx]; by_cases hz : val (seg b 6 2) = 0 <;> simp [hz]
            rw [hh]
            refine Triple.enter Try.func42 rfl Try.ntmps42 rfl (fun W => ?_)
            dsimp only [argsF, Nat.reduceAdd]
            repeat' (first
              | refine WPl.nil ?_
              | refine WPq.then ?_
              | refine WPq.thenR ?_
              | refine WPq.thenE ?_
              | refine WPq.blockN ?_
              | refine WPq.blockR ?_
              | refine WPq.blockE ?_
              | refine WPq.blockO rfl ?_
              | refine WPc.seq ?_
              | refine WPc.block ?_
              | refine WPc.ret ?_
              | refine WPc.exit ?_
              | refine WPc.skip ?_
              | refine WPc.region ?_
              | ((show WPc _ _ _ _ _ _ (.cond _ _ _) _; first | refine WPc.cT ?_ | refine WPc.cF ?_ | (refine WPc.cS (fun hc => ?_) (fun hc => ?_) <;> (try simp only [decide_eq_true_eq, decide_eq_false_iff_not, Bool.not_eq_true', Bool.not_eq_false', Bool.and_eq_true, Bool.or_eq_true, Bool.and_eq_false_iff, Bool.or_eq_false_iff, Bool.not_true, Bool.not_false, Int.not_lt, Int.not_le] at hc) <;> (try (exfalso; first | omega | exact clash1 hc (by assumption) | exact clash2 hc (by assumption) | exact hc trivial | exact hc (by assumption) | exact absurd hc (by assumption))))))
              | ((show WPl _ _ _ _ _ _ _ (⟨some 99, .call ⟨.value _, _, _⟩, _, _, _, _⟩ :: _) _; refine WPl.cV (hg) ?_))
              | ((show WPl _ _ _ _ _ _ _ (⟨some 53, .call ⟨.value _, _, _⟩, _, _, _, _⟩ :: _) _; refine WPl.cV (rget_t vb b 4 2 (by omega) (by omega) (by omega)) ?_))
              | ((show WPl _ _ _ _ _ _ _ (_ :: _) _; first | refine WPl.rd ?_ | refine WPl.sk ?_ | refine WPl.rdB ?_))
              | ((show WPl _ _ _ _ _ _ _ (⟨_, .alloc _, _, _, _, _⟩ :: _) _; refine WPl.nw fun g => ?_))
              | ((show WPl _ _ _ _ _ _ _ (⟨_, .box _ _, _, _, _, _⟩ :: _) _; refine WPl.nw fun g => ?_))
              | ((show WPl _ _ _ _ _ _ _ (⟨_, .store _ _ _, _, _, _, _⟩ :: _) _; first | refine WPl.st1 ?_ | refine WPl.stA ?_ | refine WPl.stEB ?_ | refine WPl.stRB ?_))
              | ((show WPl _ _ _ _ _ _ _ (_ :: _) _; refine WPl.spl (fun hc => ?_) (fun hc => ?_) <;> (try simp only [decide_eq_true_eq, decide_eq_false_iff_not, Bool.not_eq_true', Bool.not_eq_false', Bool.and_eq_true, Bool.or_eq_true, Bool.and_eq_false_iff, Bool.or_eq_false_iff, Bool.not_true, Bool.not_false, Int.not_lt, Int.not_le] at hc) <;> (try (exfalso; first | omega | exact clash1 hc (by assumption) | exact clash2 hc (by assumption) | exact hc trivial | exact hc (by assumption) | exact absurd hc (by assumption)))))
              | fail)
            all_goals
              refine WPq.dV (hc := ?_)
              show Value.tuple #[_, Value.int .i64 _] = Value.tuple #[_, Value.int .i64 _]
              congr 5
              repeat' (first | omega | split)
        | false =>
          cases hsg : sgood h b with
          | true =>
            rw [hsg] at hg
            have hh : udpE h b = (if b.length < 8 then 9 else if val (seg b 4 2) < 8 then 4 else if b.length < val (seg b 4 2) then 9 else if val (seg b 4 2) < b.length then 10 else 0) := by unfold udpE; rw [hsg, hsx]; simp
            rw [hh] at he ⊢
            have hne : b.length < 8 ∨ val (seg b 4 2) < 8 ∨ val (seg b 4 2) ≠ b.length := by
              apply Classical.byContradiction
              intro hn
              apply he
              repeat' (first | omega | split)
            refine Triple.enter Try.func42 rfl Try.ntmps42 rfl (fun W => ?_)
            dsimp only [argsF, Nat.reduceAdd]
            repeat' (first
              | refine WPl.nil ?_
              | refine WPq.then ?_
              | refine WPq.thenR ?_
              | refine WPq.thenE ?_
              | refine WPq.blockN ?_
              | refine WPq.blockR ?_
              | refine WPq.blockE ?_
              | refine WPq.blockO rfl ?_
              | refine WPc.seq ?_
              | refine WPc.block ?_
              | refine WPc.ret ?_
              | refine WPc.exit ?_
              | refine WPc.skip ?_
              | refine WPc.region ?_
              | ((show WPc _ _ _ _ _ _ (.cond _ _ _) _; first | refine WPc.cT ?_ | refine WPc.cF ?_ | (refine WPc.cS (fun hc => ?_) (fun hc => ?_) <;> (try simp only [decide_eq_true_eq, decide_eq_false_iff_not, Bool.not_eq_true', Bool.not_eq_false', Bool.and_eq_true, Bool.or_eq_true, Bool.and_eq_false_iff, Bool.or_eq_false_iff, Bool.not_true, Bool.not_false, Int.not_lt, Int.not_le] at hc) <;> (try (exfalso; first | omega | exact clash1 hc (by assumption) | exact clash2 hc (by assumption) | exact hc trivial | exact hc (by assumption) | exact absurd hc (by assumption))))))
              | ((show WPl _ _ _ _ _ _ _ (⟨some 99, .call ⟨.value _, _, _⟩, _, _, _, _⟩ :: _) _; refine WPl.cV (hg) ?_))
              | ((show WPl _ _ _ _ _ _ _ (⟨some 53, .call ⟨.value _, _, _⟩, _, _, _, _⟩ :: _) _; refine WPl.cV (rget_t vb b 4 2 (by omega) (by omega) (by omega)) ?_))
              | ((show WPl _ _ _ _ _ _ _ (_ :: _) _; first | refine WPl.rd ?_ | refine WPl.sk ?_ | refine WPl.rdB ?_))
              | ((show WPl _ _ _ _ _ _ _ (⟨_, .alloc _, _, _, _, _⟩ :: _) _; refine WPl.nw fun g => ?_))
              | ((show WPl _ _ _ _ _ _ _ (⟨_, .box _ _, _, _, _, _⟩ :: _) _; refine WPl.nw fun g => ?_))
              | ((show WPl _ _ _ _ _ _ _ (⟨_, .store _ _ _, _, _, _, _⟩ :: _) _; first | refine WPl.st1 ?_ | refine WPl.stA ?_ | refine WPl.stEB ?_ | refine WPl.stRB ?_))
              | ((show WPl _ _ _ _ _ _ _ (_ :: _) _; refine WPl.spl (fun hc => ?_) (fun hc => ?_) <;> (try simp only [decide_eq_true_eq, decide_eq_false_iff_not, Bool.not_eq_true', Bool.not_eq_false', Bool.and_eq_true, Bool.or_eq_true, Bool.and_eq_false_iff, Bool.or_eq_false_iff, Bool.not_true, Bool.not_false, Int.not_lt, Int.not_le] at hc) <;> (try (exfalso; first | omega | exact clash1 hc (by assumption) | exact clash2 hc (by assumption) | exact hc trivial | exact hc (by assumption) | exact absurd hc (by assumption)))))
              | fail)
            all_goals
              refine WPq.dV (hc := ?_)
              show Value.tuple #[_, Value.int .i64 _] = Value.tuple #[_, Value.int .i64 _]
              congr 5
              repeat' (first | omega | split)
          | false =>
            rw [hsg] at hg
            have hh : udpE h b = (if b.length < 8 then 9 else if val (seg b 4 2) < 8 then 4 else if b.length < val (seg b 4 2) then 9 else if val (seg b 4 2) < b.length then 10 else if ¬ val (seg b 6 2) = 0 then 5 else 0) := by unfold udpE; rw [hsg, hsx]; simp
            rw [hh] at he ⊢
            have hne : b.length < 8 ∨ val (seg b 4 2) < 8 ∨ val (seg b 4 2) ≠ b.length ∨ ¬ val (seg b 6 2) = 0 := by
              apply Classical.byContradiction
              intro hn
              apply he
              repeat' (first | omega | split)
            refine Triple.enter Try.func42 rfl Try.ntmps42 rfl (fun W => ?_)
            dsimp only [argsF, Nat.reduceAdd]
            repeat' (first
              | refine WPl.nil ?_
              | refine WPq.then ?_
              | refine WPq.thenR ?_
              | refine WPq.thenE ?_
              | refine WPq.blockN ?_
              | refine WPq.blockR ?_
              | refine WPq.blockE ?_
              | refine WPq.blockO rfl ?_
              | refine WPc.seq ?_
              | refine WPc.block ?_
              | refine WPc.ret ?_
              | refine WPc.exit ?_
              | refine WPc.skip ?_
              | refine WPc.region ?_
              | ((show WPc _ _ _ _ _ _ (.cond _ _ _) _; first | refine WPc.cT ?_ | refine WPc.cF ?_ | (refine WPc.cS (fun hc => ?_) (fun hc => ?_) <;> (try simp only [decide_eq_true_eq, decide_eq_false_iff_not, Bool.not_eq_true', Bool.not_eq_false', Bool.and_eq_true, Bool.or_eq_true, Bool.and_eq_false_iff, Bool.or_eq_false_iff, Bool.not_true, Bool.not_false, Int.not_lt, Int.not_le] at hc) <;> (try (exfalso; first | omega | exact clash1 hc (by assumption) | exact clash2 hc (by assumption) | exact hc trivial | exact hc (by assumption) | exact absurd hc (by assumption))))))
              | ((show WPl _ _ _ _ _ _ _ (⟨some 99, .call ⟨.value _, _, _⟩, _, _, _, _⟩ :: _) _; refine WPl.cV (hg) ?_))
              | ((show WPl _ _ _ _ _ _ _ (⟨some 53, .call ⟨.value _, _, _⟩, _, _, _, _⟩ :: _) _; refine WPl.cV (rget_t vb b 4 2 (by omega) (by omega) (by omega)) ?_))
              | ((show WPl _ _ _ _ _ _ _ (_ :: _) _; first | refine WPl.rd ?_ | refine WPl.sk ?_ | refine WPl.rdB ?_))
              | ((show WPl _ _ _ _ _ _ _ (⟨_, .alloc _, _, _, _, _⟩ :: _) _; refine WPl.nw fun g => ?_))
              | ((show WPl _ _ _ _ _ _ _ (⟨_, .box _ _, _, _, _, _⟩ :: _) _; refine WPl.nw fun g => ?_))
              | ((show WPl _ _ _ _ _ _ _ (⟨_, .store _ _ _, _, _, _, _⟩ :: _) _; first | refine WPl.st1 ?_ | refine WPl.stA ?_ | refine WPl.stEB ?_ | refine WPl.stRB ?_))
              | ((show WPl _ _ _ _ _ _ _ (_ :: _) _; refine WPl.spl (fun hc => ?_) (fun hc => ?_) <;> (try simp only [decide_eq_true_eq, decide_eq_false_iff_not, Bool.not_eq_true', Bool.not_eq_false', Bool.and_eq_true, Bool.or_eq_true, Bool.and_eq_false_iff, Bool.or_eq_false_iff, Bool.not_true, Bool.not_false, Int.not_lt, Int.not_le] at hc) <;> (try (exfalso; first | omega | exact clash1 hc (by assumption) | exact clash2 hc (by assumption) | exact hc trivial | exact hc (by assumption) | exact absurd hc (by assumption)))))
              | fail)
            all_goals
              refine WPq.dV (hc := ?_)
              show Value.tuple #[_, Value.int .i64 _] = Value.tuple #[_, Value.int .i64 _]
              congr 5
              repeat' (first | omega | split)
    · have h0 : sgE0 h b = 6 := by unfold sgE0; rw [if_neg h6, if_neg h17]
      have hE : sgE h b = 6 := by unfold sgE; rw [h0, if_neg (by omega)]
      rw [show gVal h b = .tuple #[ag (sgc Sg.none), .int .i64 6] by unfold gVal sgR; rw [hE, if_neg (by omega)]]
      refine Triple.enter Try.func42 rfl Try.ntmps42 rfl (fun W => ?_)
      dsimp only [argsF, Nat.reduceAdd]
      repeat' (first
        | refine WPl.nil ?_
        | refine WPq.then ?_
        | refine WPq.thenR ?_
        | refine WPq.thenE ?_
        | refine WPq.blockN ?_
        | refine WPq.blockR ?_
        | refine WPq.blockE ?_
        | refine WPq.blockO rfl ?_
        | refine WPc.seq ?_
        | refine WPc.block ?_
        | refine WPc.ret ?_
        | refine WPc.exit ?_
        | refine WPc.skip ?_
        | refine WPc.region ?_
        | ((show WPc _ _ _ _ _ _ (.cond _ _ _) _; first | refine WPc.cT ?_ | refine WPc.cF ?_ | (refine WPc.cS (fun hc => ?_) (fun hc => ?_) <;> (try simp only [decide_eq_true_eq, decide_eq_false_iff_not, Bool.not_eq_true', Bool.not_eq_false', Bool.and_eq_true, Bool.or_eq_true, Bool.and_eq_false_iff, Bool.or_eq_false_iff, Bool.not_true, Bool.not_false, Int.not_lt, Int.not_le] at hc) <;> (try (exfalso; first | omega | exact clash1 hc (by assumption) | exact clash2 hc (by assumption) | exact hc trivial | exact hc (by assumption) | exact absurd hc (by assumption))))))
        | ((show WPl _ _ _ _ _ _ _ (_ :: _) _; first | refine WPl.rd ?_ | refine WPl.sk ?_ | refine WPl.rdB ?_))
        | ((show WPl _ _ _ _ _ _ _ (⟨_, .alloc _, _, _, _, _⟩ :: _) _; refine WPl.nw fun g => ?_))
        | ((show WPl _ _ _ _ _ _ _ (⟨_, .box _ _, _, _, _, _⟩ :: _) _; refine WPl.nw fun g => ?_))
        | ((show WPl _ _ _ _ _ _ _ (⟨_, .store _ _ _, _, _, _, _⟩ :: _) _; first | refine WPl.st1 ?_ | refine WPl.stA ?_ | refine WPl.stEB ?_ | refine WPl.stRB ?_))
        | ((show WPl _ _ _ _ _ _ _ (_ :: _) _; refine WPl.spl (fun hc => ?_) (fun hc => ?_) <;> (try simp only [decide_eq_true_eq, decide_eq_false_iff_not, Bool.not_eq_true', Bool.not_eq_false', Bool.and_eq_true, Bool.or_eq_true, Bool.and_eq_false_iff, Bool.or_eq_false_iff, Bool.not_true, Bool.not_false, Int.not_lt, Int.not_le] at hc) <;> (try (exfalso; first | omega | exact clash1 hc (by assumption) | exact clash2 hc (by assumption) | exact hc trivial | exact hc (by assumption) | exact absurd hc (by assumption)))))
        | fail)
      all_goals try (first
        | exact WPq.dV
        | exact WPq.dR
        | exact WPq.dR2
        | exact WPq.dH
        | exact WPq.dBH
        | exact WPq.dT)
end Go.Proofs.Yteofjhjhaaafjaa
