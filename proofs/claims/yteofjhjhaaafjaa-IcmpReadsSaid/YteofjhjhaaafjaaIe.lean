/- Layer 36 (icmp): the reference's reading: contracts. -/
import Derived.Test.YteofjhjhaaafjaaId
import Derived.Test.YteofjhjhaaafjaaIy
namespace Go.Proofs.Yteofjhjhaaafjaa
open Go.RowKit
set_option linter.unusedSimpArgs false
set_option linter.unusedVariables false
set_option maxRecDepth 20000
set_option maxHeartbeats 400000
attribute [local irreducible] WPc WPl WPq ReadR OpT BinR HasS bx rdN rowN Take Takes Prov Triple ResF BuildP Done ag Int.decLt Int.decLe Int.instDecidableEq

theorem phH_none {b : List UInt8} (h : ¬ phE b = 0) : phH b = Hd.none := by
  unfold phE at h
  unfold phH
  by_cases h0 : b.length = 0
  · rw [if_pos h0]
  · rw [if_neg h0] at h ⊢
    by_cases h4 : byteN b 0 / 16 = 4
    · rw [if_pos h4] at h ⊢
      unfold fread; rw [if_neg h]
    · rw [if_neg h4] at h ⊢
      by_cases h6 : byteN b 0 / 16 = 6
      · rw [if_pos h6] at h ⊢
        unfold xread; rw [if_neg h]
      · rw [if_neg h6]
attribute [local irreducible] xread xerr fread ferr psu phH phE
def rhH (b : List UInt8) : Hd := if ihE b = 0 then phH b else Hd.none
theorem rhead_t (v : Value) (b : List UInt8) (hl : b.length ≤ 100000) : Triple Try.prog 114 #[v] [rb v b] (RVal (.tuple #[ag (hdc (rhH b)), .int .i64 (ihE b)])) := by
  have hb0 := byteN_lt b 0
  have u0 : byteN b 0 = (b.getD 0 0).toNat := rfl
  have c4 := rf_t v b (by omega)
  have c6 := rx_t v b hl
  have hdiv : (((b.getD 0 0).toNat : Nat) : Int) / 16 = ((byteN b 0 / 16 : Nat) : Int) := by rw [u0]; omega
  have hnone := phH_none (b := b)
  by_cases h0 : b.length = 0
  · have hE : ihE b = 9 := by unfold ihE phE; rw [if_pos h0, if_neg (by omega)]
    rw [show rhH b = Hd.none by unfold rhH; rw [hE, if_neg (by omega)], hE]
    refine Triple.enter Try.func114 rfl Try.ntmps114 rfl (fun W => ?_)
    dsimp only [argsF, Nat.reduceAdd]
    repeat' (first
     | refine WPl.nil ?_ | refine WPq.then ?_ | refine WPq.thenR ?_ | refine WPq.thenE ?_ | refine WPq.blockN ?_ | refine WPq.blockR ?_ | refine WPq.blockE ?_ | refine WPq.blockO rfl ?_ | refine WPc.seq ?_ | refine WPc.block ?_ | refine WPc.ret ?_ | refine WPc.exit ?_ | refine WPc.skip ?_ | refine WPc.region ?_
     | (refine isCond ?_; first | refine WPc.cT ?_ | refine WPc.cF ?_ | (refine WPc.cQ (fun hc => ?_) (fun hc => ?_) <;> try exact prA))
     | (refine isOp ?_; first | refine WPl.rd ?_ | refine WPl.sk ?_ | refine WPl.rdB ?_)
     | (refine isAl ?_; refine WPl.nw fun g => ?_)
     | (refine isSt ?_; first | refine WPl.st1 ?_ | refine WPl.stA ?_ | refine WPl.stEB ?_ | refine WPl.stRB ?_)
     | (refine WPl.spQ (fun hc => ?_) (fun hc => ?_) <;> try exact prA)
     | fail)
    all_goals try (first | exact WPq.dV | exact WPq.dR | exact WPq.dR2 | exact WPq.dH | exact WPq.dBH | exact WPq.dT)
  · by_cases h4 : byteN b 0 / 16 = 4
    · have e1 : phE b = ferr b := by unfold phE; rw [if_neg h0, if_pos h4]
      have e2 : phH b = fread b := by unfold phH; rw [if_neg h0, if_pos h4]
      have hE : ihE b = if phE b = 0 then (if (phH b).part then 13 else 0) else phE b := rfl
      unfold rhH
      rw [hE]
      simp only [fVal] at c4
      rw [← e1, ← e2] at c4
      clear hE c6 e1 e2
      obtain ⟨X, hX⟩ : ∃ X, X = phH b := ⟨_, rfl⟩
      obtain ⟨c, hc⟩ : ∃ c, c = phE b := ⟨_, rfl⟩
      rw [← hX, ← hc] at c4 hnone ⊢
      clear hX hc
      have k1 := X.src.len
      have k2 := X.dst.len
      by_cases hc0 : c = 0
      · subst hc0
        obtain ⟨six, pr, pos, a1, a2, pt, hp⟩ := X
        cases pt with
        | true =>
          rw [show (if (if (0 : Int) = 0 then (if true = true then (13 : Int) else 0) else 0) = 0 then (⟨six, pr, pos, a1, a2, true, hp⟩ : Hd) else Hd.none) = Hd.none by simp, if_pos rfl, if_pos rfl]
          refine Triple.enter Try.func114 rfl Try.ntmps114 rfl (fun W => ?_)
          dsimp only [argsF, Nat.reduceAdd]
          repeat' (first
           | refine WPl.nil ?_ | refine WPq.then ?_ | refine WPq.thenR ?_ | refine WPq.thenE ?_ | refine WPq.blockN ?_ | refine WPq.blockR ?_ | refine WPq.blockE ?_ | refine WPq.blockO rfl ?_ | refine WPc.seq ?_ | refine WPc.block ?_ | refine WPc.ret ?_ | refine WPc.exit ?_ | refine WPc.skip ?_ | refine WPc.region ?_
           | (refine isCond ?_; first | refine WPc.cT ?_ | refine WPc.cF ?_ | (refine WPc.cQ (fun hc => ?_) (fun hc => ?_) <;> try exact prA))
           | (refine isC 25 ?_; refine WPl.cV (c4) ?_)
           | (refine isOp ?_; first | refine WPl.rd ?_ | refine WPl.sk ?_ | refine WPl.rdB ?_)
           | (refine isAl ?_; refine WPl.nw fun g => ?_)
           | (refine isSt ?_; first | refine WPl.st1 ?_ | refine WPl.stA ?_ | refine WPl.stEB ?_ | refine WPl.stRB ?_)
           | (refine WPl.spQ (fun hc => ?_) (fun hc => ?_) <;> try exact prA)
           | fail)
          all_goals try (first | exact WPq.dV | exact WPq.dR | exact WPq.dR2 | exact WPq.dH | exact WPq.dBH | exact WPq.dT)
        | false =>
          rw [show (if (if (0 : Int) = 0 then (if false = true then (13 : Int) else 0) else 0) = 0 then (⟨six, pr, pos, a1, a2, false, hp⟩ : Hd) else Hd.none) = ⟨six, pr, pos, a1, a2, false, hp⟩ by simp, if_pos rfl, if_neg (by simp)]
          refine Triple.enter Try.func114 rfl Try.ntmps114 rfl (fun W => ?_)
          dsimp only [argsF, Nat.reduceAdd]
          repeat' (first
           | refine WPl.nil ?_ | refine WPq.then ?_ | refine WPq.thenR ?_ | refine WPq.thenE ?_ | refine WPq.blockN ?_ | refine WPq.blockR ?_ | refine WPq.blockE ?_ | refine WPq.blockO rfl ?_ | refine WPc.seq ?_ | refine WPc.block ?_ | refine WPc.ret ?_ | refine WPc.exit ?_ | refine WPc.skip ?_ | refine WPc.region ?_
           | (refine isCond ?_; first | refine WPc.cT ?_ | refine WPc.cF ?_ | (refine WPc.cQ (fun hc => ?_) (fun hc => ?_) <;> try exact prA))
           | (refine isC 25 ?_; refine WPl.cV (c4) ?_)
           | (refine isOp ?_; first | refine WPl.rd ?_ | refine WPl.sk ?_ | refine WPl.rdB ?_)
           | (refine isAl ?_; refine WPl.nw fun g => ?_)
           | (refine isSt ?_; first | refine WPl.st1 ?_ | refine WPl.stA ?_ | refine WPl.stEB ?_ | refine WPl.stRB ?_)
           | (refine WPl.spQ (fun hc => ?_) (fun hc => ?_) <;> try exact prA)
           | fail)
          all_goals try (first | exact WPq.dV | exact WPq.dR | exact WPq.dR2 | exact WPq.dH | exact WPq.dBH | exact WPq.dT)
      · rw [if_neg hc0, if_neg hc0]
        have hx := hnone hc0
        subst hx
        refine Triple.enter Try.func114 rfl Try.ntmps114 rfl (fun W => ?_)
        dsimp only [argsF, Nat.reduceAdd]
        repeat' (first
         | refine WPl.nil ?_ | refine WPq.then ?_ | refine WPq.thenR ?_ | refine WPq.thenE ?_ | refine WPq.blockN ?_ | refine WPq.blockR ?_ | refine WPq.blockE ?_ | refine WPq.blockO rfl ?_ | refine WPc.seq ?_ | refine WPc.block ?_ | refine WPc.ret ?_ | refine WPc.exit ?_ | refine WPc.skip ?_ | refine WPc.region ?_
         | (refine isCond ?_; first | refine WPc.cT ?_ | refine WPc.cF ?_ | (refine WPc.cQ (fun hc => ?_) (fun hc => ?_) <;> try exact prA))
         | (refine isC 25 ?_; refine WPl.cV (c4) ?_)
         | (refine isOp ?_; first | refine WPl.rd ?_ | refine WPl.sk ?_ | refine WPl.rdB ?_)
         | (refine isAl ?_; refine WPl.nw fun g => ?_)
         | (refine isSt ?_; first | refine WPl.st1 ?_ | refine WPl.stA ?_ | refine WPl.stEB ?_ | refine WPl.stRB ?_)
         | (refine WPl.spQ (fun hc => ?_) (fun hc => ?_) <;> try exact prA)
         | fail)
        all_goals try (first | exact WPq.dV | exact WPq.dR | exact WPq.dR2 | exact WPq.dH | exact WPq.dBH | exact WPq.dT)
    · by_cases h6 : byteN b 0 / 16 = 6
      · have e1 : phE b = xerr b := by unfold phE; rw [if_neg h0, if_neg h4, if_pos h6]
        have e2 : phH b = xread b := by unfold phH; rw [if_neg h0, if_neg h4, if_pos h6]
        have hE : ihE b = if phE b = 0 then (if (phH b).part then 13 else 0) else phE b := rfl
        unfold rhH
        rw [hE]
        simp only [sVal] at c6
        simp only [fVal] at c4
        generalize fread b = X0 at c4
        generalize ferr b = e0 at c4
        have k01 := X0.src.len
        have k02 := X0.dst.len
        rw [← e1, ← e2] at c6
        clear hE e1 e2
        obtain ⟨X, hX⟩ : ∃ X, X = phH b := ⟨_, rfl⟩
        obtain ⟨c, hc⟩ : ∃ c, c = phE b := ⟨_, rfl⟩
        rw [← hX, ← hc] at c6 hnone ⊢
        clear hX hc
        have k1 := X.src.len
        have k2 := X.dst.len
        by_cases hc0 : c = 0
        · subst hc0
          obtain ⟨six, pr, pos, a1, a2, pt, hp⟩ := X
          cases pt with
          | true =>
            rw [show (if (if (0 : Int) = 0 then (if true = true then (13 : Int) else 0) else 0) = 0 then (⟨six, pr, pos, a1, a2, true, hp⟩ : Hd) else Hd.none) = Hd.none by simp, if_pos rfl, if_pos rfl]
            refine Triple.enter Try.func114 rfl Try.ntmps114 rfl (fun W => ?_)
            dsimp only [argsF, Nat.reduceAdd]
            repeat' (first
             | refine WPl.nil ?_ | refine WPq.then ?_ | refine WPq.thenR ?_ | refine WPq.thenE ?_ | refine WPq.blockN ?_ | refine WPq.blockR ?_ | refine WPq.blockE ?_ | refine WPq.blockO rfl ?_ | refine WPc.seq ?_ | refine WPc.block ?_ | refine WPc.ret ?_ | refine WPc.exit ?_ | refine WPc.skip ?_ | refine WPc.region ?_
             | (refine isCond ?_; first | refine WPc.cT ?_ | refine WPc.cF ?_ | (refine WPc.cQ (fun hc => ?_) (fun hc => ?_) <;> try exact prA))
             | (refine isC 25 ?_; refine WPl.cV (c4) ?_)
             | (refine isC 35 ?_; refine WPl.cV (c6) ?_)
             | (refine isOp ?_; first | refine WPl.rd ?_ | refine WPl.sk ?_ | refine WPl.rdB ?_)
             | (refine isAl ?_; refine WPl.nw fun g => ?_)
             | (refine isSt ?_; first | refine WPl.st1 ?_ | refine WPl.stA ?_ | refine WPl.stEB ?_ | refine WPl.stRB ?_)
             | (refine WPl.spQ (fun hc => ?_) (fun hc => ?_) <;> try exact prA)
             | fail)
            all_goals try (first | exact WPq.dV | exact WPq.dR | exact WPq.dR2 | exact WPq.dH | exact WPq.dBH | exact WPq.dT)
          | false =>
            rw [show (if (if (0 : Int) = 0 then (if false = true then (13 : Int) else 0) else 0) = 0 then (⟨six, pr, pos, a1, a2, false, hp⟩ : Hd) else Hd.none) = ⟨six, pr, pos, a1, a2, false, hp⟩ by simp, if_pos rfl, if_neg (by simp)]
            refine Triple.enter Try.func114 rfl Try.ntmps114 rfl (fun W => ?_)
            dsimp only [argsF, Nat.reduceAdd]
            repeat' (first
             | refine WPl.nil ?_ | refine WPq.then ?_ | refine WPq.thenR ?_ | refine WPq.thenE ?_ | refine WPq.blockN ?_ | refine WPq.blockR ?_ | refine WPq.blockE ?_ | refine WPq.blockO rfl ?_ | refine WPc.seq ?_ | refine WPc.block ?_ | refine WPc.ret ?_ | refine WPc.exit ?_ | refine WPc.skip ?_ | refine WPc.region ?_
             | (refine isCond ?_; first | refine WPc.cT ?_ | refine WPc.cF ?_ | (refine WPc.cQ (fun hc => ?_) (fun hc => ?_) <;> try exact prA))
             | (refine isC 25 ?_; refine WPl.cV (c4) ?_)
             | (refine isC 35 ?_; refine WPl.cV (c6) ?_)
             | (refine isOp ?_; first | refine WPl.rd ?_ | refine WPl.sk ?_ | refine WPl.rdB ?_)
             | (refine isAl ?_; refine WPl.nw fun g => ?_)
             | (refine isSt ?_; first | refine WPl.st1 ?_ | refine WPl.stA ?_ | refine WPl.stEB ?_ | refine WPl.stRB ?_)
             | (refine WPl.spQ (fun hc => ?_) (fun hc => ?_) <;> try exact prA)
             | fail)
            all_goals try (first | exact WPq.dV | exact WPq.dR | exact WPq.dR2 | exact WPq.dH | exact WPq.dBH | exact WPq.dT)
        · rw [if_neg hc0, if_neg hc0]
          have hx := hnone hc0
          subst hx
          refine Triple.enter Try.func114 rfl Try.ntmps114 rfl (fun W => ?_)
          dsimp only [argsF, Nat.reduceAdd]
          repeat' (first
           | refine WPl.nil ?_ | refine WPq.then ?_ | refine WPq.thenR ?_ | refine WPq.thenE ?_ | refine WPq.blockN ?_ | refine WPq.blockR ?_ | refine WPq.blockE ?_ | refine WPq.blockO rfl ?_ | refine WPc.seq ?_ | refine WPc.block ?_ | refine WPc.ret ?_ | refine WPc.exit ?_ | refine WPc.skip ?_ | refine WPc.region ?_
           | (refine isCond ?_; first | refine WPc.cT ?_ | refine WPc.cF ?_ | (refine WPc.cQ (fun hc => ?_) (fun hc => ?_) <;> try exact prA))
           | (refine isC 25 ?_; refine WPl.cV (c4) ?_)
           | (refine isC 35 ?_; refine WPl.cV (c6) ?_)
           | (refine isOp ?_; first | refine WPl.rd ?_ | refine WPl.sk ?_ | refine WPl.rdB ?_)
           | (refine isAl ?_; refine WPl.nw fun g => ?_)
           | (refine isSt ?_; first | refine WPl.st1 ?_ | refine WPl.stA ?_ | refine WPl.stEB ?_ | refine WPl.stRB ?_)
           | (refine WPl.spQ (fun hc => ?_) (fun hc => ?_) <;> try exact prA)
           | fail)
          all_goals try (first | exact WPq.dV | exact WPq.dR | exact WPq.dR2 | exact WPq.dH | exact WPq.dBH | exact WPq.dT)
      · have hE : ihE b = 12 := by unfold ihE phE; rw [if_neg h0, if_neg h4, if_neg h6, if_neg (by omega)]
        rw [show rhH b = Hd.none by unfold rhH; rw [hE, if_neg (by omega)], hE]
        refine Triple.enter Try.func114 rfl Try.ntmps114 rfl (fun W => ?_)
        dsimp only [argsF, Nat.reduceAdd]
        repeat' (first
         | refine WPl.nil ?_ | refine WPq.then ?_ | refine WPq.thenR ?_ | refine WPq.thenE ?_ | refine WPq.blockN ?_ | refine WPq.blockR ?_ | refine WPq.blockE ?_ | refine WPq.blockO rfl ?_ | refine WPc.seq ?_ | refine WPc.block ?_ | refine WPc.ret ?_ | refine WPc.exit ?_ | refine WPc.skip ?_ | refine WPc.region ?_
         | (refine isCond ?_; first | refine WPc.cT ?_ | refine WPc.cF ?_ | (refine WPc.cQ (fun hc => ?_) (fun hc => ?_) <;> try exact prA))
         | (refine isOp ?_; first | refine WPl.rd ?_ | refine WPl.sk ?_ | refine WPl.rdB ?_)
         | (refine isAl ?_; refine WPl.nw fun g => ?_)
         | (refine isSt ?_; first | refine WPl.st1 ?_ | refine WPl.stA ?_ | refine WPl.stEB ?_ | refine WPl.stRB ?_)
         | (refine WPl.spQ (fun hc => ?_) (fun hc => ?_) <;> try exact prA)
         | fail)
        all_goals try (first | exact WPq.dV | exact WPq.dR | exact WPq.dR2 | exact WPq.dH | exact WPq.dBH | exact WPq.dT)
def ipN (h : Hd) : Nat := if h.six then 58 else 1
theorem rproto_t (h : Hd) : Triple Try.prog 115 #[ag (hdc h)] [] (RVal (.int .u8 (ipN h : Nat))) := by
  have l1 := h.src.len
  have l2 := h.dst.len
  cases hs : h.six with
  | true =>
    rw [show ipN h = 58 by unfold ipN; rw [if_pos hs]]
    refine Triple.enter Try.func115 rfl Try.ntmps115 rfl (fun W => ?_)
    dsimp only [argsF, Nat.reduceAdd]
    repeat' (first
     | refine WPl.nil ?_ | refine WPq.then ?_ | refine WPq.thenR ?_ | refine WPq.thenE ?_ | refine WPq.blockN ?_ | refine WPq.blockR ?_ | refine WPq.blockE ?_ | refine WPq.blockO rfl ?_ | refine WPc.seq ?_ | refine WPc.block ?_ | refine WPc.ret ?_ | refine WPc.exit ?_ | refine WPc.skip ?_ | refine WPc.region ?_
     | (refine isCond ?_; first | refine WPc.cT ?_ | refine WPc.cF ?_ | (refine WPc.cQ (fun hc => ?_) (fun hc => ?_) <;> try exact prA))
     | (refine isOp ?_; first | refine WPl.rd ?_ | refine WPl.sk ?_ | refine WPl.rdB ?_)
     | (refine isBx ?_; refine WPl.nw fun g => ?_)
     | (refine WPl.spQ (fun hc => ?_) (fun hc => ?_) <;> try exact prA)
     | fail)
    all_goals try (first | exact WPq.dV | exact WPq.dR | exact WPq.dR2 | exact WPq.dH | exact WPq.dBH | exact WPq.dT)
  | false =>
    rw [show ipN h = 1 by unfold ipN; rw [hs, if_neg (by decide)]]
    refine Triple.enter Try.func115 rfl Try.ntmps115 rfl (fun W => ?_)
    dsimp only [argsF, Nat.reduceAdd]
    repeat' (first
     | refine WPl.nil ?_ | refine WPq.then ?_ | refine WPq.thenR ?_ | refine WPq.thenE ?_ | refine WPq.blockN ?_ | refine WPq.blockR ?_ | refine WPq.blockE ?_ | refine WPq.blockO rfl ?_ | refine WPc.seq ?_ | refine WPc.block ?_ | refine WPc.ret ?_ | refine WPc.exit ?_ | refine WPc.skip ?_ | refine WPc.region ?_
     | (refine isCond ?_; first | refine WPc.cT ?_ | refine WPc.cF ?_ | (refine WPc.cQ (fun hc => ?_) (fun hc => ?_) <;> try exact prA))
     | (refine isOp ?_; first | refine WPl.rd ?_ | refine WPl.sk ?_ | refine WPl.rdB ?_)
     | (refine isBx ?_; refine WPl.nw fun g => ?_)
     | (refine WPl.spQ (fun hc => ?_) (fun hc => ?_) <;> try exact prA)
     | fail)
    all_goals try (first | exact WPq.dV | exact WPq.dR | exact WPq.dR2 | exact WPq.dH | exact WPq.dBH | exact WPq.dT)
theorem rsum36_t (h : Hd) (vb : Value) (m : List UInt8) (hm : m.length ≤ 100000) : Triple Try.prog 116 #[ag (hdc h), vb] [rb vb m] (RVal (.int .u16 (csum (imP h m) : Nat))) := by
  have l1 := h.src.len
  have l2 := h.dst.len
  have hp := psu_len h m.length
  cases hs : h.six with
  | true =>
    rw [show imP h m = psu h m.length ++ m by unfold imP; rw [if_pos hs]]
    refine Triple.enter Try.func116 rfl Try.ntmps116 rfl (fun W => ?_)
    dsimp only [argsF, Nat.reduceAdd]
    repeat' (first
     | refine WPl.nil ?_ | refine WPq.then ?_ | refine WPq.thenR ?_ | refine WPq.thenE ?_ | refine WPq.blockN ?_ | refine WPq.blockR ?_ | refine WPq.blockE ?_ | refine WPq.blockO rfl ?_ | refine WPc.seq ?_ | refine WPc.block ?_ | refine WPc.ret ?_ | refine WPc.exit ?_ | refine WPc.skip ?_ | refine WPc.region ?_
     | (refine isCond ?_; first | refine WPc.cT ?_ | refine WPc.cF ?_ | (refine WPc.cQ (fun hc => ?_) (fun hc => ?_) <;> try exact prA))
     | (refine isLit ?_; refine WPl.lit fun v hv => ?_)
     | (refine isApp ?_; refine WPl.app fun v hv => ?_)
     | (refine isC 12 ?_; refine WPl.cR (rpseudo_t h m.length m.length (wrapLen (by omega)) (by omega)) fun v hv => ?_)
     | (refine isC 16 ?_; refine WPl.cV (rsum_t _ (psu h m.length ++ m) (by simp; omega)) ?_)
     | (refine isOp ?_; first | refine WPl.rd ?_ | refine WPl.sk ?_ | refine WPl.rdB ?_)
     | (refine isBx ?_; refine WPl.nw fun g => ?_)
     | (refine WPl.spQ (fun hc => ?_) (fun hc => ?_) <;> try exact prA)
     | fail)
    all_goals try (first | exact WPq.dV | exact WPq.dR | exact WPq.dR2 | exact WPq.dH | exact WPq.dBH | exact WPq.dT)
  | false =>
    rw [show imP h m = [] ++ m by unfold imP; rw [hs, if_neg (by decide)]]
    refine Triple.enter Try.func116 rfl Try.ntmps116 rfl (fun W => ?_)
    dsimp only [argsF, Nat.reduceAdd]
    repeat' (first
     | refine WPl.nil ?_ | refine WPq.then ?_ | refine WPq.thenR ?_ | refine WPq.thenE ?_ | refine WPq.blockN ?_ | refine WPq.blockR ?_ | refine WPq.blockE ?_ | refine WPq.blockO rfl ?_ | refine WPc.seq ?_ | refine WPc.block ?_ | refine WPc.ret ?_ | refine WPc.exit ?_ | refine WPc.skip ?_ | refine WPc.region ?_
     | (refine isCond ?_; first | refine WPc.cT ?_ | refine WPc.cF ?_ | (refine WPc.cQ (fun hc => ?_) (fun hc => ?_) <;> try exact prA))
     | (refine isLit ?_; refine WPl.lit fun v hv => ?_)
     | (refine isApp ?_; refine WPl.app fun v hv => ?_)
     | (refine isC 16 ?_; refine WPl.cV (rsum_t _ (nbs [] ++ m) (by simp [nbs]; omega)) ?_)
     | (refine isOp ?_; first | refine WPl.rd ?_ | refine WPl.sk ?_ | refine WPl.rdB ?_)
     | (refine isBx ?_; refine WPl.nw fun g => ?_)
     | (refine WPl.spQ (fun hc => ?_) (fun hc => ?_) <;> try exact prA)
     | fail)
    all_goals try (first | exact WPq.dV | exact WPq.dR | exact WPq.dR2 | exact WPq.dH | exact WPq.dBH | exact WPq.dT)
end Go.Proofs.Yteofjhjhaaafjaa
