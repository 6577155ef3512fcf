/- Layer 15 (seg): reading, whole, and the reference's: contracts. -/
import Derived.Test.YteofjhjhaaafjaaSg
namespace Go.Proofs.Yteofjhjhaaafjaa
open Go.RowKit
set_option linter.unusedSimpArgs false
set_option linter.unusedVariables false
set_option maxRecDepth 20000
set_option maxHeartbeats 4000000
attribute [local irreducible] WPc WPl WPq ReadR OpT BinR HasS bx rdN rowN Take Takes Prov Triple ResF BuildP Done ag Int.decLt Int.decLe Int.instDecidableEq
attribute [local irreducible] psu sgood tcpE udpE

def sgE0 (h : Hd) (b : List UInt8) : Int := if h.proto.toNat = 6 then tcpE h b else if h.proto.toNat = 17 then udpE h b else 6
def sg0 (h : Hd) (b : List UInt8) : Sg := if h.proto.toNat = 6 then tcpS b else udpS b
def pz (b : List UInt8) : Bool := decide (val (seg b 0 2) = 0 ∨ val (seg b 2 2) = 0)
def sgE (h : Hd) (b : List UInt8) : Int := if sgE0 h b = 0 then (if pz b then 4 else 0) else sgE0 h b
def Sg.at (s : Sg) (b : List UInt8) : Sg := ⟨val (seg b 0 2), val (seg b 2 2), s.flags, s.sumAt, s.zero, s.data⟩
def sgR (h : Hd) (b : List UInt8) : Sg := if sgE h b = 0 then (sg0 h b).at b else Sg.none
abbrev gVal (h : Hd) (b : List UInt8) : Value := .tuple #[ag (sgc (sgR h b)), .int .i64 (sgE h b)]
theorem tcpE_zero {h : Hd} {b : List UInt8} (he : tcpE h b = 0) : 20 ≤ b.length ∧ 20 ≤ tN b ∧ tN b ≤ b.length ∧ sgood h b = true := by
  unfold tcpE at he
  repeat' (split at he)
  all_goals first | omega | (cases he; done) | skip
  exact ⟨by omega, by omega, by omega, by simpa using ‹¬ sgood h b = false›⟩
theorem sgE0_len {h : Hd} {b : List UInt8} (he : sgE0 h b = 0) : 8 ≤ b.length := by
  unfold sgE0 at he
  repeat' (split at he)
  · exact Nat.le_trans (by omega) (tcpE_zero he).1
  · exact (udpE_zero he).1
  · cases he
theorem pz_no {b : List UInt8} (h : pz b = false) : ¬ val (seg b 0 2) = 0 ∧ ¬ val (seg b 2 2) = 0 := by simpa [pz] using h
theorem sread_t (h : Hd) (vb : Value) (b : List UInt8) (hl : b.length ≤ 100000) : Triple Try.prog 41 #[ag (hdc h), vb] [rb vb b] (RVal (gVal h b)) := by
  have l1 := h.src.len
  have l2 := h.dst.len
  have hv0 := val2_lt (l := b) (k := 0)
  have hv2 := val2_lt (l := b) (k := 2)
  by_cases he : sgE0 h b = 0
  · have hbl := sgE0_len he
    cases hz : pz b with
    | true =>
      have hz' : val (seg b 0 2) = 0 ∨ val (seg b 2 2) = 0 := by simpa [pz] using hz
      have hE : sgE h b = 4 := by unfold sgE; rw [if_pos he, hz]; rfl
      rw [show gVal h b = .tuple #[ag (sgc Sg.none), .int .i64 4] by unfold gVal sgR; rw [hE, if_neg (by omega)]]
      by_cases h6 : h.proto.toNat = 6
      · have ht := tcp_yes h vb b hl (by unfold sgE0 at he; rw [if_pos h6] at he; exact he)
        refine Triple.enter Try.func41 rfl Try.ntmps41 rfl (fun W => ?_)
        dsimp only [argsF, Nat.reduceAdd]
        repeat' (first
         | refine WPl.nil ?_ | refine WPq.then ?_ | refine WPq.thenR ?_ | refine WPq.thenE ?_ | refine WPq.blockN ?_ | refine WPq.blockR ?_ | refine WPq.blockE ?_ | refine WPq.blockO rfl ?_ | refine WPc.seq ?_ | refine WPc.block ?_ | refine WPc.ret ?_ | refine WPc.exit ?_ | refine WPc.skip ?_ | refine WPc.region ?_
         | (refine isCond ?_; first | refine WPc.cT ?_ | refine WPc.cF ?_ | (refine WPc.cQ (fun hc => ?_) (fun hc => ?_) <;> try exact prA))
         | (refine isC 13 ?_; refine WPl.cV (ht) ?_)
         | (refine isC 29 ?_; refine WPl.cV (port_t vb b 0 (by omega) hl) ?_)
         | (refine isC 31 ?_; refine WPl.cV (port_t vb b 2 (by omega) hl) ?_)
         | (refine isOp ?_; first | refine WPl.rd ?_ | refine WPl.sk ?_ | refine WPl.rdB ?_)
         | (refine isAl ?_; refine WPl.nw fun g => ?_)
         | (refine isBx ?_; refine WPl.nw fun g => ?_)
         | (refine isSt ?_; first | refine WPl.st1 ?_ | refine WPl.stA ?_ | refine WPl.stEB ?_ | refine WPl.stRB ?_)
         | (refine WPl.spQ (fun hc => ?_) (fun hc => ?_) <;> try exact prA)
         | fail)
        all_goals try (first | exact WPq.dV | exact WPq.dR | exact WPq.dR2 | exact WPq.dH | exact WPq.dBH | exact WPq.dT)
      · by_cases h17 : h.proto.toNat = 17
        · have ht := udp_yes h vb b hl (by unfold sgE0 at he; rw [if_neg h6, if_pos h17] at he; exact he)
          refine Triple.enter Try.func41 rfl Try.ntmps41 rfl (fun W => ?_)
          dsimp only [argsF, Nat.reduceAdd]
          repeat' (first
           | refine WPl.nil ?_ | refine WPq.then ?_ | refine WPq.thenR ?_ | refine WPq.thenE ?_ | refine WPq.blockN ?_ | refine WPq.blockR ?_ | refine WPq.blockE ?_ | refine WPq.blockO rfl ?_ | refine WPc.seq ?_ | refine WPc.block ?_ | refine WPc.ret ?_ | refine WPc.exit ?_ | refine WPc.skip ?_ | refine WPc.region ?_
           | (refine isCond ?_; first | refine WPc.cT ?_ | refine WPc.cF ?_ | (refine WPc.cQ (fun hc => ?_) (fun hc => ?_) <;> try exact prA))
           | (refine isC 21 ?_; refine WPl.cV (ht) ?_)
           | (refine isC 29 ?_; refine WPl.cV (port_t vb b 0 (by omega) hl) ?_)
           | (refine isC 31 ?_; refine WPl.cV (port_t vb b 2 (by omega) hl) ?_)
           | (refine isOp ?_; first | refine WPl.rd ?_ | refine WPl.sk ?_ | refine WPl.rdB ?_)
           | (refine isAl ?_; refine WPl.nw fun g => ?_)
           | (refine isBx ?_; refine WPl.nw fun g => ?_)
           | (refine isSt ?_; first | refine WPl.st1 ?_ | refine WPl.stA ?_ | refine WPl.stEB ?_ | refine WPl.stRB ?_)
           | (refine WPl.spQ (fun hc => ?_) (fun hc => ?_) <;> try exact prA)
           | fail)
          all_goals try (first | exact WPq.dV | exact WPq.dR | exact WPq.dR2 | exact WPq.dH | exact WPq.dBH | exact WPq.dT)
        · unfold sgE0 at he; rw [if_neg h6, if_neg h17] at he; cases he
    | false =>
      obtain ⟨z1, z2⟩ := pz_no hz
      have hE : sgE h b = 0 := by unfold sgE; rw [if_pos he, hz]; rfl
      by_cases h6 : h.proto.toNat = 6
      · have ht := tcp_yes h vb b hl (by unfold sgE0 at he; rw [if_pos h6] at he; exact he)
        rw [show gVal h b = .tuple #[ag (sgc ((tcpS b).at b)), .int .i64 0] by unfold gVal sgR sg0; rw [hE, if_pos rfl, if_pos h6]]
        refine Triple.enter Try.func41 rfl Try.ntmps41 rfl (fun W => ?_)
        dsimp only [argsF, Nat.reduceAdd]
        repeat' (first
         | refine WPl.nil ?_ | refine WPq.then ?_ | refine WPq.thenR ?_ | refine WPq.thenE ?_ | refine WPq.blockN ?_ | refine WPq.blockR ?_ | refine WPq.blockE ?_ | refine WPq.blockO rfl ?_ | refine WPc.seq ?_ | refine WPc.block ?_ | refine WPc.ret ?_ | refine WPc.exit ?_ | refine WPc.skip ?_ | refine WPc.region ?_
         | (refine isCond ?_; first | refine WPc.cT ?_ | refine WPc.cF ?_ | (refine WPc.cQ (fun hc => ?_) (fun hc => ?_) <;> try exact prA))
         | (refine isC 13 ?_; refine WPl.cV (ht) ?_)
         | (refine isC 29 ?_; refine WPl.cV (port_t vb b 0 (by omega) hl) ?_)
         | (refine isC 31 ?_; refine WPl.cV (port_t vb b 2 (by omega) hl) ?_)
         | (refine isOp ?_; first | refine WPl.rd ?_ | refine WPl.sk ?_ | refine WPl.rdB ?_)
         | (refine isAl ?_; refine WPl.nw fun g => ?_)
         | (refine isBx ?_; refine WPl.nw fun g => ?_)
         | (refine isSt ?_; first | refine WPl.st1 ?_ | refine WPl.stA ?_ | refine WPl.stEB ?_ | refine WPl.stRB ?_)
         | (refine WPl.spQ (fun hc => ?_) (fun hc => ?_) <;> try exact prA)
         | fail)
        all_goals try (first | exact WPq.dV | exact WPq.dR | exact WPq.dR2 | exact WPq.dH | exact WPq.dBH | exact WPq.dT)
      · by_cases h17 : h.proto.toNat = 17
        · have ht := udp_yes h vb b hl (by unfold sgE0 at he; rw [if_neg h6, if_pos h17] at he; exact he)
          rw [show gVal h b = .tuple #[ag (sgc ((udpS b).at b)), .int .i64 0] by unfold gVal sgR sg0; rw [hE, if_pos rfl, if_neg h6]]
          refine Triple.enter Try.func41 rfl Try.ntmps41 rfl (fun W => ?_)
          dsimp only [argsF, Nat.reduceAdd]
          repeat' (first
           | refine WPl.nil ?_ | refine WPq.then ?_ | refine WPq.thenR ?_ | refine WPq.thenE ?_ | refine WPq.blockN ?_ | refine WPq.blockR ?_ | refine WPq.blockE ?_ | refine WPq.blockO rfl ?_ | refine WPc.seq ?_ | refine WPc.block ?_ | refine WPc.ret ?_ | refine WPc.exit ?_ | refine WPc.skip ?_ | refine WPc.region ?_
           | (refine isCond ?_; first | refine WPc.cT ?_ | refine WPc.cF ?_ | (refine WPc.cQ (fun hc => ?_) (fun hc => ?_) <;> try exact prA))
           | (refine isC 21 ?_; refine WPl.cV (ht) ?_)
           | (refine isC 29 ?_; refine WPl.cV (port_t vb b 0 (by omega) hl) ?_)
           | (refine isC 31 ?_; refine WPl.cV (port_t vb b 2 (by omega) hl) ?_)
           | (refine isOp ?_; first | refine WPl.rd ?_ | refine WPl.sk ?_ | refine WPl.rdB ?_)
           | (refine isAl ?_; refine WPl.nw fun g => ?_)
           | (refine isBx ?_; refine WPl.nw fun g => ?_)
           | (refine isSt ?_; first | refine WPl.st1 ?_ | refine WPl.stA ?_ | refine WPl.stEB ?_ | refine WPl.stRB ?_)
           | (refine WPl.spQ (fun hc => ?_) (fun hc => ?_) <;> try exact prA)
           | fail)
          all_goals try (first | exact WPq.dV | exact WPq.dR | exact WPq.dR2 | exact WPq.dH | exact WPq.dBH | exact WPq.dT)
        · unfold sgE0 at he; rw [if_neg h6, if_neg h17] at he; cases he
  · have hE : sgE h b = sgE0 h b := by unfold sgE; rw [if_neg he]
    rw [show gVal h b = .tuple #[ag (sgc Sg.none), .int .i64 (sgE0 h b)] by unfold gVal sgR; rw [hE, if_neg he]]
    by_cases h6 : h.proto.toNat = 6
    · have h0 : sgE0 h b = tcpE h b := by unfold sgE0; rw [if_pos h6]
      rw [h0] at he ⊢
      have ht := tcp_no h vb b hl he
      refine Triple.enter Try.func41 rfl Try.ntmps41 rfl (fun W => ?_)
      dsimp only [argsF, Nat.reduceAdd]
      repeat' (first
       | refine WPl.nil ?_ | refine WPq.then ?_ | refine WPq.thenR ?_ | refine WPq.thenE ?_ | refine WPq.blockN ?_ | refine WPq.blockR ?_ | refine WPq.blockE ?_ | refine WPq.blockO rfl ?_ | refine WPc.seq ?_ | refine WPc.block ?_ | refine WPc.ret ?_ | refine WPc.exit ?_ | refine WPc.skip ?_ | refine WPc.region ?_
       | (refine isCond ?_; first | refine WPc.cT ?_ | refine WPc.cF ?_ | (refine WPc.cQ (fun hc => ?_) (fun hc => ?_) <;> try exact prA))
       | (refine isC 13 ?_; refine WPl.cV (ht) ?_)
       | (refine isOp ?_; first | refine WPl.rd ?_ | refine WPl.sk ?_ | refine WPl.rdB ?_)
       | (refine isAl ?_; refine WPl.nw fun g => ?_)
       | (refine isBx ?_; refine WPl.nw fun g => ?_)
       | (refine isSt ?_; first | refine WPl.st1 ?_ | refine WPl.stA ?_ | refine WPl.stEB ?_ | refine WPl.stRB ?_)
       | (refine WPl.spQ (fun hc => ?_) (fun hc => ?_) <;> try exact prA)
       | fail)
      all_goals try (first | exact WPq.dV | exact WPq.dR | exact WPq.dR2 | exact WPq.dH | exact WPq.dBH | exact WPq.dT)
    · by_cases h17 : h.proto.toNat = 17
      · have h0 : sgE0 h b = udpE h b := by unfold sgE0; rw [if_neg h6, if_pos h17]
        rw [h0] at he ⊢
        have ht := udp_no h vb b hl he
        refine Triple.enter Try.func41 rfl Try.ntmps41 rfl (fun W => ?_)
        dsimp only [argsF, Nat.reduceAdd]
        repeat' (first
         | refine WPl.nil ?_ | refine WPq.then ?_ | refine WPq.thenR ?_ | refine WPq.thenE ?_ | refine WPq.blockN ?_ | refine WPq.blockR ?_ | refine WPq.blockE ?_ | refine WPq.blockO rfl ?_ | refine WPc.seq ?_ | refine WPc.block ?_ | refine WPc.ret ?_ | refine WPc.exit ?_ | refine WPc.skip ?_ | refine WPc.region ?_
         | (refine isCond ?_; first | refine WPc.cT ?_ | refine WPc.cF ?_ | (refine WPc.cQ (fun hc => ?_) (fun hc => ?_) <;> try exact prA))
         | (refine isC 21 ?_; refine WPl.cV (ht) ?_)
         | (refine isOp ?_; first | refine WPl.rd ?_ | refine WPl.sk ?_ | refine WPl.rdB ?_)
         | (refine isAl ?_; refine WPl.nw fun g => ?_)
         | (refine isBx ?_; refine WPl.nw fun g => ?_)
         | (refine isSt ?_; first | refine WPl.st1 ?_ | refine WPl.stA ?_ | refine WPl.stEB ?_ | refine WPl.stRB ?_)
         | (refine WPl.spQ (fun hc => ?_) (fun hc => ?_) <;> try exact prA)
         | fail)
        all_goals try (first | exact WPq.dV | exact WPq.dR | exact WPq.dR2 | exact WPq.dH | exact WPq.dBH | exact WPq.dT)
      · have h0 : sgE0 h b = 6 := by unfold sgE0; rw [if_neg h6, if_neg h17]
        rw [h0]
        refine Triple.enter Try.func41 rfl Try.ntmps41 rfl (fun W => ?_)
        dsimp only [argsF, Nat.reduceAdd]
        repeat' (first
         | refine WPl.nil ?_ | refine WPq.then ?_ | refine WPq.thenR ?_ | refine WPq.thenE ?_ | refine WPq.blockN ?_ | refine WPq.blockR ?_ | refine WPq.blockE ?_ | refine WPq.blockO rfl ?_ | refine WPc.seq ?_ | refine WPc.block ?_ | refine WPc.ret ?_ | refine WPc.exit ?_ | refine WPc.skip ?_ | refine WPc.region ?_
         | (refine isCond ?_; first | refine WPc.cT ?_ | refine WPc.cF ?_ | (refine WPc.cQ (fun hc => ?_) (fun hc => ?_) <;> try exact prA))
         | (refine isOp ?_; first | refine WPl.rd ?_ | refine WPl.sk ?_ | refine WPl.rdB ?_)
         | (refine isAl ?_; refine WPl.nw fun g => ?_)
         | (refine isBx ?_; refine WPl.nw fun g => ?_)
         | (refine isSt ?_; first | refine WPl.st1 ?_ | refine WPl.stA ?_ | refine WPl.stEB ?_ | refine WPl.stRB ?_)
         | (refine WPl.spQ (fun hc => ?_) (fun hc => ?_) <;> try exact prA)
         | fail)
        all_goals try (first | exact WPq.dV | exact WPq.dR | exact WPq.dR2 | exact WPq.dH | exact WPq.dBH | exact WPq.dT)
end Go.Proofs.Yteofjhjhaaafjaa
