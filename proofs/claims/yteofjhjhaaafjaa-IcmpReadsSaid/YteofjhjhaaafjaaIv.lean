/- Layer 14 (ipsix): writing: contracts and plain facts. -/
import Derived.Test.YteofjhjhaaafjaaIu
namespace Go.Proofs.Yteofjhjhaaafjaa
open Go.RowKit
set_option linter.unusedSimpArgs false
set_option linter.unusedVariables false
set_option maxRecDepth 20000
set_option maxHeartbeats 4000000
attribute [local irreducible] WPc WPl WPq ReadR OpT BinR HasS bx rdN rowN Take Takes Prov Triple ResF BuildP Done ag Int.decLt Int.decLe Int.instDecidableEq

def xwBad (h : Hd) : Bool := !h.six || (h.part || (decide (((h.hops.toNat : Nat) : Int) = 0) || (!h.src.six || (!h.dst.six || btw h.proto))))
def xwerr (h : Hd) (n : Nat) : Int := if xwBad h then 1 else if 2008 < n then 10 else 0
def xpkt (h : Hd) (d : List UInt8) : List UInt8 := [nbs [96, 0, 0, 0] ++ be d.length 2, nbs [(h.proto.toNat : Nat), (h.hops.toNat : Nat)], h.src.bytes, h.dst.bytes, d].flatten
def xwL (h : Hd) (d : List UInt8) : List UInt8 := if xwerr h d.length = 0 then xpkt h d else []
theorem xwBad_no {h : Hd} (hb : xwBad h = false) : h.six = true ∧ h.part = false ∧ ¬ ((h.hops.toNat : Nat) : Int) = 0 ∧ h.src.six = true ∧ h.dst.six = true ∧ btw h.proto = false := by
  simpa [xwBad] using hb
theorem xpkt_eq (h : Hd) (d : List UInt8) : [nbs [96, 0, 0, 0] ++ be d.length 2, nbs [(h.proto.toNat : Nat), (h.hops.toNat : Nat)], h.src.bytes, h.dst.bytes, d].flatten = xpkt h d := rfl
attribute [local irreducible] xpkt be btw
theorem xwrite_t (h : Hd) (v : Value) (d : List UInt8) (hd : d.length ≤ 100000) : Triple Try.prog 35 #[ag (hdc h), v] [rb v d] (RW (xwL h d) (xwerr h d.length)) := by
  have l1 := h.src.len
  have l2 := h.dst.len
  have g1 := btw_t h.proto
  cases hbad : xwBad h with
  | true =>
    have he : xwerr h d.length = 1 := by simp [xwerr, hbad]
    rw [show xwL h d = [] by simp [xwL, he], he]
    refine Triple.enter Try.func35 rfl Try.ntmps35 rfl (fun W => ?_)
    dsimp only [argsF, Nat.reduceAdd]
    refine WPc.nilRow 5 ?_
    repeat' (first
     | refine WPl.nil ?_ | refine WPq.then ?_ | refine WPq.thenR ?_ | refine WPq.thenE ?_ | refine WPq.blockN ?_ | refine WPq.blockR ?_ | refine WPq.blockE ?_ | refine WPq.blockO rfl ?_ | refine WPc.seq ?_ | refine WPc.block ?_ | refine WPc.ret ?_ | refine WPc.exit ?_ | refine WPc.skip ?_ | refine WPc.region ?_
     | (refine isReg 6 ?_; refine WPc.drA [([], [47, 48, 49, 50, 51, 52, 53, 54, 55, 56, 57, 58]), ([], [46, 49, 50, 52, 53, 54, 55, 56, 57, 58]), ([1], [46, 47, 49, 50, 52, 53, 54, 55, 56, 57, 58]), ([], [46, 47, 48, 52, 53, 54, 55, 56, 57, 58]), ([3], [46, 47, 48, 49, 52, 53, 54, 55, 56, 57, 58]), ([1, 2, 3, 4], [46, 47, 48, 49, 50, 52, 53, 54, 55, 56, 57, 58]), ([], [46, 47, 48, 49, 50, 51, 55, 56, 58]), ([6], [46, 47, 48, 49, 50, 51, 52, 55, 56, 58]), ([6, 7], [46, 47, 48, 49, 50, 51, 52, 53, 55, 56, 58]), ([], [46, 47, 48, 49, 50, 51, 52, 53, 54, 58]), ([9], [46, 47, 48, 49, 50, 51, 52, 53, 54, 55, 58]), ([6, 7, 8, 9, 10], [46, 47, 48, 49, 50, 51, 52, 53, 54, 55, 56, 58]), ([], [46, 47, 48, 49, 50, 51, 52, 53, 54, 55, 56, 57]), ([0, 1, 2, 3, 4, 5, 6, 7, 8, 9, 10, 11, 12], [46, 47, 48, 49, 50, 51, 52, 53, 54, 55, 56, 57, 58]), ([0, 1, 2, 3, 4, 5, 6, 7, 8, 9, 10, 11, 12, 13], [46, 47, 48, 49, 50, 51, 52, 53, 54, 55, 56, 57, 58, 59]), ([0, 1, 2, 3, 4, 5, 6, 7, 8, 9, 10, 11, 12, 13, 14], [46, 47, 48, 49, 50, 51, 52, 53, 54, 55, 56, 57, 58, 59, 60]), ([0, 1, 2, 3, 4, 5, 6, 7, 8, 9, 10, 11, 12, 13, 14, 15], [4, 46, 47, 48, 49, 50, 51, 52, 53, 54, 55, 56, 57, 58, 59, 60])] [] (Γx := []) ?_; dsimp only [prev0, List.length_nil, List.length_cons])
     | (refine gAny ?_; first | (refine gC 35 ?_; refine RGl.vl (fun e hk => OpT.callN (g1)) ?_) | (refine gOp ?_; first | refine RGl.rdA ?_ | refine RGl.rdX (fun e hk => by (try dsimp only [bndR, ensR, oksR, fcutR, List.append_nil, List.nil_append, List.cons_append, List.append_assoc] at hk ⊢); exact readB) ?_) | (refine gLit ?_; refine RGl.litA ?_) | (refine RGl.fin (fun e hk => ?_); (try dsimp only [bndA, ensAR, oksA, List.append_nil, List.nil_append, List.cons_append, List.append_assoc] at hk ⊢); (repeat (obtain ⟨hk1, hk⟩ := hk))) | fail)
     | (refine isCond ?_; first | refine WPc.cT ?_ | refine WPc.cF ?_ | (refine WPc.cQ (fun hc => ?_) (fun hc => ?_) <;> try first | exact prA | (exfalso; first | (simp only [xwBad, *, decide_false, Bool.or_self, Bool.false_or, Bool.not_true, Bool.false_eq_true] at hbad; done))))
     | (refine isC 35 ?_; refine WPl.cV (g1) ?_)
     | (refine isOp ?_; first | refine WPl.rd ?_ | refine WPl.sk ?_ | refine WPl.rdB ?_)
     | (refine isBx ?_; refine WPl.nw fun g => ?_)
     | (refine WPl.spQ (fun hc => ?_) (fun hc => ?_) <;> try first | exact prA | (exfalso; first | (simp only [xwBad, *, decide_false, Bool.or_self, Bool.false_or, Bool.not_true, Bool.false_eq_true] at hbad; done)))
     | fail)
    all_goals try (first | exact WPq.dV | exact WPq.dR | exact WPq.dR2 | exact WPq.dH | exact WPq.dBH | exact WPq.dT)
  | false =>
    obtain ⟨b1, b2, b3, b4, b5, b6⟩ := xwBad_no hbad
    rw [b6] at g1
    by_cases hlen : 2008 < d.length
    · have he : xwerr h d.length = 10 := by simp [xwerr, hbad, hlen]
      rw [show xwL h d = [] by simp [xwL, he], he]
      refine Triple.enter Try.func35 rfl Try.ntmps35 rfl (fun W => ?_)
      dsimp only [argsF, Nat.reduceAdd]
      refine WPc.nilRow 5 ?_
      repeat' (first
       | refine WPl.nil ?_ | refine WPq.then ?_ | refine WPq.thenR ?_ | refine WPq.thenE ?_ | refine WPq.blockN ?_ | refine WPq.blockR ?_ | refine WPq.blockE ?_ | refine WPq.blockO rfl ?_ | refine WPc.seq ?_ | refine WPc.block ?_ | refine WPc.ret ?_ | refine WPc.exit ?_ | refine WPc.skip ?_ | refine WPc.region ?_
       | (refine isReg 6 ?_; refine WPc.drA [([], [47, 48, 49, 50, 51, 52, 53, 54, 55, 56, 57, 58]), ([], [46, 49, 50, 52, 53, 54, 55, 56, 57, 58]), ([1], [46, 47, 49, 50, 52, 53, 54, 55, 56, 57, 58]), ([], [46, 47, 48, 52, 53, 54, 55, 56, 57, 58]), ([3], [46, 47, 48, 49, 52, 53, 54, 55, 56, 57, 58]), ([1, 2, 3, 4], [46, 47, 48, 49, 50, 52, 53, 54, 55, 56, 57, 58]), ([], [46, 47, 48, 49, 50, 51, 55, 56, 58]), ([6], [46, 47, 48, 49, 50, 51, 52, 55, 56, 58]), ([6, 7], [46, 47, 48, 49, 50, 51, 52, 53, 55, 56, 58]), ([], [46, 47, 48, 49, 50, 51, 52, 53, 54, 58]), ([9], [46, 47, 48, 49, 50, 51, 52, 53, 54, 55, 58]), ([6, 7, 8, 9, 10], [46, 47, 48, 49, 50, 51, 52, 53, 54, 55, 56, 58]), ([], [46, 47, 48, 49, 50, 51, 52, 53, 54, 55, 56, 57]), ([0, 1, 2, 3, 4, 5, 6, 7, 8, 9, 10, 11, 12], [46, 47, 48, 49, 50, 51, 52, 53, 54, 55, 56, 57, 58]), ([0, 1, 2, 3, 4, 5, 6, 7, 8, 9, 10, 11, 12, 13], [46, 47, 48, 49, 50, 51, 52, 53, 54, 55, 56, 57, 58, 59]), ([0, 1, 2, 3, 4, 5, 6, 7, 8, 9, 10, 11, 12, 13, 14], [46, 47, 48, 49, 50, 51, 52, 53, 54, 55, 56, 57, 58, 59, 60]), ([0, 1, 2, 3, 4, 5, 6, 7, 8, 9, 10, 11, 12, 13, 14, 15], [4, 46, 47, 48, 49, 50, 51, 52, 53, 54, 55, 56, 57, 58, 59, 60])] [] (Γx := []) ?_; dsimp only [prev0, List.length_nil, List.length_cons])
       | (refine gAny ?_; first | (refine gC 35 ?_; refine RGl.vl (fun e hk => OpT.callN (g1)) ?_) | (refine gOp ?_; first | refine RGl.rdA ?_ | refine RGl.rdX (fun e hk => by (try dsimp only [bndR, ensR, oksR, fcutR, List.append_nil, List.nil_append, List.cons_append, List.append_assoc] at hk ⊢); exact readB) ?_) | (refine gLit ?_; refine RGl.litA ?_) | (refine RGl.fin (fun e hk => ?_); (try dsimp only [bndA, ensAR, oksA, List.append_nil, List.nil_append, List.cons_append, List.append_assoc] at hk ⊢); (repeat (obtain ⟨hk1, hk⟩ := hk))) | fail)
       | (refine isCond ?_; first | refine WPc.cT ?_ | refine WPc.cF ?_ | (refine WPc.cQ (fun hc => ?_) (fun hc => ?_) <;> try exact prA))
       | (refine isC 35 ?_; refine WPl.cV (g1) ?_)
       | (refine isOp ?_; first | refine WPl.rd ?_ | refine WPl.sk ?_ | refine WPl.rdB ?_)
       | (refine isBx ?_; refine WPl.nw fun g => ?_)
       | (refine WPl.spQ (fun hc => ?_) (fun hc => ?_) <;> try exact prA)
       | fail)
      all_goals try (first | exact WPq.dV | exact WPq.dR | exact WPq.dR2 | exact WPq.dH | exact WPq.dBH | exact WPq.dT)
    · have he : xwerr h d.length = 0 := by simp [xwerr, hbad, hlen]
      rw [show xwL h d = xpkt h d by simp [xwL, he], he]
      have a1 := h.src.bytes_le
      have a2 := h.dst.bytes_le
      have hbe := be_length d.length 2
      refine Triple.enter Try.func35 rfl Try.ntmps35 rfl (fun W => ?_)
      dsimp only [argsF, Nat.reduceAdd]
      repeat' (first
       | refine WPl.nil ?_ | refine WPq.then ?_ | refine WPq.thenR ?_ | refine WPq.thenE ?_ | refine WPq.blockN ?_ | refine WPq.blockR ?_ | refine WPq.blockE ?_ | refine WPq.blockO rfl ?_ | refine WPc.seq ?_ | refine WPc.block ?_ | refine WPc.ret ?_ | refine WPc.exit ?_ | refine WPc.skip ?_ | refine WPc.region ?_
       | (refine isReg 6 ?_; refine WPc.drA [([], [47, 48, 49, 50, 51, 52, 53, 54, 55, 56, 57, 58]), ([], [46, 49, 50, 52, 53, 54, 55, 56, 57, 58]), ([1], [46, 47, 49, 50, 52, 53, 54, 55, 56, 57, 58]), ([], [46, 47, 48, 52, 53, 54, 55, 56, 57, 58]), ([3], [46, 47, 48, 49, 52, 53, 54, 55, 56, 57, 58]), ([1, 2, 3, 4], [46, 47, 48, 49, 50, 52, 53, 54, 55, 56, 57, 58]), ([], [46, 47, 48, 49, 50, 51, 55, 56, 58]), ([6], [46, 47, 48, 49, 50, 51, 52, 55, 56, 58]), ([6, 7], [46, 47, 48, 49, 50, 51, 52, 53, 55, 56, 58]), ([], [46, 47, 48, 49, 50, 51, 52, 53, 54, 58]), ([9], [46, 47, 48, 49, 50, 51, 52, 53, 54, 55, 58]), ([6, 7, 8, 9, 10], [46, 47, 48, 49, 50, 51, 52, 53, 54, 55, 56, 58]), ([], [46, 47, 48, 49, 50, 51, 52, 53, 54, 55, 56, 57]), ([0, 1, 2, 3, 4, 5, 6, 7, 8, 9, 10, 11, 12], [46, 47, 48, 49, 50, 51, 52, 53, 54, 55, 56, 57, 58]), ([0, 1, 2, 3, 4, 5, 6, 7, 8, 9, 10, 11, 12, 13], [46, 47, 48, 49, 50, 51, 52, 53, 54, 55, 56, 57, 58, 59]), ([0, 1, 2, 3, 4, 5, 6, 7, 8, 9, 10, 11, 12, 13, 14], [46, 47, 48, 49, 50, 51, 52, 53, 54, 55, 56, 57, 58, 59, 60]), ([0, 1, 2, 3, 4, 5, 6, 7, 8, 9, 10, 11, 12, 13, 14, 15], [4, 46, 47, 48, 49, 50, 51, 52, 53, 54, 55, 56, 57, 58, 59, 60])] [] (Γx := []) ?_; dsimp only [prev0, List.length_nil, List.length_cons])
       | (refine gAny ?_; first | (refine gC 35 ?_; refine RGl.vl (fun e hk => OpT.callN (g1)) ?_) | (refine gC 45 ?_; refine RGl.row (Γ1 := fun _ => []) (fun e hk => OpT.callN (put_t _ (nbs [96, 0, 0, 0]) d.length 2 (by simp [nbs]) (by omega) (by omega) (by omega))) ?_) | (refine gC 54 ?_; refine RGl.row (Γ1 := fun _ => []) (fun e hk => OpT.callN (addrBytes_t h.src)) ?_) | (refine gC 57 ?_; refine RGl.row (Γ1 := fun _ => []) (fun e hk => OpT.callN (addrBytes_t h.dst)) ?_) | (refine gC 60 ?_; refine RGl.row (Γ1 := fun _ => []) (fun e hk => OpT.callN (bytesE_t _ [_, _, _, _, _] [nbs [96, 0, 0, 0] ++ be d.length 2, nbs [(h.proto.toNat : Nat), (h.hops.toNat : Nat)], h.src.bytes, h.dst.bytes, d] (xpkt h d) (xpkt_eq h d) rfl (by simp only [List.flatten_cons, List.flatten_nil, List.length_append, List.length_nil, nbs, List.length_map, List.length_cons]; omega) (by simp))) ?_) | (refine gOp ?_; first | refine RGl.rdA ?_ | refine RGl.rdX (fun e hk => by (try dsimp only [bndR, ensR, oksR, fcutR, List.append_nil, List.nil_append, List.cons_append, List.append_assoc] at hk ⊢); exact readB) ?_) | (refine gLit ?_; refine RGl.litA ?_) | (refine RGl.fin (fun e hk => ?_); (try dsimp only [bndA, ensAR, oksA, List.append_nil, List.nil_append, List.cons_append, List.append_assoc] at hk ⊢); (repeat (obtain ⟨hk1, hk⟩ := hk))) | fail)
       | (refine isCond ?_; first | refine WPc.cT ?_ | refine WPc.cF ?_ | (refine WPc.cQ (fun hc => ?_) (fun hc => ?_) <;> try exact prA))
       | (refine isC 35 ?_; refine WPl.cV (g1) ?_)
       | (refine isLit ?_; refine WPl.lit fun v hv => ?_)
       | (refine isLit ?_; refine WPl.lits fun v hv => ?_)
       | (refine isC 45 ?_; refine WPl.cR (put_t _ (nbs [96, 0, 0, 0]) d.length 2 (by simp [nbs]) (by omega) (by omega) (by omega)) fun v hv => ?_)
       | (refine isC 54 ?_; refine WPl.cR (addrBytes_t h.src) fun v hv => ?_)
       | (refine isC 57 ?_; refine WPl.cR (addrBytes_t h.dst) fun v hv => ?_)
       | (refine isC 60 ?_; refine WPl.cR (bytesE_t _ [_, _, _, _, _] [nbs [96, 0, 0, 0] ++ be d.length 2, nbs [(h.proto.toNat : Nat), (h.hops.toNat : Nat)], h.src.bytes, h.dst.bytes, d] (xpkt h d) (xpkt_eq h d) rfl (by simp only [List.flatten_cons, List.flatten_nil, List.length_append, List.length_nil, nbs, List.length_map, List.length_cons]; omega) (by simp)) fun v hv => ?_)
       | (refine isOp ?_; first | refine WPl.rd ?_ | refine WPl.sk ?_ | refine WPl.rdB ?_)
       | (refine isBx ?_; refine WPl.nw fun g => ?_)
       | (refine WPl.spQ (fun hc => ?_) (fun hc => ?_) <;> try exact prA)
       | fail)
      all_goals try (first | exact WPq.dV | exact WPq.dR | exact WPq.dR2 | exact WPq.dH | exact WPq.dBH | exact WPq.dT)
end Go.Proofs.Yteofjhjhaaafjaa
