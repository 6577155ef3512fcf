/- What the row of gateHeld_card_holds needs: part 6. -/
import Derived.Test.YtpilenbdimhegaaGreatDoorGHe5
/- Layer 15 (seg): what is summed, and reading: contracts. -/
namespace Go.Proofs.YtpilenbdimhegaaGreatDoor
open Go.RowKit
set_option linter.unusedSimpArgs false
set_option linter.unusedVariables false
set_option maxRecDepth 20000
set_option maxHeartbeats 4000000
attribute [local irreducible] WPc WPl WPq ReadR OpT BinR HasS bx rdN rowN Take Takes Prov Triple ResF BuildP Done ag Int.decLt Int.decLe Int.instDecidableEq

/-- What a segment is summed with. -/
def psu (h : Hd) (n : Nat) : List UInt8 :=
  if h.six then [h.src.bytes, h.dst.bytes].flatten ++ be n 4 ++ nbs [0, 0, 0, (h.proto.toNat : Nat)] else [h.src.bytes, h.dst.bytes].flatten ++ nbs [0, (h.proto.toNat : Nat)] ++ be n 2
theorem psu_len (h : Hd) (n : Nat) : (psu h n).length ≤ 40 := by
  have a1 := h.src.bytes_le
  have a2 := h.dst.bytes_le
  unfold psu
  split <;> simp [be_length, nbs] <;> omega
attribute [local irreducible] be
theorem pseudo_t (h : Hd) (k : Int) (n : Nat) (hkw : IntKind.u64.wrap k = (n : Int)) (hn : n < 18446744073709551616) : Triple Tryz.prog 165 #[ag (hdc h), .int .i64 k] [] (ROb (psu h n)) := by
  have l1 := h.src.len
  have l2 := h.dst.len
  have a1 := h.src.bytes_le
  have a2 := h.dst.bytes_le
  have hb4 := be_length n 4
  have hb2 := be_length n 2
  obtain ⟨p, hp⟩ : ∃ p, p = [h.src.bytes, h.dst.bytes].flatten := ⟨_, rfl⟩
  have hpl : p.length ≤ 32 := by rw [hp]; simp; omega
  cases hs : h.six with
  | true =>
    rw [show psu h n = p ++ be n 4 ++ nbs [0, 0, 0, (h.proto.toNat : Nat)] by unfold psu; rw [if_pos hs, hp]]
    refine Triple.enter Tryz.func165 rfl Tryz.ntmps165 rfl (fun W => ?_)
    dsimp only [argsF, Nat.reduceAdd]
    repeat' (first
     | refine WPl.nil ?_ | refine WPq.then ?_ | refine WPq.thenR ?_ | refine WPq.thenE ?_ | refine WPq.blockN ?_ | refine WPq.blockR ?_ | refine WPq.blockE ?_ | refine WPq.blockO rfl ?_ | refine WPc.seq ?_ | refine WPc.block ?_ | refine WPc.ret ?_ | refine WPc.exit ?_ | refine WPc.skip ?_ | refine WPc.region ?_
     | (refine isReg 1 ?_; refine WPc.drA [([], [9, 10]), ([0], [6, 9, 10]), ([0, 1], [6, 7, 9, 10]), ([], [6, 7, 8]), ([3], [6, 7, 8, 9]), ([0, 1, 2, 3, 4], [6, 7, 8, 9, 10]), ([0, 1, 2, 3, 4, 5], [6, 7, 8, 9, 10, 11]), ([0, 1, 2, 3, 4, 5, 6], [6, 7, 8, 9, 10, 11, 12]), ([0, 1, 2, 3, 4, 5, 6, 7], [6, 7, 8, 9, 10, 11, 12, 13])] [] (Γx := []) ?_; dsimp only [prev0, List.length_nil, List.length_cons])
     | (refine isReg 3 ?_; refine WPc.drA [([], [17, 18, 20, 21, 22]), ([], [16, 20, 21, 22]), ([1], [16, 17, 20, 21, 22]), ([0, 1, 2], [16, 17, 18, 20, 21, 22]), ([], [16, 17, 18, 19]), ([4], [16, 17, 18, 19, 20]), ([4, 5], [16, 17, 18, 19, 20, 21]), ([0, 1, 2, 3, 4, 5, 6], [16, 17, 18, 19, 20, 21, 22]), ([0, 1, 2, 3, 4, 5, 6, 7], [16, 17, 18, 19, 20, 21, 22, 23])] [(3, 7)] (Γx := []) ?_; dsimp only [prev0, List.length_nil, List.length_cons])
     | (refine gAny ?_; first | (refine gC 8 ?_; refine RGl.row (Γ1 := fun _ => []) (fun e hk => OpT.callN (addrBytes_t h.src)) ?_) | (refine gC 11 ?_; refine RGl.row (Γ1 := fun _ => []) (fun e hk => OpT.callN (addrBytes_t h.dst)) ?_) | (refine gC 13 ?_; refine RGl.row (Γ1 := fun _ => []) (fun e hk => OpT.callN (bytesE_t _ [_, _] [h.src.bytes, h.dst.bytes] p hp.symm rfl (by simp; omega) (by simp))) ?_) | (refine gC 19 ?_; refine RGl.row (Γ1 := fun _ => []) (fun e hk => OpT.callN (put_t _ p n 4 (by omega) (by omega) (by omega) (by omega))) ?_) | (refine gD 18 ?_; refine RGl.rdX (fun e hk => by (try dsimp only [bndR, ensR, oksR, fcutR, List.append_nil, List.nil_append, List.cons_append, List.append_assoc] at hk ⊢); exact ReadR.convT hkw rfl rfl) ?_) | (refine gOp ?_; first | refine RGl.rdA ?_ | refine RGl.rdX (fun e hk => by (try dsimp only [bndR, ensR, oksR, fcutR, List.append_nil, List.nil_append, List.cons_append, List.append_assoc] at hk ⊢); exact readB) ?_) | (refine gLit ?_; refine RGl.litA ?_) | (refine gApp ?_; refine RGl.appA ?_) | (refine RGl.fin (fun e hk => ?_); (try dsimp only [bndA, ensAR, oksA, List.append_nil, List.nil_append, List.cons_append, List.append_assoc] at hk ⊢); (repeat (obtain ⟨hk1, hk⟩ := hk))) | fail)
     | (refine isCond ?_; first | refine WPc.cT ?_ | refine WPc.cF ?_ | (refine WPc.cQ (fun hc => ?_) (fun hc => ?_) <;> try exact prA))
     | (refine isLit ?_; refine WPl.lit fun v hv => ?_)
     | (refine isLit ?_; refine WPl.lits fun v hv => ?_)
     | (refine isApp ?_; refine WPl.app fun v hv => ?_)
     | (refine isC 8 ?_; refine WPl.cR (addrBytes_t h.src) fun v hv => ?_)
     | (refine isC 11 ?_; refine WPl.cR (addrBytes_t h.dst) fun v hv => ?_)
     | (refine isC 13 ?_; refine WPl.cR (bytesE_t _ [_, _] [h.src.bytes, h.dst.bytes] p hp.symm rfl (by simp; omega) (by simp)) fun v hv => ?_)
     | (refine isD 18 ?_; refine WPl.rdX (ReadR.convT hkw rfl rfl) ?_)
     | (refine isC 19 ?_; refine WPl.cR (put_t _ p n 4 (by omega) (by omega) (by omega) (by omega)) fun v hv => ?_)
     | (refine isOp ?_; first | refine WPl.rd ?_ | refine WPl.sk ?_ | refine WPl.rdB ?_)
     | (refine isBx ?_; refine WPl.nw fun g => ?_)
     | (show WPl _ _ _ _ _ _ _ (⟨_, .indexAddr _ _ _, _, _, _, _⟩ :: _) _; refine WPl.rdX (ReadR.indexE rfl rfl hasA (by first | assumption | omega)) ?_)
     | (show WPl _ _ _ _ _ _ _ (⟨_, .fieldAddr _ _ _, _, _, _, _⟩ :: _) _; refine WPl.rdX (ReadR.fieldE rfl hasA (by first | assumption | omega)) ?_)
     | (show WPl _ _ _ _ _ _ _ (⟨_, .load _ _, _, _, _, _⟩ :: _) _; first | refine WPl.rdX (ReadR.loadE rfl hasA (by assumption)) ?_ | refine WPl.rdX (ReadR.loadES (by assumption) (by first | assumption | omega) rfl hasA) ?_)
     | (show WPl _ _ _ _ _ _ _ (⟨_, .slice _ _ _ _ _, _, _, _, _⟩ :: _) _; first | refine WPl.rdX (ReadR.sliceH rfl rfl hasA (by omega)) ?_ | refine WPl.rdX (ReadR.sliceL rfl rfl hasA (by omega)) ?_ | refine WPl.rdX (ReadR.sliceLH rfl rfl rfl hasA (by omega) (by omega)) ?_)
     | (refine WPl.spQ (fun hc => ?_) (fun hc => ?_) <;> try exact prA)
     | fail)
    all_goals try (first | exact WPq.dTp | exact WPq.dTs | exact WPq.dV | exact WPq.dR | exact WPq.dR2 | exact WPq.dH | exact WPq.dBH | exact WPq.dT)
  | false =>
    rw [show psu h n = p ++ nbs [0, (h.proto.toNat : Nat)] ++ be n 2 by unfold psu; rw [if_neg (by rw [hs]; decide), hp]]
    refine Triple.enter Tryz.func165 rfl Tryz.ntmps165 rfl (fun W => ?_)
    dsimp only [argsF, Nat.reduceAdd]
    repeat' (first
     | refine WPl.nil ?_ | refine WPq.then ?_ | refine WPq.thenR ?_ | refine WPq.thenE ?_ | refine WPq.blockN ?_ | refine WPq.blockR ?_ | refine WPq.blockE ?_ | refine WPq.blockO rfl ?_ | refine WPc.seq ?_ | refine WPc.block ?_ | refine WPc.ret ?_ | refine WPc.exit ?_ | refine WPc.skip ?_ | refine WPc.region ?_
     | (refine isReg 1 ?_; refine WPc.drA [([], [9, 10]), ([0], [6, 9, 10]), ([0, 1], [6, 7, 9, 10]), ([], [6, 7, 8]), ([3], [6, 7, 8, 9]), ([0, 1, 2, 3, 4], [6, 7, 8, 9, 10]), ([0, 1, 2, 3, 4, 5], [6, 7, 8, 9, 10, 11]), ([0, 1, 2, 3, 4, 5, 6], [6, 7, 8, 9, 10, 11, 12]), ([0, 1, 2, 3, 4, 5, 6, 7], [6, 7, 8, 9, 10, 11, 12, 13])] [] (Γx := []) ?_; dsimp only [prev0, List.length_nil, List.length_cons])
     | (refine isReg 3 ?_; refine WPc.drA [([], [17, 18, 20, 21, 22]), ([], [16, 20, 21, 22]), ([1], [16, 17, 20, 21, 22]), ([0, 1, 2], [16, 17, 18, 20, 21, 22]), ([], [16, 17, 18, 19]), ([4], [16, 17, 18, 19, 20]), ([4, 5], [16, 17, 18, 19, 20, 21]), ([0, 1, 2, 3, 4, 5, 6], [16, 17, 18, 19, 20, 21, 22]), ([0, 1, 2, 3, 4, 5, 6, 7], [16, 17, 18, 19, 20, 21, 22, 23])] [(3, 7)] (Γx := []) ?_; dsimp only [prev0, List.length_nil, List.length_cons])
     | (refine gAny ?_; first | (refine gC 8 ?_; refine RGl.row (Γ1 := fun _ => []) (fun e hk => OpT.callN (addrBytes_t h.src)) ?_) | (refine gC 11 ?_; refine RGl.row (Γ1 := fun _ => []) (fun e hk => OpT.callN (addrBytes_t h.dst)) ?_) | (refine gC 13 ?_; refine RGl.row (Γ1 := fun _ => []) (fun e hk => OpT.callN (bytesE_t _ [_, _] [h.src.bytes, h.dst.bytes] p hp.symm rfl (by simp; omega) (by simp))) ?_) | (refine gC 31 ?_; refine RGl.row (Γ1 := fun _ => []) (fun e hk => OpT.callN (put_t _ (p ++ nbs [0, (h.proto.toNat : Nat)]) n 2 (by simp [nbs]; omega) (by omega) (by omega) (by omega))) ?_) | (refine gD 30 ?_; refine RGl.rdX (fun e hk => by (try dsimp only [bndR, ensR, oksR, fcutR, List.append_nil, List.nil_append, List.cons_append, List.append_assoc] at hk ⊢); exact ReadR.convT hkw rfl rfl) ?_) | (refine gOp ?_; first | refine RGl.rdA ?_ | refine RGl.rdX (fun e hk => by (try dsimp only [bndR, ensR, oksR, fcutR, List.append_nil, List.nil_append, List.cons_append, List.append_assoc] at hk ⊢); exact readB) ?_) | (refine gLit ?_; refine RGl.litA ?_) | (refine gApp ?_; refine RGl.appA ?_) | (refine RGl.fin (fun e hk => ?_); (try dsimp only [bndA, ensAR, oksA, List.append_nil, List.nil_append, List.cons_append, List.append_assoc] at hk ⊢); (repeat (obtain ⟨hk1, hk⟩ := hk))) | fail)
     | (refine isCond ?_; first | refine WPc.cT ?_ | refine WPc.cF ?_ | (refine WPc.cQ (fun hc => ?_) (fun hc => ?_) <;> try exact prA))
     | (refine isLit ?_; refine WPl.lit fun v hv => ?_)
     | (refine isLit ?_; refine WPl.lits fun v hv => ?_)
     | (refine isApp ?_; refine WPl.app fun v hv => ?_)
     | (refine isC 8 ?_; refine WPl.cR (addrBytes_t h.src) fun v hv => ?_)
     | (refine isC 11 ?_; refine WPl.cR (addrBytes_t h.dst) fun v hv => ?_)
     | (refine isC 13 ?_; refine WPl.cR (bytesE_t _ [_, _] [h.src.bytes, h.dst.bytes] p hp.symm rfl (by simp; omega) (by simp)) fun v hv => ?_)
     | (refine isD 30 ?_; refine WPl.rdX (ReadR.convT hkw rfl rfl) ?_)
     | (refine isC 31 ?_; refine WPl.cR (put_t _ (p ++ nbs [0, (h.proto.toNat : Nat)]) n 2 (by simp [nbs]; omega) (by omega) (by omega) (by omega)) fun v hv => ?_)
     | (refine isOp ?_; first | refine WPl.rd ?_ | refine WPl.sk ?_ | refine WPl.rdB ?_)
     | (refine isBx ?_; refine WPl.nw fun g => ?_)
     | (show WPl _ _ _ _ _ _ _ (⟨_, .indexAddr _ _ _, _, _, _, _⟩ :: _) _; refine WPl.rdX (ReadR.indexE rfl rfl hasA (by first | assumption | omega)) ?_)
     | (show WPl _ _ _ _ _ _ _ (⟨_, .fieldAddr _ _ _, _, _, _, _⟩ :: _) _; refine WPl.rdX (ReadR.fieldE rfl hasA (by first | assumption | omega)) ?_)
     | (show WPl _ _ _ _ _ _ _ (⟨_, .load _ _, _, _, _, _⟩ :: _) _; first | refine WPl.rdX (ReadR.loadE rfl hasA (by assumption)) ?_ | refine WPl.rdX (ReadR.loadES (by assumption) (by first | assumption | omega) rfl hasA) ?_)
     | (show WPl _ _ _ _ _ _ _ (⟨_, .slice _ _ _ _ _, _, _, _, _⟩ :: _) _; first | refine WPl.rdX (ReadR.sliceH rfl rfl hasA (by omega)) ?_ | refine WPl.rdX (ReadR.sliceL rfl rfl hasA (by omega)) ?_ | refine WPl.rdX (ReadR.sliceLH rfl rfl rfl hasA (by omega) (by omega)) ?_)
     | (refine WPl.spQ (fun hc => ?_) (fun hc => ?_) <;> try exact prA)
     | fail)
    all_goals try (first | exact WPq.dTp | exact WPq.dTs | exact WPq.dV | exact WPq.dR | exact WPq.dR2 | exact WPq.dH | exact WPq.dBH | exact WPq.dT)
theorem rpseudo_t (h : Hd) (k : Int) (n : Nat) (hkw : IntKind.u64.wrap k = (n : Int)) (hn : n < 18446744073709551616) : Triple Tryz.prog 98 #[ag (hdc h), .int .i64 k] [] (ROb (psu h n)) := by
  have l1 := h.src.len
  have l2 := h.dst.len
  have a1 := h.src.bytes_le
  have a2 := h.dst.bytes_le
  have hb4 := be_length n 4
  have hb2 := be_length n 2
  have hpe : [h.src.bytes, h.dst.bytes].flatten = h.src.bytes ++ h.dst.bytes := by simp
  cases hs : h.six with
  | true =>
    rw [show psu h n = h.src.bytes ++ h.dst.bytes ++ be n 4 ++ nbs [0, 0, 0, (h.proto.toNat : Nat)] by unfold psu; rw [if_pos hs, hpe]]
    refine Triple.enter Tryz.func98 rfl Tryz.ntmps98 rfl (fun W => ?_)
    dsimp only [argsF, Nat.reduceAdd]
    repeat' (first
     | refine WPl.nil ?_ | refine WPq.then ?_ | refine WPq.thenR ?_ | refine WPq.thenE ?_ | refine WPq.blockN ?_ | refine WPq.blockR ?_ | refine WPq.blockE ?_ | refine WPq.blockO rfl ?_ | refine WPc.seq ?_ | refine WPc.block ?_ | refine WPc.ret ?_ | refine WPc.exit ?_ | refine WPc.skip ?_ | refine WPc.region ?_
     | (refine isReg 1 ?_; refine WPc.drA [([], [9, 10]), ([0], [6, 9, 10]), ([0, 1], [6, 7, 9, 10]), ([], [6, 7, 8]), ([3], [6, 7, 8, 9]), ([0, 1, 2, 3, 4], [6, 7, 8, 9, 10]), ([0, 1, 2, 3, 4, 5], [6, 7, 8, 9, 10, 11]), ([0, 1, 2, 3, 4, 5, 6], [6, 7, 8, 9, 10, 11, 12])] [(2, 6), (2, 5)] (Γx := []) ?_; dsimp only [prev0, List.length_nil, List.length_cons])
     | (refine isReg 3 ?_; refine WPc.drA [([], [16, 17, 19, 20, 21]), ([], [15, 19, 20, 21]), ([1], [15, 16, 19, 20, 21]), ([0, 1, 2], [15, 16, 17, 19, 20, 21]), ([], [15, 16, 17, 18]), ([4], [15, 16, 17, 18, 19]), ([4, 5], [15, 16, 17, 18, 19, 20]), ([0, 1, 2, 3, 4, 5, 6], [15, 16, 17, 18, 19, 20, 21]), ([0, 1, 2, 3, 4, 5, 6, 7], [15, 16, 17, 18, 19, 20, 21, 22])] [(3, 7)] (Γx := []) ?_; dsimp only [prev0, List.length_nil, List.length_cons])
     | (refine gAny ?_; first | (refine gC 8 ?_; refine RGl.row (Γ1 := fun _ => []) (fun e hk => OpT.callN (rbytes_t h.src)) ?_) | (refine gC 11 ?_; refine RGl.row (Γ1 := fun _ => []) (fun e hk => OpT.callN (rbytes_t h.dst)) ?_) | (refine gC 18 ?_; refine RGl.row (Γ1 := fun _ => []) (fun e hk => OpT.callN (rput_t _ (h.src.bytes ++ h.dst.bytes) n 4 (by omega) (by omega) (by simp; omega))) ?_) | (refine gD 17 ?_; refine RGl.rdX (fun e hk => by (try dsimp only [bndR, ensR, oksR, fcutR, List.append_nil, List.nil_append, List.cons_append, List.append_assoc] at hk ⊢); exact ReadR.convT hkw rfl rfl) ?_) | (refine gOp ?_; first | refine RGl.rdA ?_ | refine RGl.rdX (fun e hk => by (try dsimp only [bndR, ensR, oksR, fcutR, List.append_nil, List.nil_append, List.cons_append, List.append_assoc] at hk ⊢); exact readB) ?_) | (refine gLit ?_; refine RGl.litA ?_) | (refine gApp ?_; refine RGl.appA ?_) | (refine RGl.fin (fun e hk => ?_); (try dsimp only [bndA, ensAR, oksA, List.append_nil, List.nil_append, List.cons_append, List.append_assoc] at hk ⊢); (repeat (obtain ⟨hk1, hk⟩ := hk))) | fail)
     | (refine isCond ?_; first | refine WPc.cT ?_ | refine WPc.cF ?_ | (refine WPc.cQ (fun hc => ?_) (fun hc => ?_) <;> try exact prA))
     | (refine isLit ?_; refine WPl.lit fun v hv => ?_)
     | (refine isApp ?_; refine WPl.app fun v hv => ?_)
     | (refine isC 8 ?_; refine WPl.cR (rbytes_t h.src) fun v hv => ?_)
     | (refine isC 11 ?_; refine WPl.cR (rbytes_t h.dst) fun v hv => ?_)
     | (refine isD 17 ?_; refine WPl.rdX (ReadR.convT hkw rfl rfl) ?_)
     | (refine isC 18 ?_; refine WPl.cR (rput_t _ (h.src.bytes ++ h.dst.bytes) n 4 (by omega) (by omega) (by simp; omega)) fun v hv => ?_)
     | (refine isOp ?_; first | refine WPl.rd ?_ | refine WPl.sk ?_ | refine WPl.rdB ?_)
     | (refine isBx ?_; refine WPl.nw fun g => ?_)
     | (show WPl _ _ _ _ _ _ _ (⟨_, .indexAddr _ _ _, _, _, _, _⟩ :: _) _; refine WPl.rdX (ReadR.indexE rfl rfl hasA (by first | assumption | omega)) ?_)
     | (show WPl _ _ _ _ _ _ _ (⟨_, .fieldAddr _ _ _, _, _, _, _⟩ :: _) _; refine WPl.rdX (ReadR.fieldE rfl hasA (by first | assumption | omega)) ?_)
     | (show WPl _ _ _ _ _ _ _ (⟨_, .load _ _, _, _, _, _⟩ :: _) _; first | refine WPl.rdX (ReadR.loadE rfl hasA (by assumption)) ?_ | refine WPl.rdX (ReadR.loadES (by assumption) (by first | assumption | omega) rfl hasA) ?_)
     | (show WPl _ _ _ _ _ _ _ (⟨_, .slice _ _ _ _ _, _, _, _, _⟩ :: _) _; first | refine WPl.rdX (ReadR.sliceH rfl rfl hasA (by omega)) ?_ | refine WPl.rdX (ReadR.sliceL rfl rfl hasA (by omega)) ?_ | refine WPl.rdX (ReadR.sliceLH rfl rfl rfl hasA (by omega) (by omega)) ?_)
     | (refine WPl.spQ (fun hc => ?_) (fun hc => ?_) <;> try exact prA)
     | fail)
    all_goals try (first | exact WPq.dTp | exact WPq.dTs | exact WPq.dV | exact WPq.dR | exact WPq.dR2 | exact WPq.dH | exact WPq.dBH | exact WPq.dT)
  | false =>
    rw [show psu h n = h.src.bytes ++ h.dst.bytes ++ nbs [0, (h.proto.toNat : Nat)] ++ be n 2 by unfold psu; rw [if_neg (by rw [hs]; decide), hpe]]
    refine Triple.enter Tryz.func98 rfl Tryz.ntmps98 rfl (fun W => ?_)
    dsimp only [argsF, Nat.reduceAdd]
    repeat' (first
     | refine WPl.nil ?_ | refine WPq.then ?_ | refine WPq.thenR ?_ | refine WPq.thenE ?_ | refine WPq.blockN ?_ | refine WPq.blockR ?_ | refine WPq.blockE ?_ | refine WPq.blockO rfl ?_ | refine WPc.seq ?_ | refine WPc.block ?_ | refine WPc.ret ?_ | refine WPc.exit ?_ | refine WPc.skip ?_ | refine WPc.region ?_
     | (refine isReg 1 ?_; refine WPc.drA [([], [9, 10]), ([0], [6, 9, 10]), ([0, 1], [6, 7, 9, 10]), ([], [6, 7, 8]), ([3], [6, 7, 8, 9]), ([0, 1, 2, 3, 4], [6, 7, 8, 9, 10]), ([0, 1, 2, 3, 4, 5], [6, 7, 8, 9, 10, 11]), ([0, 1, 2, 3, 4, 5, 6], [6, 7, 8, 9, 10, 11, 12])] [(2, 6), (2, 5)] (Γx := []) ?_; dsimp only [prev0, List.length_nil, List.length_cons])
     | (refine isReg 3 ?_; refine WPc.drA [([], [16, 17, 19, 20, 21]), ([], [15, 19, 20, 21]), ([1], [15, 16, 19, 20, 21]), ([0, 1, 2], [15, 16, 17, 19, 20, 21]), ([], [15, 16, 17, 18]), ([4], [15, 16, 17, 18, 19]), ([4, 5], [15, 16, 17, 18, 19, 20]), ([0, 1, 2, 3, 4, 5, 6], [15, 16, 17, 18, 19, 20, 21]), ([0, 1, 2, 3, 4, 5, 6, 7], [15, 16, 17, 18, 19, 20, 21, 22])] [(3, 7)] (Γx := []) ?_; dsimp only [prev0, List.length_nil, List.length_cons])
     | (refine gAny ?_; first | (refine gC 8 ?_; refine RGl.row (Γ1 := fun _ => []) (fun e hk => OpT.callN (rbytes_t h.src)) ?_) | (refine gC 11 ?_; refine RGl.row (Γ1 := fun _ => []) (fun e hk => OpT.callN (rbytes_t h.dst)) ?_) | (refine gC 30 ?_; refine RGl.row (Γ1 := fun _ => []) (fun e hk => OpT.callN (rput_t _ (h.src.bytes ++ h.dst.bytes ++ nbs [0, (h.proto.toNat : Nat)]) n 2 (by omega) (by omega) (by simp [nbs]; omega))) ?_) | (refine gD 29 ?_; refine RGl.rdX (fun e hk => by (try dsimp only [bndR, ensR, oksR, fcutR, List.append_nil, List.nil_append, List.cons_append, List.append_assoc] at hk ⊢); exact ReadR.convT hkw rfl rfl) ?_) | (refine gOp ?_; first | refine RGl.rdA ?_ | refine RGl.rdX (fun e hk => by (try dsimp only [bndR, ensR, oksR, fcutR, List.append_nil, List.nil_append, List.cons_append, List.append_assoc] at hk ⊢); exact readB) ?_) | (refine gLit ?_; refine RGl.litA ?_) | (refine gApp ?_; refine RGl.appA ?_) | (refine RGl.fin (fun e hk => ?_); (try dsimp only [bndA, ensAR, oksA, List.append_nil, List.nil_append, List.cons_append, List.append_assoc] at hk ⊢); (repeat (obtain ⟨hk1, hk⟩ := hk))) | fail)
     | (refine isCond ?_; first | refine WPc.cT ?_ | refine WPc.cF ?_ | (refine WPc.cQ (fun hc => ?_) (fun hc => ?_) <;> try exact prA))
     | (refine isLit ?_; refine WPl.lit fun v hv => ?_)
     | (refine isApp ?_; refine WPl.app fun v hv => ?_)
     | (refine isC 8 ?_; refine WPl.cR (rbytes_t h.src) fun v hv => ?_)
     | (refine isC 11 ?_; refine WPl.cR (rbytes_t h.dst) fun v hv => ?_)
     | (refine isD 29 ?_; refine WPl.rdX (ReadR.convT hkw rfl rfl) ?_)
     | (refine isC 30 ?_; refine WPl.cR (rput_t _ (h.src.bytes ++ h.dst.bytes ++ nbs [0, (h.proto.toNat : Nat)]) n 2 (by omega) (by omega) (by simp [nbs]; omega)) fun v hv => ?_)
     | (refine isOp ?_; first | refine WPl.rd ?_ | refine WPl.sk ?_ | refine WPl.rdB ?_)
     | (refine isBx ?_; refine WPl.nw fun g => ?_)
     | (show WPl _ _ _ _ _ _ _ (⟨_, .indexAddr _ _ _, _, _, _, _⟩ :: _) _; refine WPl.rdX (ReadR.indexE rfl rfl hasA (by first | assumption | omega)) ?_)
     | (show WPl _ _ _ _ _ _ _ (⟨_, .fieldAddr _ _ _, _, _, _, _⟩ :: _) _; refine WPl.rdX (ReadR.fieldE rfl hasA (by first | assumption | omega)) ?_)
     | (show WPl _ _ _ _ _ _ _ (⟨_, .load _ _, _, _, _, _⟩ :: _) _; first | refine WPl.rdX (ReadR.loadE rfl hasA (by assumption)) ?_ | refine WPl.rdX (ReadR.loadES (by assumption) (by first | assumption | omega) rfl hasA) ?_)
     | (show WPl _ _ _ _ _ _ _ (⟨_, .slice _ _ _ _ _, _, _, _, _⟩ :: _) _; first | refine WPl.rdX (ReadR.sliceH rfl rfl hasA (by omega)) ?_ | refine WPl.rdX (ReadR.sliceL rfl rfl hasA (by omega)) ?_ | refine WPl.rdX (ReadR.sliceLH rfl rfl rfl hasA (by omega) (by omega)) ?_)
     | (refine WPl.spQ (fun hc => ?_) (fun hc => ?_) <;> try exact prA)
     | fail)
    all_goals try (first | exact WPq.dTp | exact WPq.dTs | exact WPq.dV | exact WPq.dR | exact WPq.dR2 | exact WPq.dH | exact WPq.dBH | exact WPq.dT)
attribute [local irreducible] psu
def sgood (h : Hd) (b : List UInt8) : Bool := decide (csum (psu h b.length ++ b) = 0)
theorem wrapLen {n : Nat} (h : n < 9223372036854775808) : IntKind.u64.wrap ((n : Nat) : Int) = (n : Int) := by rw [IntKind.wrap_u64]; omega
theorem sgood_t (h : Hd) (vb : Value) (b : List UInt8) (hl : b.length ≤ 100000) : Triple Tryz.prog 141 #[ag (hdc h), vb] [rb vb b] (RVal (.bool (sgood h b))) := by
  have l1 := h.src.len
  have l2 := h.dst.len
  have hp := psu_len h b.length
  refine Triple.enter Tryz.func141 rfl Tryz.ntmps141 rfl (fun W => ?_)
  dsimp only [argsF, Nat.reduceAdd]
  repeat' (first
   | refine WPl.nil ?_ | refine WPq.then ?_ | refine WPq.thenR ?_ | refine WPq.thenE ?_ | refine WPq.blockN ?_ | refine WPq.blockR ?_ | refine WPq.blockE ?_ | refine WPq.blockO rfl ?_ | refine WPc.seq ?_ | refine WPc.block ?_ | refine WPc.ret ?_ | refine WPc.exit ?_ | refine WPc.skip ?_ | refine WPc.region ?_
   | (refine isCond ?_; first | refine WPc.cT ?_ | refine WPc.cF ?_ | (refine WPc.cQ (fun hc => ?_) (fun hc => ?_) <;> try exact prA))
   | (refine isLit ?_; refine WPl.lits fun v hv => ?_)
   | (refine isC 8 ?_; refine WPl.cR (pseudo_t h b.length b.length (wrapLen (by omega)) (by omega)) fun v hv => ?_)
   | (refine isC 11 ?_; refine WPl.cV (igood_t _ [_, _] [psu h b.length, b] (sgood h b) (by simp [sgood]) rfl (by simp; omega) (by simp)) ?_)
   | (refine isOp ?_; first | refine WPl.rd ?_ | refine WPl.sk ?_ | refine WPl.rdB ?_)
   | (refine isBx ?_; refine WPl.nw fun g => ?_)
   | (show WPl _ _ _ _ _ _ _ (⟨_, .indexAddr _ _ _, _, _, _, _⟩ :: _) _; refine WPl.rdX (ReadR.indexE rfl rfl hasA (by first | assumption | omega)) ?_)
   | (show WPl _ _ _ _ _ _ _ (⟨_, .fieldAddr _ _ _, _, _, _, _⟩ :: _) _; refine WPl.rdX (ReadR.fieldE rfl hasA (by first | assumption | omega)) ?_)
   | (show WPl _ _ _ _ _ _ _ (⟨_, .load _ _, _, _, _, _⟩ :: _) _; first | refine WPl.rdX (ReadR.loadE rfl hasA (by assumption)) ?_ | refine WPl.rdX (ReadR.loadES (by assumption) (by first | assumption | omega) rfl hasA) ?_)
   | (show WPl _ _ _ _ _ _ _ (⟨_, .slice _ _ _ _ _, _, _, _, _⟩ :: _) _; first | refine WPl.rdX (ReadR.sliceH rfl rfl hasA (by omega)) ?_ | refine WPl.rdX (ReadR.sliceL rfl rfl hasA (by omega)) ?_ | refine WPl.rdX (ReadR.sliceLH rfl rfl rfl hasA (by omega) (by omega)) ?_)
   | (refine WPl.spQ (fun hc => ?_) (fun hc => ?_) <;> try exact prA)
   | fail)
  all_goals try (first | exact WPq.dTp | exact WPq.dTs | exact WPq.dV | exact WPq.dR | exact WPq.dR2 | exact WPq.dH | exact WPq.dBH | exact WPq.dT)
theorem port_t (vb : Value) (b : List UInt8) (k : Nat) (hk : k + 2 ≤ b.length) (hl : b.length ≤ 100000) : Triple Tryz.prog 108 #[vb, .int .i64 (k : Int)] [rb vb b] (RVal (.int .u16 (val (seg b k 2) : Nat))) := by
  have hv := val2_lt (l := b) (k := k)
  refine Triple.enter Tryz.func108 rfl Tryz.ntmps108 rfl (fun W => ?_)
  dsimp only [argsF, Nat.reduceAdd]
  repeat' (first
   | refine WPl.nil ?_ | refine WPq.then ?_ | refine WPq.thenR ?_ | refine WPq.thenE ?_ | refine WPq.blockN ?_ | refine WPq.blockR ?_ | refine WPq.blockE ?_ | refine WPq.blockO rfl ?_ | refine WPc.seq ?_ | refine WPc.block ?_ | refine WPc.ret ?_ | refine WPc.exit ?_ | refine WPc.skip ?_ | refine WPc.region ?_
   | (refine isCond ?_; first | refine WPc.cT ?_ | refine WPc.cF ?_ | (refine WPc.cQ (fun hc => ?_) (fun hc => ?_) <;> try exact prA))
   | (refine isC 10 ?_; refine WPl.cV (get_t vb b k 2 (by omega) (by omega) (by omega) (by omega)) ?_)
   | (refine isOp ?_; first | refine WPl.rd ?_ | refine WPl.sk ?_ | refine WPl.rdB ?_)
   | (show WPl _ _ _ _ _ _ _ (⟨_, .indexAddr _ _ _, _, _, _, _⟩ :: _) _; refine WPl.rdX (ReadR.indexE rfl rfl hasA (by first | assumption | omega)) ?_)
   | (show WPl _ _ _ _ _ _ _ (⟨_, .fieldAddr _ _ _, _, _, _, _⟩ :: _) _; refine WPl.rdX (ReadR.fieldE rfl hasA (by first | assumption | omega)) ?_)
   | (show WPl _ _ _ _ _ _ _ (⟨_, .load _ _, _, _, _, _⟩ :: _) _; first | refine WPl.rdX (ReadR.loadE rfl hasA (by assumption)) ?_ | refine WPl.rdX (ReadR.loadES (by assumption) (by first | assumption | omega) rfl hasA) ?_)
   | (show WPl _ _ _ _ _ _ _ (⟨_, .slice _ _ _ _ _, _, _, _, _⟩ :: _) _; first | refine WPl.rdX (ReadR.sliceH rfl rfl hasA (by omega)) ?_ | refine WPl.rdX (ReadR.sliceL rfl rfl hasA (by omega)) ?_ | refine WPl.rdX (ReadR.sliceLH rfl rfl rfl hasA (by omega) (by omega)) ?_)
   | (refine WPl.spQ (fun hc => ?_) (fun hc => ?_) <;> try exact prA)
   | fail)
  all_goals try (first | exact WPq.dTp | exact WPq.dTs | exact WPq.dV | exact WPq.dR | exact WPq.dR2 | exact WPq.dH | exact WPq.dBH | exact WPq.dT)
/-- A segment's head. -/
structure Sg where
  src : Nat
  dst : Nat
  flags : UInt8
  sumAt : Int
  zero : Bool
  data : Int
abbrev sgc (s : Sg) : Ch := [(1, [.int .u16 (s.src : Int)]), (1, [.int .u16 (s.dst : Int)]), (1, [.int .u8 ((s.flags.toNat : Nat) : Int)]), (1, [.int .i64 s.sumAt]), (1, [.bool s.zero]), (1, [.int .i64 s.data])]
def Sg.none : Sg := ⟨0, 0, 0, 0, false, 0⟩
def tN (b : List UInt8) : Nat := 4 * (byteN b 12 / 16)
def tcpE (h : Hd) (b : List UInt8) : Int := if b.length < 20 then 9 else if tN b < 20 then 4 else if b.length < tN b then 9 else if sgood h b = false then 5 else 0
def udpE (h : Hd) (b : List UInt8) : Int :=
  if b.length < 8 then 9 else if val (seg b 4 2) < 8 then 4 else if b.length < val (seg b 4 2) then 9 else if val (seg b 4 2) < b.length then 10
  else if val (seg b 6 2) = 0 ∧ h.six = true then 4 else if ¬ val (seg b 6 2) = 0 ∧ sgood h b = false then 5 else 0
def tcpS (b : List UInt8) : Sg := ⟨0, 0, b.getD 13 0, 16, false, tN b⟩
def udpS (b : List UInt8) : Sg := ⟨0, 0, 0, 6, decide (val (seg b 6 2) = 0), 8⟩
attribute [local irreducible] sgood
theorem tcp_no (h : Hd) (vb : Value) (b : List UInt8) (hl : b.length ≤ 100000) (he : tcpE h b ≠ 0) : Triple Tryz.prog 106 #[ag (hdc h), vb] [rb vb b] (RVal (.tuple #[ag (sgc Sg.none), .int .i64 (tcpE h b)])) := by
  have l1 := h.src.len
  have l2 := h.dst.len
  have u0 : byteN b 12 = (b.getD 12 0).toNat := rfl
  have hu := byteN_lt b 12
  have hg := sgood_t h vb b hl
  have htn : tN b = 4 * (byteN b 12 / 16) := rfl
  cases hsg : sgood h b with
  | true =>
    rw [hsg] at hg
    have h0 : tcpE h b = (if b.length < 20 then 9 else if tN b < 20 then 4 else if b.length < tN b then 9 else 0) := by unfold tcpE; rw [hsg]; simp
    rw [h0] at he ⊢
    have hne : b.length < 20 ∨ tN b < 20 ∨ b.length < tN b := by
      apply Classical.byContradiction
      intro hn
      apply he
      repeat' (first | omega | split)
    refine Triple.enter Tryz.func106 rfl Tryz.ntmps106 rfl (fun W => ?_)
    dsimp only [argsF, Nat.reduceAdd]
    repeat' (first
     | refine WPl.nil ?_ | refine WPq.then ?_ | refine WPq.thenR ?_ | refine WPq.thenE ?_ | refine WPq.blockN ?_ | refine WPq.blockR ?_ | refine WPq.blockE ?_ | refine WPq.blockO rfl ?_ | refine WPc.seq ?_ | refine WPc.block ?_ | refine WPc.ret ?_ | refine WPc.exit ?_ | refine WPc.skip ?_ | refine WPc.region ?_
     | (refine isCond ?_; first | refine WPc.cT ?_ | refine WPc.cF ?_ | (refine WPc.cQ (fun hc => ?_) (fun hc => ?_) <;> try exact prA))
     | (refine isC 30 ?_; refine WPl.cV (hg) ?_)
     | (refine isOp ?_; first | refine WPl.rd ?_ | refine WPl.sk ?_ | refine WPl.rdB ?_)
     | (refine isAl ?_; refine WPl.nw fun g => ?_)
     | (refine isBx ?_; refine WPl.nw fun g => ?_)
     | (refine isSt ?_; first | refine WPl.st1 ?_ | refine WPl.stA ?_ | refine WPl.stEB ?_ | refine WPl.stRB ?_)
     | (show WPl _ _ _ _ _ _ _ (⟨_, .indexAddr _ _ _, _, _, _, _⟩ :: _) _; refine WPl.rdX (ReadR.indexE rfl rfl hasA (by first | assumption | omega)) ?_)
     | (show WPl _ _ _ _ _ _ _ (⟨_, .fieldAddr _ _ _, _, _, _, _⟩ :: _) _; refine WPl.rdX (ReadR.fieldE rfl hasA (by first | assumption | omega)) ?_)
     | (show WPl _ _ _ _ _ _ _ (⟨_, .load _ _, _, _, _, _⟩ :: _) _; first | refine WPl.rdX (ReadR.loadE rfl hasA (by assumption)) ?_ | refine WPl.rdX (ReadR.loadES (by assumption) (by first | assumption | omega) rfl hasA) ?_)
     | (show WPl _ _ _ _ _ _ _ (⟨_, .slice _ _ _ _ _, _, _, _, _⟩ :: _) _; first | refine WPl.rdX (ReadR.sliceH rfl rfl hasA (by omega)) ?_ | refine WPl.rdX (ReadR.sliceL rfl rfl hasA (by omega)) ?_ | refine WPl.rdX (ReadR.sliceLH rfl rfl rfl hasA (by omega) (by omega)) ?_)
     | (refine WPl.spQ (fun hc => ?_) (fun hc => ?_) <;> try exact prA)
     | fail)
    all_goals
      refine WPq.dV (hc := ?_)
      show Value.tuple #[_, Value.int .i64 _] = Value.tuple #[_, Value.int .i64 _]
      congr 5
      repeat' (first | omega | split)
  | false =>
    rw [hsg] at hg
    have h0 : tcpE h b = (if b.length < 20 then 9 else if tN b < 20 then 4 else if b.length < tN b then 9 else 5) := by unfold tcpE; rw [hsg]; simp
    rw [h0]
    refine Triple.enter Tryz.func106 rfl Tryz.ntmps106 rfl (fun W => ?_)
    dsimp only [argsF, Nat.reduceAdd]
    repeat' (first
     | refine WPl.nil ?_ | refine WPq.then ?_ | refine WPq.thenR ?_ | refine WPq.thenE ?_ | refine WPq.blockN ?_ | refine WPq.blockR ?_ | refine WPq.blockE ?_ | refine WPq.blockO rfl ?_ | refine WPc.seq ?_ | refine WPc.block ?_ | refine WPc.ret ?_ | refine WPc.exit ?_ | refine WPc.skip ?_ | refine WPc.region ?_
     | (refine isCond ?_; first | refine WPc.cT ?_ | refine WPc.cF ?_ | (refine WPc.cQ (fun hc => ?_) (fun hc => ?_) <;> try exact prA))
     | (refine isC 30 ?_; refine WPl.cV (hg) ?_)
     | (refine isOp ?_; first | refine WPl.rd ?_ | refine WPl.sk ?_ | refine WPl.rdB ?_)
     | (refine isAl ?_; refine WPl.nw fun g => ?_)
     | (refine isBx ?_; refine WPl.nw fun g => ?_)
     | (refine isSt ?_; first | refine WPl.st1 ?_ | refine WPl.stA ?_ | refine WPl.stEB ?_ | refine WPl.stRB ?_)
     | (show WPl _ _ _ _ _ _ _ (⟨_, .indexAddr _ _ _, _, _, _, _⟩ :: _) _; refine WPl.rdX (ReadR.indexE rfl rfl hasA (by first | assumption | omega)) ?_)
     | (show WPl _ _ _ _ _ _ _ (⟨_, .fieldAddr _ _ _, _, _, _, _⟩ :: _) _; refine WPl.rdX (ReadR.fieldE rfl hasA (by first | assumption | omega)) ?_)
     | (show WPl _ _ _ _ _ _ _ (⟨_, .load _ _, _, _, _, _⟩ :: _) _; first | refine WPl.rdX (ReadR.loadE rfl hasA (by assumption)) ?_ | refine WPl.rdX (ReadR.loadES (by assumption) (by first | assumption | omega) rfl hasA) ?_)
     | (show WPl _ _ _ _ _ _ _ (⟨_, .slice _ _ _ _ _, _, _, _, _⟩ :: _) _; first | refine WPl.rdX (ReadR.sliceH rfl rfl hasA (by omega)) ?_ | refine WPl.rdX (ReadR.sliceL rfl rfl hasA (by omega)) ?_ | refine WPl.rdX (ReadR.sliceLH rfl rfl rfl hasA (by omega) (by omega)) ?_)
     | (refine WPl.spQ (fun hc => ?_) (fun hc => ?_) <;> try exact prA)
     | fail)
    all_goals
      refine WPq.dV (hc := ?_)
      show Value.tuple #[_, Value.int .i64 _] = Value.tuple #[_, Value.int .i64 _]
      congr 5
      repeat' (first | omega | split)
theorem tcp_yes (h : Hd) (vb : Value) (b : List UInt8) (hl : b.length ≤ 100000) (he : tcpE h b = 0) : Triple Tryz.prog 106 #[ag (hdc h), vb] [rb vb b] (RVal (.tuple #[ag (sgc (tcpS b)), .int .i64 0])) := by
  have l1 := h.src.len
  have l2 := h.dst.len
  have hu := byteN_lt b 12
  have hg := sgood_t h vb b hl
  have htn : tN b = 4 * (byteN b 12 / 16) := rfl
  have hmul : (4 : Int) * ((((b.getD 12 0).toNat : Nat) : Int) / 2 ^ 4) = ((tN b : Nat) : Int) := by rw [htn]; unfold byteN; omega
  have hf : 20 ≤ b.length ∧ 20 ≤ tN b ∧ tN b ≤ b.length ∧ sgood h b = true := by
    unfold tcpE at he
    repeat' (split at he)
    all_goals first | omega | (cases he; done) | skip
    exact ⟨by omega, by omega, by omega, by simpa using ‹¬ sgood h b = false›⟩
  obtain ⟨f1, f2, f3, f4⟩ := hf
  rw [f4] at hg
  refine Triple.enter Tryz.func106 rfl Tryz.ntmps106 rfl (fun W => ?_)
  dsimp only [argsF, Nat.reduceAdd]
  repeat' (first
   | refine WPl.nil ?_ | refine WPq.then ?_ | refine WPq.thenR ?_ | refine WPq.thenE ?_ | refine WPq.blockN ?_ | refine WPq.blockR ?_ | refine WPq.blockE ?_ | refine WPq.blockO rfl ?_ | refine WPc.seq ?_ | refine WPc.block ?_ | refine WPc.ret ?_ | refine WPc.exit ?_ | refine WPc.skip ?_ | refine WPc.region ?_
   | (refine isCond ?_; first | refine WPc.cT ?_ | refine WPc.cF ?_ | (refine WPc.cQ (fun hc => ?_) (fun hc => ?_) <;> try exact prA))
   | (refine isC 30 ?_; refine WPl.cV (hg) ?_)
   | (refine isD 16 ?_; refine WPl.rdX (ReadR.bin rfl rfl (BinR.mulT hmul (by simp only [kmin]; omega) (by simp only [kmax]; omega))) ?_)
   | (refine isOp ?_; first | refine WPl.rd ?_ | refine WPl.sk ?_ | refine WPl.rdB ?_)
   | (refine isAl ?_; refine WPl.nw fun g => ?_)
   | (refine isBx ?_; refine WPl.nw fun g => ?_)
   | (refine isSt ?_; first | refine WPl.st1 ?_ | refine WPl.stA ?_ | refine WPl.stEB ?_ | refine WPl.stRB ?_)
   | (show WPl _ _ _ _ _ _ _ (⟨_, .indexAddr _ _ _, _, _, _, _⟩ :: _) _; refine WPl.rdX (ReadR.indexE rfl rfl hasA (by first | assumption | omega)) ?_)
   | (show WPl _ _ _ _ _ _ _ (⟨_, .fieldAddr _ _ _, _, _, _, _⟩ :: _) _; refine WPl.rdX (ReadR.fieldE rfl hasA (by first | assumption | omega)) ?_)
   | (show WPl _ _ _ _ _ _ _ (⟨_, .load _ _, _, _, _, _⟩ :: _) _; first | refine WPl.rdX (ReadR.loadE rfl hasA (by assumption)) ?_ | refine WPl.rdX (ReadR.loadES (by assumption) (by first | assumption | omega) rfl hasA) ?_)
   | (show WPl _ _ _ _ _ _ _ (⟨_, .slice _ _ _ _ _, _, _, _, _⟩ :: _) _; first | refine WPl.rdX (ReadR.sliceH rfl rfl hasA (by omega)) ?_ | refine WPl.rdX (ReadR.sliceL rfl rfl hasA (by omega)) ?_ | refine WPl.rdX (ReadR.sliceLH rfl rfl rfl hasA (by omega) (by omega)) ?_)
   | (refine WPl.spQ (fun hc => ?_) (fun hc => ?_) <;> try exact prA)
   | fail)
  all_goals try (first | exact WPq.dTp | exact WPq.dTs | exact WPq.dV | exact WPq.dR | exact WPq.dR2 | exact WPq.dH | exact WPq.dBH | exact WPq.dT)
theorem udp_no (h : Hd) (vb : Value) (b : List UInt8) (hl : b.length ≤ 100000) (he : udpE h b ≠ 0) : Triple Tryz.prog 107 #[ag (hdc h), vb] [rb vb b] (RVal (.tuple #[ag (sgc Sg.none), .int .i64 (udpE h b)])) := by
  have l1 := h.src.len
  have l2 := h.dst.len
  have hv4 := val2_lt (l := b) (k := 4)
  have hv6 := val2_lt (l := b) (k := 6)
  have hg := sgood_t h vb b hl
  cases hsx : h.six with
  | true =>
    cases hsg : sgood h b with
    | true =>
      rw [hsg] at hg
      have h0 : udpE h b = (if b.length < 8 then 9 else if val (seg b 4 2) < 8 then 4 else if b.length < val (seg b 4 2) then 9 else if val (seg b 4 2) < b.length then 10 else if val (seg b 6 2) = 0 then 4 else 0) := by unfold udpE; rw [hsg, hsx]; simp
      rw [h0] at he ⊢
      have hne : b.length < 8 ∨ val (seg b 4 2) < 8 ∨ val (seg b 4 2) ≠ b.length ∨ val (seg b 6 2) = 0 := by
        apply Classical.byContradiction
        intro hn
        apply he
        repeat' (first | omega | split)
      refine Triple.enter Tryz.func107 rfl Tryz.ntmps107 rfl (fun W => ?_)
      dsimp only [argsF, Nat.reduceAdd]
      repeat' (first
       | refine WPl.nil ?_ | refine WPq.then ?_ | refine WPq.thenR ?_ | refine WPq.thenE ?_ | refine WPq.blockN ?_ | refine WPq.blockR ?_ | refine WPq.blockE ?_ | refine WPq.blockO rfl ?_ | refine WPc.seq ?_ | refine WPc.block ?_ | refine WPc.ret ?_ | refine WPc.exit ?_ | refine WPc.skip ?_ | refine WPc.region ?_
       | (refine isCond ?_; first | refine WPc.cT ?_ | refine WPc.cF ?_ | (refine WPc.cQ (fun hc => ?_) (fun hc => ?_) <;> try exact prA))
       | (refine isC 47 ?_; refine WPl.cV (hg) ?_)
       | (refine isC 13 ?_; refine WPl.cV (port_t vb b 4 (by omega) hl) ?_)
       | (refine isC 16 ?_; refine WPl.cV (port_t vb b 6 (by omega) hl) ?_)
       | (refine isOp ?_; first | refine WPl.rd ?_ | refine WPl.sk ?_ | refine WPl.rdB ?_)
       | (refine isAl ?_; refine WPl.nw fun g => ?_)
       | (refine isBx ?_; refine WPl.nw fun g => ?_)
       | (refine isSt ?_; first | refine WPl.st1 ?_ | refine WPl.stA ?_ | refine WPl.stEB ?_ | refine WPl.stRB ?_)
       | (show WPl _ _ _ _ _ _ _ (⟨_, .indexAddr _ _ _, _, _, _, _⟩ :: _) _; refine WPl.rdX (ReadR.indexE rfl rfl hasA (by first | assumption | omega)) ?_)
       | (show WPl _ _ _ _ _ _ _ (⟨_, .fieldAddr _ _ _, _, _, _, _⟩ :: _) _; refine WPl.rdX (ReadR.fieldE rfl hasA (by first | assumption | omega)) ?_)
       | (show WPl _ _ _ _ _ _ _ (⟨_, .load _ _, _, _, _, _⟩ :: _) _; first | refine WPl.rdX (ReadR.loadE rfl hasA (by assumption)) ?_ | refine WPl.rdX (ReadR.loadES (by assumption) (by first | assumption | omega) rfl hasA) ?_)
       | (show WPl _ _ _ _ _ _ _ (⟨_, .slice _ _ _ _ _, _, _, _, _⟩ :: _) _; first | refine WPl.rdX (ReadR.sliceH rfl rfl hasA (by omega)) ?_ | refine WPl.rdX (ReadR.sliceL rfl rfl hasA (by omega)) ?_ | refine WPl.rdX (ReadR.sliceLH rfl rfl rfl hasA (by omega) (by omega)) ?_)
       | (refine WPl.spQ (fun hc => ?_) (fun hc => ?_) <;> try exact prA)
       | fail)
      all_goals
        refine WPq.dV (hc := ?_)
        show Value.tuple #[_, Value.int .i64 _] = Value.tuple #[_, Value.int .i64 _]
        congr 5
        repeat' (first | omega | split)
    | false =>
      rw [hsg] at hg
      have h0 : udpE h b = (if b.length < 8 then 9 else if val (seg b 4 2) < 8 then 4 else if b.length < val (seg b 4 2) then 9 else if val (seg b 4 2) < b.length then 10 else if val (seg b 6 2) = 0 then 4 else 5) := by unfold udpE; rw [hsg, hsx]; by_cases hz : val (seg b 6 2) = 0 <;> simp [hz]
      rw [h0]
      refine Triple.enter Tryz.func107 rfl Tryz.ntmps107 rfl (fun W => ?_)
      dsimp only [argsF, Nat.reduceAdd]
      repeat' (first
       | refine WPl.nil ?_ | refine WPq.then ?_ | refine WPq.thenR ?_ | refine WPq.thenE ?_ | refine WPq.blockN ?_ | refine WPq.blockR ?_ | refine WPq.blockE ?_ | refine WPq.blockO rfl ?_ | refine WPc.seq ?_ | refine WPc.block ?_ | refine WPc.ret ?_ | refine WPc.exit ?_ | refine WPc.skip ?_ | refine WPc.region ?_
       | (refine isCond ?_; first | refine WPc.cT ?_ | refine WPc.cF ?_ | (refine WPc.cQ (fun hc => ?_) (fun hc => ?_) <;> try exact prA))
       | (refine isC 47 ?_; refine WPl.cV (hg) ?_)
       | (refine isC 13 ?_; refine WPl.cV (port_t vb b 4 (by omega) hl) ?_)
       | (refine isC 16 ?_; refine WPl.cV (port_t vb b 6 (by omega) hl) ?_)
       | (refine isOp ?_; first | refine WPl.rd ?_ | refine WPl.sk ?_ | refine WPl.rdB ?_)
       | (refine isAl ?_; refine WPl.nw fun g => ?_)
       | (refine isBx ?_; refine WPl.nw fun g => ?_)
       | (refine isSt ?_; first | refine WPl.st1 ?_ | refine WPl.stA ?_ | refine WPl.stEB ?_ | refine WPl.stRB ?_)
       | (show WPl _ _ _ _ _ _ _ (⟨_, .indexAddr _ _ _, _, _, _, _⟩ :: _) _; refine WPl.rdX (ReadR.indexE rfl rfl hasA (by first | assumption | omega)) ?_)
       | (show WPl _ _ _ _ _ _ _ (⟨_, .fieldAddr _ _ _, _, _, _, _⟩ :: _) _; refine WPl.rdX (ReadR.fieldE rfl hasA (by first | assumption | omega)) ?_)
       | (show WPl _ _ _ _ _ _ _ (⟨_, .load _ _, _, _, _, _⟩ :: _) _; first | refine WPl.rdX (ReadR.loadE rfl hasA (by assumption)) ?_ | refine WPl.rdX (ReadR.loadES (by assumption) (by first | assumption | omega) rfl hasA) ?_)
       | (show WPl _ _ _ _ _ _ _ (⟨_, .slice _ _ _ _ _, _, _, _, _⟩ :: _) _; first | refine WPl.rdX (ReadR.sliceH rfl rfl hasA (by omega)) ?_ | refine WPl.rdX (ReadR.sliceL rfl rfl hasA (by omega)) ?_ | refine WPl.rdX (ReadR.sliceLH rfl rfl rfl hasA (by omega) (by omega)) ?_)
       | (refine WPl.spQ (fun hc => ?_) (fun hc => ?_) <;> try exact prA)
       | fail)
      all_goals
        refine WPq.dV (hc := ?_)
        show Value.tuple #[_, Value.int .i64 _] = Value.tuple #[_, Value.int .i64 _]
        congr 5
        repeat' (first | omega | split)
  | false =>
    cases hsg : sgood h b with
    | true =>
      rw [hsg] at hg
      have h0 : udpE h b = (if b.length < 8 then 9 else if val (seg b 4 2) < 8 then 4 else if b.length < val (seg b 4 2) then 9 else if val (seg b 4 2) < b.length then 10 else 0) := by unfold udpE; rw [hsg, hsx]; simp
      rw [h0] at he ⊢
      have hne : b.length < 8 ∨ val (seg b 4 2) < 8 ∨ val (seg b 4 2) ≠ b.length := by
        apply Classical.byContradiction
        intro hn
        apply he
        repeat' (first | omega | split)
      refine Triple.enter Tryz.func107 rfl Tryz.ntmps107 rfl (fun W => ?_)
      dsimp only [argsF, Nat.reduceAdd]
      repeat' (first
       | refine WPl.nil ?_ | refine WPq.then ?_ | refine WPq.thenR ?_ | refine WPq.thenE ?_ | refine WPq.blockN ?_ | refine WPq.blockR ?_ | refine WPq.blockE ?_ | refine WPq.blockO rfl ?_ | refine WPc.seq ?_ | refine WPc.block ?_ | refine WPc.ret ?_ | refine WPc.exit ?_ | refine WPc.skip ?_ | refine WPc.region ?_
       | (refine isCond ?_; first | refine WPc.cT ?_ | refine WPc.cF ?_ | (refine WPc.cQ (fun hc => ?_) (fun hc => ?_) <;> try exact prA))
       | (refine isC 47 ?_; refine WPl.cV (hg) ?_)
       | (refine isC 13 ?_; refine WPl.cV (port_t vb b 4 (by omega) hl) ?_)
       | (refine isC 16 ?_; refine WPl.cV (port_t vb b 6 (by omega) hl) ?_)
       | (refine isOp ?_; first | refine WPl.rd ?_ | refine WPl.sk ?_ | refine WPl.rdB ?_)
       | (refine isAl ?_; refine WPl.nw fun g => ?_)
       | (refine isBx ?_; refine WPl.nw fun g => ?_)
       | (refine isSt ?_; first | refine WPl.st1 ?_ | refine WPl.stA ?_ | refine WPl.stEB ?_ | refine WPl.stRB ?_)
       | (show WPl _ _ _ _ _ _ _ (⟨_, .indexAddr _ _ _, _, _, _, _⟩ :: _) _; refine WPl.rdX (ReadR.indexE rfl rfl hasA (by first | assumption | omega)) ?_)
       | (show WPl _ _ _ _ _ _ _ (⟨_, .fieldAddr _ _ _, _, _, _, _⟩ :: _) _; refine WPl.rdX (ReadR.fieldE rfl hasA (by first | assumption | omega)) ?_)
       | (show WPl _ _ _ _ _ _ _ (⟨_, .load _ _, _, _, _, _⟩ :: _) _; first | refine WPl.rdX (ReadR.loadE rfl hasA (by assumption)) ?_ | refine WPl.rdX (ReadR.loadES (by assumption) (by first | assumption | omega) rfl hasA) ?_)
       | (show WPl _ _ _ _ _ _ _ (⟨_, .slice _ _ _ _ _, _, _, _, _⟩ :: _) _; first | refine WPl.rdX (ReadR.sliceH rfl rfl hasA (by omega)) ?_ | refine WPl.rdX (ReadR.sliceL rfl rfl hasA (by omega)) ?_ | refine WPl.rdX (ReadR.sliceLH rfl rfl rfl hasA (by omega) (by omega)) ?_)
       | (refine WPl.spQ (fun hc => ?_) (fun hc => ?_) <;> try exact prA)
       | fail)
      all_goals
        refine WPq.dV (hc := ?_)
        show Value.tuple #[_, Value.int .i64 _] = Value.tuple #[_, Value.int .i64 _]
        congr 5
        repeat' (first | omega | split)
    | false =>
      rw [hsg] at hg
      have h0 : udpE h b = (if b.length < 8 then 9 else if val (seg b 4 2) < 8 then 4 else if b.length < val (seg b 4 2) then 9 else if val (seg b 4 2) < b.length then 10 else if ¬ val (seg b 6 2) = 0 then 5 else 0) := by unfold udpE; rw [hsg, hsx]; simp
      rw [h0] at he ⊢
      have hne : b.length < 8 ∨ val (seg b 4 2) < 8 ∨ val (seg b 4 2) ≠ b.length ∨ ¬ val (seg b 6 2) = 0 := by
        apply Classical.byContradiction
        intro hn
        apply he
        repeat' (first | omega | split)
      refine Triple.enter Tryz.func107 rfl Tryz.ntmps107 rfl (fun W => ?_)
      dsimp only [argsF, Nat.reduceAdd]
      repeat' (first
       | refine WPl.nil ?_ | refine WPq.then ?_ | refine WPq.thenR ?_ | refine WPq.thenE ?_ | refine WPq.blockN ?_ | refine WPq.blockR ?_ | refine WPq.blockE ?_ | refine WPq.blockO rfl ?_ | refine WPc.seq ?_ | refine WPc.block ?_ | refine WPc.ret ?_ | refine WPc.exit ?_ | refine WPc.skip ?_ | refine WPc.region ?_
       | (refine isCond ?_; first | refine WPc.cT ?_ | refine WPc.cF ?_ | (refine WPc.cQ (fun hc => ?_) (fun hc => ?_) <;> try exact prA))
       | (refine isC 47 ?_; refine WPl.cV (hg) ?_)
       | (refine isC 13 ?_; refine WPl.cV (port_t vb b 4 (by omega) hl) ?_)
       | (refine isC 16 ?_; refine WPl.cV (port_t vb b 6 (by omega) hl) ?_)
       | (refine isOp ?_; first | refine WPl.rd ?_ | refine WPl.sk ?_ | refine WPl.rdB ?_)
       | (refine isAl ?_; refine WPl.nw fun g => ?_)
       | (refine isBx ?_; refine WPl.nw fun g => ?_)
       | (refine isSt ?_; first | refine WPl.st1 ?_ | refine WPl.stA ?_ | refine WPl.stEB ?_ | refine WPl.stRB ?_)
       | (show WPl _ _ _ _ _ _ _ (⟨_, .indexAddr _ _ _, _, _, _, _⟩ :: _) _; refine WPl.rdX (ReadR.indexE rfl rfl hasA (by first | assumption | omega)) ?_)
       | (show WPl _ _ _ _ _ _ _ (⟨_, .fieldAddr _ _ _, _, _, _, _⟩ :: _) _; refine WPl.rdX (ReadR.fieldE rfl hasA (by first | assumption | omega)) ?_)
       | (show WPl _ _ _ _ _ _ _ (⟨_, .load _ _, _, _, _, _⟩ :: _) _; first | refine WPl.rdX (ReadR.loadE rfl hasA (by assumption)) ?_ | refine WPl.rdX (ReadR.loadES (by assumption) (by first | assumption | omega) rfl hasA) ?_)
       | (show WPl _ _ _ _ _ _ _ (⟨_, .slice _ _ _ _ _, _, _, _, _⟩ :: _) _; first | refine WPl.rdX (ReadR.sliceH rfl rfl hasA (by omega)) ?_ | refine WPl.rdX (ReadR.sliceL rfl rfl hasA (by omega)) ?_ | refine WPl.rdX (ReadR.sliceLH rfl rfl rfl hasA (by omega) (by omega)) ?_)
       | (refine WPl.spQ (fun hc => ?_) (fun hc => ?_) <;> try exact prA)
       | fail)
      all_goals
        refine WPq.dV (hc := ?_)
        show Value.tuple #[_, Value.int .i64 _] = Value.tuple #[_, Value.int .i64 _]
        congr 5
        repeat' (first | omega | split)
theorem udpE_zero {h : Hd} {b : List UInt8} (he : udpE h b = 0) : 8 ≤ b.length ∧ val (seg b 4 2) = b.length ∧ (val (seg b 6 2) = 0 ∧ h.six = false ∨ ¬ val (seg b 6 2) = 0 ∧ sgood h b = true) := by
  unfold udpE at he
  repeat' (split at he)
  all_goals first | omega | (cases he; done) | skip
  rename_i h1 h2 h3 h4 h5 h6
  refine ⟨by omega, by omega, ?_⟩
  by_cases hz : val (seg b 6 2) = 0
  · exact .inl ⟨hz, by simpa [hz] using h5⟩
  · exact .inr ⟨hz, by simpa [hz] using h6⟩
theorem udp_yes (h : Hd) (vb : Value) (b : List UInt8) (hl : b.length ≤ 100000) (he : udpE h b = 0) : Triple Tryz.prog 107 #[ag (hdc h), vb] [rb vb b] (RVal (.tuple #[ag (sgc (udpS b)), .int .i64 0])) := by
  have l1 := h.src.len
  have l2 := h.dst.len
  have hv4 := val2_lt (l := b) (k := 4)
  have hv6 := val2_lt (l := b) (k := 6)
  have hg := sgood_t h vb b hl
  obtain ⟨f1, f2, f3⟩ := udpE_zero he
  rcases f3 with ⟨f3, f4⟩ | ⟨f3, f4⟩
  · rw [show udpS b = ⟨0, 0, 0, 6, true, 8⟩ by unfold udpS; rw [decide_eq_true f3]]
    refine Triple.enter Tryz.func107 rfl Tryz.ntmps107 rfl (fun W => ?_)
    dsimp only [argsF, Nat.reduceAdd]
    repeat' (first
     | refine WPl.nil ?_ | refine WPq.then ?_ | refine WPq.thenR ?_ | refine WPq.thenE ?_ | refine WPq.blockN ?_ | refine WPq.blockR ?_ | refine WPq.blockE ?_ | refine WPq.blockO rfl ?_ | refine WPc.seq ?_ | refine WPc.block ?_ | refine WPc.ret ?_ | refine WPc.exit ?_ | refine WPc.skip ?_ | refine WPc.region ?_
     | (refine isCond ?_; first | refine WPc.cT ?_ | refine WPc.cF ?_ | (refine WPc.cQ (fun hc => ?_) (fun hc => ?_) <;> try exact prA))
     | (refine isC 13 ?_; refine WPl.cV (port_t vb b 4 (by omega) hl) ?_)
     | (refine isC 16 ?_; refine WPl.cV (port_t vb b 6 (by omega) hl) ?_)
     | (refine isD 17 ?_; refine WPl.rdX (ReadR.binE rfl rfl BinR.eql (congrArg Value.bool (decide_eq_true (by rw [f3]; rfl)))) ?_)
     | (refine isOp ?_; first | refine WPl.rd ?_ | refine WPl.sk ?_ | refine WPl.rdB ?_)
     | (refine isAl ?_; refine WPl.nw fun g => ?_)
     | (refine isBx ?_; refine WPl.nw fun g => ?_)
     | (refine isSt ?_; first | refine WPl.st1 ?_ | refine WPl.stA ?_ | refine WPl.stEB ?_ | refine WPl.stRB ?_)
     | (show WPl _ _ _ _ _ _ _ (⟨_, .indexAddr _ _ _, _, _, _, _⟩ :: _) _; refine WPl.rdX (ReadR.indexE rfl rfl hasA (by first | assumption | omega)) ?_)
     | (show WPl _ _ _ _ _ _ _ (⟨_, .fieldAddr _ _ _, _, _, _, _⟩ :: _) _; refine WPl.rdX (ReadR.fieldE rfl hasA (by first | assumption | omega)) ?_)
     | (show WPl _ _ _ _ _ _ _ (⟨_, .load _ _, _, _, _, _⟩ :: _) _; first | refine WPl.rdX (ReadR.loadE rfl hasA (by assumption)) ?_ | refine WPl.rdX (ReadR.loadES (by assumption) (by first | assumption | omega) rfl hasA) ?_)
     | (show WPl _ _ _ _ _ _ _ (⟨_, .slice _ _ _ _ _, _, _, _, _⟩ :: _) _; first | refine WPl.rdX (ReadR.sliceH rfl rfl hasA (by omega)) ?_ | refine WPl.rdX (ReadR.sliceL rfl rfl hasA (by omega)) ?_ | refine WPl.rdX (ReadR.sliceLH rfl rfl rfl hasA (by omega) (by omega)) ?_)
     | (refine WPl.spQ (fun hc => ?_) (fun hc => ?_) <;> try exact prA)
     | fail)
    all_goals try (first | exact WPq.dTp | exact WPq.dTs | exact WPq.dV | exact WPq.dR | exact WPq.dR2 | exact WPq.dH | exact WPq.dBH | exact WPq.dT)
  · rw [f4] at hg
    rw [show udpS b = ⟨0, 0, 0, 6, false, 8⟩ by unfold udpS; rw [decide_eq_false f3]]
    refine Triple.enter Tryz.func107 rfl Tryz.ntmps107 rfl (fun W => ?_)
    dsimp only [argsF, Nat.reduceAdd]
    repeat' (first
     | refine WPl.nil ?_ | refine WPq.then ?_ | refine WPq.thenR ?_ | refine WPq.thenE ?_ | refine WPq.blockN ?_ | refine WPq.blockR ?_ | refine WPq.blockE ?_ | refine WPq.blockO rfl ?_ | refine WPc.seq ?_ | refine WPc.block ?_ | refine WPc.ret ?_ | refine WPc.exit ?_ | refine WPc.skip ?_ | refine WPc.region ?_
     | (refine isCond ?_; first | refine WPc.cT ?_ | refine WPc.cF ?_ | (refine WPc.cQ (fun hc => ?_) (fun hc => ?_) <;> try exact prA))
     | (refine isC 47 ?_; refine WPl.cV (hg) ?_)
     | (refine isC 13 ?_; refine WPl.cV (port_t vb b 4 (by omega) hl) ?_)
     | (refine isC 16 ?_; refine WPl.cV (port_t vb b 6 (by omega) hl) ?_)
     | (refine isD 17 ?_; refine WPl.rdX (ReadR.binE rfl rfl BinR.eql (congrArg Value.bool (decide_eq_false (by omega)))) ?_)
     | (refine isOp ?_; first | refine WPl.rd ?_ | refine WPl.sk ?_ | refine WPl.rdB ?_)
     | (refine isAl ?_; refine WPl.nw fun g => ?_)
     | (refine isBx ?_; refine WPl.nw fun g => ?_)
     | (refine isSt ?_; first | refine WPl.st1 ?_ | refine WPl.stA ?_ | refine WPl.stEB ?_ | refine WPl.stRB ?_)
     | (show WPl _ _ _ _ _ _ _ (⟨_, .indexAddr _ _ _, _, _, _, _⟩ :: _) _; refine WPl.rdX (ReadR.indexE rfl rfl hasA (by first | assumption | omega)) ?_)
     | (show WPl _ _ _ _ _ _ _ (⟨_, .fieldAddr _ _ _, _, _, _, _⟩ :: _) _; refine WPl.rdX (ReadR.fieldE rfl hasA (by first | assumption | omega)) ?_)
     | (show WPl _ _ _ _ _ _ _ (⟨_, .load _ _, _, _, _, _⟩ :: _) _; first | refine WPl.rdX (ReadR.loadE rfl hasA (by assumption)) ?_ | refine WPl.rdX (ReadR.loadES (by assumption) (by first | assumption | omega) rfl hasA) ?_)
     | (show WPl _ _ _ _ _ _ _ (⟨_, .slice _ _ _ _ _, _, _, _, _⟩ :: _) _; first | refine WPl.rdX (ReadR.sliceH rfl rfl hasA (by omega)) ?_ | refine WPl.rdX (ReadR.sliceL rfl rfl hasA (by omega)) ?_ | refine WPl.rdX (ReadR.sliceLH rfl rfl rfl hasA (by omega) (by omega)) ?_)
     | (refine WPl.spQ (fun hc => ?_) (fun hc => ?_) <;> try exact prA)
     | fail)
    all_goals try (first | exact WPq.dTp | exact WPq.dTs | exact WPq.dV | exact WPq.dR | exact WPq.dR2 | exact WPq.dH | exact WPq.dBH | exact WPq.dT)
end Go.Proofs.YtpilenbdimhegaaGreatDoor
/- Layer 15 (seg): reading, whole, and the reference's: contracts. -/
namespace Go.Proofs.YtpilenbdimhegaaGreatDoor
open Go.RowKit
set_option linter.unusedSimpArgs false
set_option linter.unusedVariables false
set_option maxRecDepth 20000
set_option maxHeartbeats 4000000
attribute [local irreducible] WPc WPl WPq ReadR OpT BinR HasS bx rdN rowN Take Takes Prov Triple ResF BuildP Done ag Int.decLt Int.decLe Int.instDecidableEq
attribute [local irreducible] psu sgood tcpE udpE

def sgE0 (h : Hd) (b : List UInt8) : Int := if h.proto.toNat = 6 then tcpE h b else if h.proto.toNat = 17 then udpE h b else 6
def sg0 (h : Hd) (b : List UInt8) : Sg := if h.proto.toNat = 6 then tcpS b else udpS b
def pz (b : List UInt8) : Bool := decide (val (seg b 0 2) = 0 ∨ val (seg b 2 2) = 0)
def sgE (h : Hd) (b : List UInt8) : Int := if sgE0 h b = 0 then (if pz b then 4 else 0) else sgE0 h b
def Sg.at (s : Sg) (b : List UInt8) : Sg := ⟨val (seg b 0 2), val (seg b 2 2), s.flags, s.sumAt, s.zero, s.data⟩
def sgR (h : Hd) (b : List UInt8) : Sg := if sgE h b = 0 then (sg0 h b).at b else Sg.none
abbrev gVal (h : Hd) (b : List UInt8) : Value := .tuple #[ag (sgc (sgR h b)), .int .i64 (sgE h b)]
theorem tcpE_zero {h : Hd} {b : List UInt8} (he : tcpE h b = 0) : 20 ≤ b.length ∧ 20 ≤ tN b ∧ tN b ≤ b.length ∧ sgood h b = true := by
  unfold tcpE at he
  repeat' (split at he)
  all_goals first | omega | (cases he; done) | skip
  exact ⟨by omega, by omega, by omega, by simpa using ‹¬ sgood h b = false›⟩
theorem sgE0_len {h : Hd} {b : List UInt8} (he : sgE0 h b = 0) : 8 ≤ b.length := by
  unfold sgE0 at he
  repeat' (split at he)
  · exact Nat.le_trans (by omega) (tcpE_zero he).1
  · exact (udpE_zero he).1
  · cases he
theorem pz_no {b : List UInt8} (h : pz b = false) : ¬ val (seg b 0 2) = 0 ∧ ¬ val (seg b 2 2) = 0 := by simpa [pz] using h
theorem sread_t (h : Hd) (vb : Value) (b : List UInt8) (hl : b.length ≤ 100000) : Triple Tryz.prog 63 #[ag (hdc h), vb] [rb vb b] (RVal (gVal h b)) := by
  have l1 := h.src.len
  have l2 := h.dst.len
  have hv0 := val2_lt (l := b) (k := 0)
  have hv2 := val2_lt (l := b) (k := 2)
  by_cases he : sgE0 h b = 0
  · have hbl := sgE0_len he
    cases hz : pz b with
    | true =>
      have hz' : val (seg b 0 2) = 0 ∨ val (seg b 2 2) = 0 := by simpa [pz] using hz
      have hE : sgE h b = 4 := by unfold sgE; rw [if_pos he, hz]; rfl
      rw [show gVal h b = .tuple #[ag (sgc Sg.none), .int .i64 4] by unfold gVal sgR; rw [hE, if_neg (by omega)]]
      by_cases h6 : h.proto.toNat = 6
      · have ht := tcp_yes h vb b hl (by unfold sgE0 at he; rw [if_pos h6] at he; exact he)
        refine Triple.enter Tryz.func63 rfl Tryz.ntmps63 rfl (fun W => ?_)
        dsimp only [argsF, Nat.reduceAdd]
        repeat' (first
         | refine WPl.nil ?_ | refine WPq.then ?_ | refine WPq.thenR ?_ | refine WPq.thenE ?_ | refine WPq.blockN ?_ | refine WPq.blockR ?_ | refine WPq.blockE ?_ | refine WPq.blockO rfl ?_ | refine WPc.seq ?_ | refine WPc.block ?_ | refine WPc.ret ?_ | refine WPc.exit ?_ | refine WPc.skip ?_ | refine WPc.region ?_
         | (refine isCond ?_; first | refine WPc.cT ?_ | refine WPc.cF ?_ | (refine WPc.cQ (fun hc => ?_) (fun hc => ?_) <;> try exact prA))
         | (refine isC 13 ?_; refine WPl.cV (ht) ?_)
         | (refine isC 29 ?_; refine WPl.cV (port_t vb b 0 (by omega) hl) ?_)
         | (refine isC 31 ?_; refine WPl.cV (port_t vb b 2 (by omega) hl) ?_)
         | (refine isOp ?_; first | refine WPl.rd ?_ | refine WPl.sk ?_ | refine WPl.rdB ?_)
         | (refine isAl ?_; refine WPl.nw fun g => ?_)
         | (refine isBx ?_; refine WPl.nw fun g => ?_)
         | (refine isSt ?_; first | refine WPl.st1 ?_ | refine WPl.stA ?_ | refine WPl.stEB ?_ | refine WPl.stRB ?_)
         | (show WPl _ _ _ _ _ _ _ (⟨_, .indexAddr _ _ _, _, _, _, _⟩ :: _) _; refine WPl.rdX (ReadR.indexE rfl rfl hasA (by first | assumption | omega)) ?_)
         | (show WPl _ _ _ _ _ _ _ (⟨_, .fieldAddr _ _ _, _, _, _, _⟩ :: _) _; refine WPl.rdX (ReadR.fieldE rfl hasA (by first | assumption | omega)) ?_)
         | (show WPl _ _ _ _ _ _ _ (⟨_, .load _ _, _, _, _, _⟩ :: _) _; first | refine WPl.rdX (ReadR.loadE rfl hasA (by assumption)) ?_ | refine WPl.rdX (ReadR.loadES (by assumption) (by first | assumption | omega) rfl hasA) ?_)
         | (show WPl _ _ _ _ _ _ _ (⟨_, .slice _ _ _ _ _, _, _, _, _⟩ :: _) _; first | refine WPl.rdX (ReadR.sliceH rfl rfl hasA (by omega)) ?_ | refine WPl.rdX (ReadR.sliceL rfl rfl hasA (by omega)) ?_ | refine WPl.rdX (ReadR.sliceLH rfl rfl rfl hasA (by omega) (by omega)) ?_)
         | (refine WPl.spQ (fun hc => ?_) (fun hc => ?_) <;> try exact prA)
         | fail)
        all_goals try (first | exact WPq.dTp | exact WPq.dTs | exact WPq.dV | exact WPq.dR | exact WPq.dR2 | exact WPq.dH | exact WPq.dBH | exact WPq.dT)
      · by_cases h17 : h.proto.toNat = 17
        · have ht := udp_yes h vb b hl (by unfold sgE0 at he; rw [if_neg h6, if_pos h17] at he; exact he)
          refine Triple.enter Tryz.func63 rfl Tryz.ntmps63 rfl (fun W => ?_)
          dsimp only [argsF, Nat.reduceAdd]
          repeat' (first
           | refine WPl.nil ?_ | refine WPq.then ?_ | refine WPq.thenR ?_ | refine WPq.thenE ?_ | refine WPq.blockN ?_ | refine WPq.blockR ?_ | refine WPq.blockE ?_ | refine WPq.blockO rfl ?_ | refine WPc.seq ?_ | refine WPc.block ?_ | refine WPc.ret ?_ | refine WPc.exit ?_ | refine WPc.skip ?_ | refine WPc.region ?_
           | (refine isCond ?_; first | refine WPc.cT ?_ | refine WPc.cF ?_ | (refine WPc.cQ (fun hc => ?_) (fun hc => ?_) <;> try exact prA))
           | (refine isC 21 ?_; refine WPl.cV (ht) ?_)
           | (refine isC 29 ?_; refine WPl.cV (port_t vb b 0 (by omega) hl) ?_)
           | (refine isC 31 ?_; refine WPl.cV (port_t vb b 2 (by omega) hl) ?_)
           | (refine isOp ?_; first | refine WPl.rd ?_ | refine WPl.sk ?_ | refine WPl.rdB ?_)
           | (refine isAl ?_; refine WPl.nw fun g => ?_)
           | (refine isBx ?_; refine WPl.nw fun g => ?_)
           | (refine isSt ?_; first | refine WPl.st1 ?_ | refine WPl.stA ?_ | refine WPl.stEB ?_ | refine WPl.stRB ?_)
           | (show WPl _ _ _ _ _ _ _ (⟨_, .indexAddr _ _ _, _, _, _, _⟩ :: _) _; refine WPl.rdX (ReadR.indexE rfl rfl hasA (by first | assumption | omega)) ?_)
           | (show WPl _ _ _ _ _ _ _ (⟨_, .fieldAddr _ _ _, _, _, _, _⟩ :: _) _; refine WPl.rdX (ReadR.fieldE rfl hasA (by first | assumption | omega)) ?_)
           | (show WPl _ _ _ _ _ _ _ (⟨_, .load _ _, _, _, _, _⟩ :: _) _; first | refine WPl.rdX (ReadR.loadE rfl hasA (by assumption)) ?_ | refine WPl.rdX (ReadR.loadES (by assumption) (by first | assumption | omega) rfl hasA) ?_)
           | (show WPl _ _ _ _ _ _ _ (⟨_, .slice _ _ _ _ _, _, _, _, _⟩ :: _) _; first | refine WPl.rdX (ReadR.sliceH rfl rfl hasA (by omega)) ?_ | refine WPl.rdX (ReadR.sliceL rfl rfl hasA (by omega)) ?_ | refine WPl.rdX (ReadR.sliceLH rfl rfl rfl hasA (by omega) (by omega)) ?_)
           | (refine WPl.spQ (fun hc => ?_) (fun hc => ?_) <;> try exact prA)
           | fail)
          all_goals try (first | exact WPq.dTp | exact WPq.dTs | exact WPq.dV | exact WPq.dR | exact WPq.dR2 | exact WPq.dH | exact WPq.dBH | exact WPq.dT)
        · unfold sgE0 at he; rw [if_neg h6, if_neg h17] at he; cases he
    | false =>
      obtain ⟨z1, z2⟩ := pz_no hz
      have hE : sgE h b = 0 := by unfold sgE; rw [if_pos he, hz]; rfl
      by_cases h6 : h.proto.toNat = 6
      · have ht := tcp_yes h vb b hl (by unfold sgE0 at he; rw [if_pos h6] at he; exact he)
        rw [show gVal h b = .tuple #[ag (sgc ((tcpS b).at b)), .int .i64 0] by unfold gVal sgR sg0; rw [hE, if_pos rfl, if_pos h6]]
        refine Triple.enter Tryz.func63 rfl Tryz.ntmps63 rfl (fun W => ?_)
        dsimp only [argsF, Nat.reduceAdd]
        repeat' (first
         | refine WPl.nil ?_ | refine WPq.then ?_ | refine WPq.thenR ?_ | refine WPq.thenE ?_ | refine WPq.blockN ?_ | refine WPq.blockR ?_ | refine WPq.blockE ?_ | refine WPq.blockO rfl ?_ | refine WPc.seq ?_ | refine WPc.block ?_ | refine WPc.ret ?_ | refine WPc.exit ?_ | refine WPc.skip ?_ | refine WPc.region ?_
         | (refine isCond ?_; first | refine WPc.cT ?_ | refine WPc.cF ?_ | (refine WPc.cQ (fun hc => ?_) (fun hc => ?_) <;> try exact prA))
         | (refine isC 13 ?_; refine WPl.cV (ht) ?_)
         | (refine isC 29 ?_; refine WPl.cV (port_t vb b 0 (by omega) hl) ?_)
         | (refine isC 31 ?_; refine WPl.cV (port_t vb b 2 (by omega) hl) ?_)
         | (refine isOp ?_; first | refine WPl.rd ?_ | refine WPl.sk ?_ | refine WPl.rdB ?_)
         | (refine isAl ?_; refine WPl.nw fun g => ?_)
         | (refine isBx ?_; refine WPl.nw fun g => ?_)
         | (refine isSt ?_; first | refine WPl.st1 ?_ | refine WPl.stA ?_ | refine WPl.stEB ?_ | refine WPl.stRB ?_)
         | (show WPl _ _ _ _ _ _ _ (⟨_, .indexAddr _ _ _, _, _, _, _⟩ :: _) _; refine WPl.rdX (ReadR.indexE rfl rfl hasA (by first | assumption | omega)) ?_)
         | (show WPl _ _ _ _ _ _ _ (⟨_, .fieldAddr _ _ _, _, _, _, _⟩ :: _) _; refine WPl.rdX (ReadR.fieldE rfl hasA (by first | assumption | omega)) ?_)
         | (show WPl _ _ _ _ _ _ _ (⟨_, .load _ _, _, _, _, _⟩ :: _) _; first | refine WPl.rdX (ReadR.loadE rfl hasA (by assumption)) ?_ | refine WPl.rdX (ReadR.loadES (by assumption) (by first | assumption | omega) rfl hasA) ?_)
         | (show WPl _ _ _ _ _ _ _ (⟨_, .slice _ _ _ _ _, _, _, _, _⟩ :: _) _; first | refine WPl.rdX (ReadR.sliceH rfl rfl hasA (by omega)) ?_ | refine WPl.rdX (ReadR.sliceL rfl rfl hasA (by omega)) ?_ | refine WPl.rdX (ReadR.sliceLH rfl rfl rfl hasA (by omega) (by omega)) ?_)
         | (refine WPl.spQ (fun hc => ?_) (fun hc => ?_) <;> try exact prA)
         | fail)
        all_goals try (first | exact WPq.dTp | exact WPq.dTs | exact WPq.dV | exact WPq.dR | exact WPq.dR2 | exact WPq.dH | exact WPq.dBH | exact WPq.dT)
      · by_cases h17 : h.proto.toNat = 17
        · have ht := udp_yes h vb b hl (by unfold sgE0 at he; rw [if_neg h6, if_pos h17] at he; exact he)
          rw [show gVal h b = .tuple #[ag (sgc ((udpS b).at b)), .int .i64 0] by unfold gVal sgR sg0; rw [hE, if_pos rfl, if_neg h6]]
          refine Triple.enter Tryz.func63 rfl Tryz.ntmps63 rfl (fun W => ?_)
          dsimp only [argsF, Nat.reduceAdd]
          repeat' (first
           | refine WPl.nil ?_ | refine WPq.then ?_ | refine WPq.thenR ?_ | refine WPq.thenE ?_ | refine WPq.blockN ?_ | refine WPq.blockR ?_ | refine WPq.blockE ?_ | refine WPq.blockO rfl ?_ | refine WPc.seq ?_ | refine WPc.block ?_ | refine WPc.ret ?_ | refine WPc.exit ?_ | refine WPc.skip ?_ | refine WPc.region ?_
           | (refine isCond ?_; first | refine WPc.cT ?_ | refine WPc.cF ?_ | (refine WPc.cQ (fun hc => ?_) (fun hc => ?_) <;> try exact prA))
           | (refine isC 21 ?_; refine WPl.cV (ht) ?_)
           | (refine isC 29 ?_; refine WPl.cV (port_t vb b 0 (by omega) hl) ?_)
           | (refine isC 31 ?_; refine WPl.cV (port_t vb b 2 (by omega) hl) ?_)
           | (refine isOp ?_; first | refine WPl.rd ?_ | refine WPl.sk ?_ | refine WPl.rdB ?_)
           | (refine isAl ?_; refine WPl.nw fun g => ?_)
           | (refine isBx ?_; refine WPl.nw fun g => ?_)
           | (refine isSt ?_; first | refine WPl.st1 ?_ | refine WPl.stA ?_ | refine WPl.stEB ?_ | refine WPl.stRB ?_)
           | (show WPl _ _ _ _ _ _ _ (⟨_, .indexAddr _ _ _, _, _, _, _⟩ :: _) _; refine WPl.rdX (ReadR.indexE rfl rfl hasA (by first | assumption | omega)) ?_)
           | (show WPl _ _ _ _ _ _ _ (⟨_, .fieldAddr _ _ _, _, _, _, _⟩ :: _) _; refine WPl.rdX (ReadR.fieldE rfl hasA (by first | assumption | omega)) ?_)
           | (show WPl _ _ _ _ _ _ _ (⟨_, .load _ _, _, _, _, _⟩ :: _) _; first | refine WPl.rdX (ReadR.loadE rfl hasA (by assumption)) ?_ | refine WPl.rdX (ReadR.loadES (by assumption) (by first | assumption | omega) rfl hasA) ?_)
           | (show WPl _ _ _ _ _ _ _ (⟨_, .slice _ _ _ _ _, _, _, _, _⟩ :: _) _; first | refine WPl.rdX (ReadR.sliceH rfl rfl hasA (by omega)) ?_ | refine WPl.rdX (ReadR.sliceL rfl rfl hasA (by omega)) ?_ | refine WPl.rdX (ReadR.sliceLH rfl rfl rfl hasA (by omega) (by omega)) ?_)
           | (refine WPl.spQ (fun hc => ?_) (fun hc => ?_) <;> try exact prA)
           | fail)
          all_goals try (first | exact WPq.dTp | exact WPq.dTs | exact WPq.dV | exact WPq.dR | exact WPq.dR2 | exact WPq.dH | exact WPq.dBH | exact WPq.dT)
        · unfold sgE0 at he; rw [if_neg h6, if_neg h17] at he; cases he
  · have hE : sgE h b = sgE0 h b := by unfold sgE; rw [if_neg he]
    rw [show gVal h b = .tuple #[ag (sgc Sg.none), .int .i64 (sgE0 h b)] by unfold gVal sgR; rw [hE, if_neg he]]
    by_cases h6 : h.proto.toNat = 6
    · have h0 : sgE0 h b = tcpE h b := by unfold sgE0; rw [if_pos h6]
      rw [h0] at he ⊢
      have ht := tcp_no h vb b hl he
      refine Triple.enter Tryz.func63 rfl Tryz.ntmps63 rfl (fun W => ?_)
      dsimp only [argsF, Nat.reduceAdd]
      repeat' (first
       | refine WPl.nil ?_ | refine WPq.then ?_ | refine WPq.thenR ?_ | refine WPq.thenE ?_ | refine WPq.blockN ?_ | refine WPq.blockR ?_ | refine WPq.blockE ?_ | refine WPq.blockO rfl ?_ | refine WPc.seq ?_ | refine WPc.block ?_ | refine WPc.ret ?_ | refine WPc.exit ?_ | refine WPc.skip ?_ | refine WPc.region ?_
       | (refine isCond ?_; first | refine WPc.cT ?_ | refine WPc.cF ?_ | (refine WPc.cQ (fun hc => ?_) (fun hc => ?_) <;> try exact prA))
       | (refine isC 13 ?_; refine WPl.cV (ht) ?_)
       | (refine isOp ?_; first | refine WPl.rd ?_ | refine WPl.sk ?_ | refine WPl.rdB ?_)
       | (refine isAl ?_; refine WPl.nw fun g => ?_)
       | (refine isBx ?_; refine WPl.nw fun g => ?_)
       | (refine isSt ?_; first | refine WPl.st1 ?_ | refine WPl.stA ?_ | refine WPl.stEB ?_ | refine WPl.stRB ?_)
       | (show WPl _ _ _ _ _ _ _ (⟨_, .indexAddr _ _ _, _, _, _, _⟩ :: _) _; refine WPl.rdX (ReadR.indexE rfl rfl hasA (by first | assumption | omega)) ?_)
       | (show WPl _ _ _ _ _ _ _ (⟨_, .fieldAddr _ _ _, _, _, _, _⟩ :: _) _; refine WPl.rdX (ReadR.fieldE rfl hasA (by first | assumption | omega)) ?_)
       | (show WPl _ _ _ _ _ _ _ (⟨_, .load _ _, _, _, _, _⟩ :: _) _; first | refine WPl.rdX (ReadR.loadE rfl hasA (by assumption)) ?_ | refine WPl.rdX (ReadR.loadES (by assumption) (by first | assumption | omega) rfl hasA) ?_)
       | (show WPl _ _ _ _ _ _ _ (⟨_, .slice _ _ _ _ _, _, _, _, _⟩ :: _) _; first | refine WPl.rdX (ReadR.sliceH rfl rfl hasA (by omega)) ?_ | refine WPl.rdX (ReadR.sliceL rfl rfl hasA (by omega)) ?_ | refine WPl.rdX (ReadR.sliceLH rfl rfl rfl hasA (by omega) (by omega)) ?_)
       | (refine WPl.spQ (fun hc => ?_) (fun hc => ?_) <;> try exact prA)
       | fail)
      all_goals try (first | exact WPq.dTp | exact WPq.dTs | exact WPq.dV | exact WPq.dR | exact WPq.dR2 | exact WPq.dH | exact WPq.dBH | exact WPq.dT)
    · by_cases h17 : h.proto.toNat = 17
      · have h0 : sgE0 h b = udpE h b := by unfold sgE0; rw [if_neg h6, if_pos h17]
        rw [h0] at he ⊢
        have ht := udp_no h vb b hl he
        refine Triple.enter Tryz.func63 rfl Tryz.ntmps63 rfl (fun W => ?_)
        dsimp only [argsF, Nat.reduceAdd]
        repeat' (first
         | refine WPl.nil ?_ | refine WPq.then ?_ | refine WPq.thenR ?_ | refine WPq.thenE ?_ | refine WPq.blockN ?_ | refine WPq.blockR ?_ | refine WPq.blockE ?_ | refine WPq.blockO rfl ?_ | refine WPc.seq ?_ | refine WPc.block ?_ | refine WPc.ret ?_ | refine WPc.exit ?_ | refine WPc.skip ?_ | refine WPc.region ?_
         | (refine isCond ?_; first | refine WPc.cT ?_ | refine WPc.cF ?_ | (refine WPc.cQ (fun hc => ?_) (fun hc => ?_) <;> try exact prA))
         | (refine isC 21 ?_; refine WPl.cV (ht) ?_)
         | (refine isOp ?_; first | refine WPl.rd ?_ | refine WPl.sk ?_ | refine WPl.rdB ?_)
         | (refine isAl ?_; refine WPl.nw fun g => ?_)
         | (refine isBx ?_; refine WPl.nw fun g => ?_)
         | (refine isSt ?_; first | refine WPl.st1 ?_ | refine WPl.stA ?_ | refine WPl.stEB ?_ | refine WPl.stRB ?_)
         | (show WPl _ _ _ _ _ _ _ (⟨_, .indexAddr _ _ _, _, _, _, _⟩ :: _) _; refine WPl.rdX (ReadR.indexE rfl rfl hasA (by first | assumption | omega)) ?_)
         | (show WPl _ _ _ _ _ _ _ (⟨_, .fieldAddr _ _ _, _, _, _, _⟩ :: _) _; refine WPl.rdX (ReadR.fieldE rfl hasA (by first | assumption | omega)) ?_)
         | (show WPl _ _ _ _ _ _ _ (⟨_, .load _ _, _, _, _, _⟩ :: _) _; first | refine WPl.rdX (ReadR.loadE rfl hasA (by assumption)) ?_ | refine WPl.rdX (ReadR.loadES (by assumption) (by first | assumption | omega) rfl hasA) ?_)
         | (show WPl _ _ _ _ _ _ _ (⟨_, .slice _ _ _ _ _, _, _, _, _⟩ :: _) _; first | refine WPl.rdX (ReadR.sliceH rfl rfl hasA (by omega)) ?_ | refine WPl.rdX (ReadR.sliceL rfl rfl hasA (by omega)) ?_ | refine WPl.rdX (ReadR.sliceLH rfl rfl rfl hasA (by omega) (by omega)) ?_)
         | (refine WPl.spQ (fun hc => ?_) (fun hc => ?_) <;> try exact prA)
         | fail)
        all_goals try (first | exact WPq.dTp | exact WPq.dTs | exact WPq.dV | exact WPq.dR | exact WPq.dR2 | exact WPq.dH | exact WPq.dBH | exact WPq.dT)
      · have h0 : sgE0 h b = 6 := by unfold sgE0; rw [if_neg h6, if_neg h17]
        rw [h0]
        refine Triple.enter Tryz.func63 rfl Tryz.ntmps63 rfl (fun W => ?_)
        dsimp only [argsF, Nat.reduceAdd]
        repeat' (first
         | refine WPl.nil ?_ | refine WPq.then ?_ | refine WPq.thenR ?_ | refine WPq.thenE ?_ | refine WPq.blockN ?_ | refine WPq.blockR ?_ | refine WPq.blockE ?_ | refine WPq.blockO rfl ?_ | refine WPc.seq ?_ | refine WPc.block ?_ | refine WPc.ret ?_ | refine WPc.exit ?_ | refine WPc.skip ?_ | refine WPc.region ?_
         | (refine isCond ?_; first | refine WPc.cT ?_ | refine WPc.cF ?_ | (refine WPc.cQ (fun hc => ?_) (fun hc => ?_) <;> try exact prA))
         | (refine isOp ?_; first | refine WPl.rd ?_ | refine WPl.sk ?_ | refine WPl.rdB ?_)
         | (refine isAl ?_; refine WPl.nw fun g => ?_)
         | (refine isBx ?_; refine WPl.nw fun g => ?_)
         | (refine isSt ?_; first | refine WPl.st1 ?_ | refine WPl.stA ?_ | refine WPl.stEB ?_ | refine WPl.stRB ?_)
         | (show WPl _ _ _ _ _ _ _ (⟨_, .indexAddr _ _ _, _, _, _, _⟩ :: _) _; refine WPl.rdX (ReadR.indexE rfl rfl hasA (by first | assumption | omega)) ?_)
         | (show WPl _ _ _ _ _ _ _ (⟨_, .fieldAddr _ _ _, _, _, _, _⟩ :: _) _; refine WPl.rdX (ReadR.fieldE rfl hasA (by first | assumption | omega)) ?_)
         | (show WPl _ _ _ _ _ _ _ (⟨_, .load _ _, _, _, _, _⟩ :: _) _; first | refine WPl.rdX (ReadR.loadE rfl hasA (by assumption)) ?_ | refine WPl.rdX (ReadR.loadES (by assumption) (by first | assumption | omega) rfl hasA) ?_)
         | (show WPl _ _ _ _ _ _ _ (⟨_, .slice _ _ _ _ _, _, _, _, _⟩ :: _) _; first | refine WPl.rdX (ReadR.sliceH rfl rfl hasA (by omega)) ?_ | refine WPl.rdX (ReadR.sliceL rfl rfl hasA (by omega)) ?_ | refine WPl.rdX (ReadR.sliceLH rfl rfl rfl hasA (by omega) (by omega)) ?_)
         | (refine WPl.spQ (fun hc => ?_) (fun hc => ?_) <;> try exact prA)
         | fail)
        all_goals try (first | exact WPq.dTp | exact WPq.dTs | exact WPq.dV | exact WPq.dR | exact WPq.dR2 | exact WPq.dH | exact WPq.dBH | exact WPq.dT)
end Go.Proofs.YtpilenbdimhegaaGreatDoor
/- Layer 15 (seg): writing: contracts. -/
namespace Go.Proofs.YtpilenbdimhegaaGreatDoor
open Go.RowKit
set_option linter.unusedSimpArgs false
set_option linter.unusedVariables false
set_option maxRecDepth 20000
set_option maxHeartbeats 4000000
attribute [local irreducible] WPc WPl WPq ReadR OpT BinR HasS bx rdN rowN Take Takes Prov Triple ResF BuildP Done ag Int.decLt Int.decLe Int.instDecidableEq
attribute [local irreducible] psu sgood

def sumN (h : Hd) (l : List UInt8) : Nat := if csum (psu h l.length ++ l) = 0 ∧ h.proto.toNat = 17 then 65535 else csum (psu h l.length ++ l)
def summ (h : Hd) (l : List UInt8) (k : Nat) : List UInt8 := over l k (be (sumN h l) 2)
theorem summ_len {h : Hd} {l : List UInt8} {k : Nat} (hk : k + 2 ≤ l.length) : (summ h l k).length = l.length := by unfold summ; rw [over_length (by rw [be_length]; exact hk)]
theorem sumN_le (h : Hd) (l : List UInt8) : sumN h l ≤ 65535 := by
  have := csum_le (psu h l.length ++ l)
  unfold sumN; split <;> omega
attribute [local irreducible] be over
def swBad (h : Hd) (s : Sg) : Bool := decide ((s.src : Int) = 0) || (decide ((s.dst : Int) = 0) || (!h.src.good || (!h.dst.good || (!(h.src.six == h.six) || !(h.dst.six == h.six)))))
def swE (h : Hd) (s : Sg) (n : Nat) : Int := if ¬ h.proto.toNat = 6 ∧ ¬ h.proto.toNat = 17 then 6 else if swBad h s then 1 else if 1900 < n then 10 else 0
def swT (s : Sg) (d : List UInt8) : List UInt8 := [[] ++ be s.src 2 ++ be s.dst 2, List.replicate 8 0, nbs [80, (s.flags.toNat : Nat)], List.replicate 6 0, d].flatten
def swU (s : Sg) (d : List UInt8) : List UInt8 := [[] ++ be s.src 2 ++ be s.dst 2 ++ be (8 + d.length) 2, nbs [0, 0], d].flatten
def swL (h : Hd) (s : Sg) (d : List UInt8) : List UInt8 := if swE h s d.length = 0 then (if h.proto.toNat = 6 then summ h (swT s d) 16 else if s.zero = true ∧ h.six = false then swU s d else summ h (swU s d) 6) else []
theorem swT_len (s : Sg) (d : List UInt8) : (swT s d).length = 20 + d.length := by simp [swT, be_length, nbs]; omega
theorem swU_len (s : Sg) (d : List UInt8) : (swU s d).length = 8 + d.length := by simp [swU, be_length, nbs]; omega
theorem swBad_no {h : Hd} {s : Sg} (hb : swBad h s = false) : ¬ (s.src : Int) = 0 ∧ ¬ (s.dst : Int) = 0 ∧ h.src.good = true ∧ h.dst.good = true ∧ (h.src.six == h.six) = true ∧ (h.dst.six == h.six) = true := by
  simpa [swBad] using hb
attribute [local irreducible] swT swU summ
end Go.Proofs.YtpilenbdimhegaaGreatDoor
/- Layer 15 (seg): plain facts of what is written: it is read, spoilt, of others. -/
namespace Go.Proofs.YtpilenbdimhegaaGreatDoor
open Go.RowKit
set_option linter.unusedSimpArgs false
set_option linter.unusedVariables false
set_option maxRecDepth 20000
set_option maxHeartbeats 4000000
attribute [local irreducible] WPc WPl WPq ReadR OpT BinR HasS bx rdN rowN Take Takes Prov Triple ResF BuildP Done ag Int.decLt Int.decLe Int.instDecidableEq

theorem swE_zero {h : Hd} {s : Sg} {n : Nat} (he : swE h s n = 0) : (h.proto.toNat = 6 ∨ h.proto.toNat = 17) ∧ swBad h s = false ∧ n ≤ 1900 := by
  unfold swE at he
  repeat' (split at he)
  all_goals first | omega | (cases he; done) | skip
  rename_i h1 h2 h3
  exact ⟨by omega, by simpa using h2, by omega⟩
end Go.Proofs.YtpilenbdimhegaaGreatDoor
/- Layer 14 (ipsix): heads between, passed: contracts. -/
namespace Go.Proofs.YtpilenbdimhegaaGreatDoor
open Go.RowKit
set_option linter.unusedSimpArgs false
set_option linter.unusedVariables false
set_option maxRecDepth 20000
set_option maxHeartbeats 4000000
attribute [local irreducible] WPc WPl WPq ReadR OpT BinR HasS bx rdN rowN Take Takes Prov Triple ResF BuildP Done ag Int.decLt Int.decLe Int.instDecidableEq

/-- What stands between. -/
def btw (p : UInt8) : Bool := decide (((p.toNat : Nat) : Int) = 0) || (decide (((p.toNat : Nat) : Int) = 43) || (decide (((p.toNat : Nat) : Int) = 44) || decide (((p.toNat : Nat) : Int) = 60)))
theorem btw_t (p : UInt8) : Triple Tryz.prog 163 #[.int .u8 ((p.toNat : Nat) : Int)] [] (RVal (.bool (btw p))) := by
  refine Triple.enter Tryz.func163 rfl Tryz.ntmps163 rfl (fun W => ?_)
  dsimp only [argsF, Nat.reduceAdd]
  repeat' (first
   | refine WPl.nil ?_ | refine WPq.then ?_ | refine WPc.seq ?_ | refine WPc.ret ?_ | refine WPc.region ?_
   | (refine isOp ?_; first | refine WPl.rd ?_ | refine WPl.sk ?_ | refine WPl.rdB ?_)
   | (refine WPl.spQ (fun hc => ?_) (fun hc => ?_) <;> try exact prA)
   | fail)
  all_goals
    refine WPq.dV (hc := ?_)
    show Value.bool _ = Value.bool _
    congr 1
    rw [Bool.eq_iff_iff]
    simp only [btw, Bool.or_eq_true, decide_eq_true_eq, true_iff, Bool.false_eq_true, false_iff, Bool.or_false]
    omega
theorem rbtw_t (p : UInt8) : Triple Tryz.prog 75 #[.int .u8 ((p.toNat : Nat) : Int)] [] (RVal (.bool (btw p))) := by
  refine Triple.enter Tryz.func75 rfl Tryz.ntmps75 rfl (fun W => ?_)
  dsimp only [argsF, Nat.reduceAdd]
  repeat' (first
   | refine WPl.nil ?_ | refine WPq.then ?_ | refine WPc.seq ?_ | refine WPc.ret ?_ | refine WPc.region ?_
   | (refine isOp ?_; first | refine WPl.rd ?_ | refine WPl.sk ?_ | refine WPl.rdB ?_)
   | (refine WPl.spQ (fun hc => ?_) (fun hc => ?_) <;> try exact prA)
   | fail)
  all_goals
    refine WPq.dV (hc := ?_)
    show Value.bool _ = Value.bool _
    congr 1
    rw [Bool.eq_iff_iff]
    simp only [btw, Bool.or_eq_true, decide_eq_true_eq, true_iff, Bool.false_eq_true, false_iff, Bool.or_false]
    omega
/-- Where a walk stands. -/
structure XS where
  proto : UInt8
  pos : Nat
  part : Bool
theorem rest_len (b : List UInt8) (k : Nat) : (seg b k (b.length - k)).length = b.length - k := by simp [seg]
def xsize (b : List UInt8) (s : XS) : Nat := if s.proto.toNat = 44 then 8 else 8 + 8 * byteN (seg b s.pos (b.length - s.pos)) 1
def xpart (b : List UInt8) (s : XS) : Bool := if s.proto.toNat = 44 then s.part || !decide (((val (seg (seg b s.pos (b.length - s.pos)) 2 2) &&& 65529 : Nat) : Int) = 0) else s.part
def xbad (b : List UInt8) (s : XS) : Bool := decide ((seg b s.pos (b.length - s.pos)).length < 8) || decide ((seg b s.pos (b.length - s.pos)).length < xsize b s)
def xnext (b : List UInt8) (s : XS) : XS := ⟨(seg b s.pos (b.length - s.pos)).getD 0 0, s.pos + xsize b s, xpart b s⟩
def xstep (b : List UInt8) (s : XS) : XS := if xbad b s then s else xnext b s
abbrev wkc (h : Hd) (s : XS) (v : Value) : Ch := [(1, [.bool h.six]), (1, [.int .u8 ((s.proto.toNat : Nat) : Int)]), (1, [.int .i64 ((s.pos : Nat) : Int)]), (1, [.bool h.src.six]), (16, u8s h.src.b), (1, [.bool h.dst.six]), (16, u8s h.dst.b), (1, [.bool s.part]), (1, [.int .u8 ((h.hops.toNat : Nat) : Int)]), (1, [v])]
theorem wkc_next {h : Hd} {s : XS} {v : Value} {b : List UInt8} {k : Int} {p : Bool} (hk : ((xsize b s : Nat) : Int) = k) (hp : xpart b s = p) : wkc h (xnext b s) v = [(1, [.bool h.six]), (1, [.int .u8 (((seg b s.pos (b.length - s.pos)).getD 0 0).toNat : Nat)]), (1, [.int .i64 ((s.pos : Int) + k)]), (1, [.bool h.src.six]), (16, u8s h.src.b), (1, [.bool h.dst.six]), (16, u8s h.dst.b), (1, [.bool p]), (1, [.int .u8 ((h.hops.toNat : Nat) : Int)]), (1, [v])] := by
  subst hk hp
  simp only [wkc, xnext, Int.natCast_add]
theorem pass_t (g : Nat) (h : Hd) (s : XS) (v : Value) (b : List UInt8) (hs : s.pos ≤ b.length) (hl : b.length ≤ 100000) :
    Triple Tryz.prog 164 #[.pointer (some ⟨g, 0, none⟩)] ([rb v b] ++ [bx g 224 (wkc h s v)]) (RTurn (.int .i64 (if xbad b s then 9 else 0)) (bx g 224 (wkc h (xstep b s) v))) := by
  have l1 := h.src.len
  have l2 := h.dst.len
  have hrl := rest_len b s.pos
  have hv2 := val2_lt (l := seg b s.pos (b.length - s.pos)) (k := 2)
  have hb1 := ((seg b s.pos (b.length - s.pos)).getD 1 0).toNat_lt
  by_cases h8 : (seg b s.pos (b.length - s.pos)).length < 8
  · have hx : xbad b s = true := by simp only [xbad, h8, decide_true, Bool.true_or]
    rw [xstep, if_pos hx, if_pos hx]
    refine Triple.enter Tryz.func164 rfl Tryz.ntmps164 rfl (fun W => ?_)
    dsimp only [argsF, Nat.reduceAdd]
    repeat' (first
     | refine WPl.nil ?_ | refine WPq.then ?_ | refine WPq.thenR ?_ | refine WPc.seq ?_ | refine WPc.ret ?_ | refine WPc.region ?_
     | (refine isReg 1 ?_; refine WPc.drA [([], [11, 12, 13, 14, 15]), ([0], [7, 11, 12, 13, 14, 15]), ([0, 1], [7, 8, 11, 12, 13, 14, 15]), ([0, 1, 2], [7, 8, 9, 11, 12, 13, 14, 15]), ([], [7, 8, 9, 10]), ([4], [7, 8, 9, 10, 11]), ([4, 5], [7, 8, 9, 10, 11, 12]), ([4, 5, 6], [7, 8, 9, 10, 11, 12, 13]), ([4, 5, 6, 7], [7, 8, 9, 10, 11, 12, 13, 14]), ([0, 1, 2, 3, 4, 5, 6, 7, 8], [7, 8, 9, 10, 11, 12, 13, 14, 15]), ([0, 1, 2, 3, 4, 5, 6, 7, 8, 9], [7, 8, 9, 10, 11, 12, 13, 14, 15, 16])] [] (Γx := []) ?_; dsimp only [prev0, List.length_nil, List.length_cons])
     | (refine gAny ?_; first | (refine gOp ?_; first | refine RGl.rdA ?_ | refine RGl.rdX (fun e hk => by (try dsimp only [bndR, ensR, oksR, fcutR, List.append_nil, List.nil_append, List.cons_append, List.append_assoc] at hk ⊢); exact readB) ?_) | (refine RGl.fin (fun e hk => ?_); (try dsimp only [bndA, ensAR, oksA, List.append_nil, List.nil_append, List.cons_append, List.append_assoc] at hk ⊢); (repeat (obtain ⟨hk1, hk⟩ := hk))) | fail)
     | (refine isCond ?_; first | refine WPc.cT ?_ | refine WPc.cF ?_ | (refine WPc.cQ (fun hc => ?_) (fun hc => ?_) <;> try exact prA))
     | (refine isOp ?_; first | refine WPl.rd ?_ | refine WPl.sk ?_ | refine WPl.rdB ?_)
     | fail)
    all_goals try (first | exact WPq.dTp | exact WPq.dTs | exact WPq.dV | exact WPq.dR | exact WPq.dR2 | exact WPq.dH | exact WPq.dBH | exact WPq.dT)
  · by_cases h44 : ((s.proto.toNat : Nat) : Int) = 44
    · have h44' : s.proto.toNat = 44 := by omega
      have hx : xbad b s = false := by simp only [xbad, xsize, h44', if_true, h8, decide_false, Bool.or_self]
      rw [xstep, if_neg (by rw [hx]; decide), if_neg (by rw [hx]; decide)]
      have hsz : ((xsize b s : Nat) : Int) = 8 := by simp only [xsize, h44', if_true]; rfl
      cases hp : s.part with
      | true =>
        have hxp : xpart b s = true := by simp only [xpart, h44', if_true, hp, Bool.true_or]
        rw [wkc_next hsz hxp]
        refine Triple.enter Tryz.func164 rfl Tryz.ntmps164 rfl (fun W => ?_)
        dsimp only [argsF, Nat.reduceAdd]
        repeat' (first
         | refine WPl.nil ?_ | refine WPq.then ?_ | refine WPc.seq ?_ | refine WPc.ret ?_ | refine WPc.skip ?_ | refine WPc.region ?_
         | (refine isReg 1 ?_; refine WPc.drA [([], [11, 12, 13, 14, 15]), ([0], [7, 11, 12, 13, 14, 15]), ([0, 1], [7, 8, 11, 12, 13, 14, 15]), ([0, 1, 2], [7, 8, 9, 11, 12, 13, 14, 15]), ([], [7, 8, 9, 10]), ([4], [7, 8, 9, 10, 11]), ([4, 5], [7, 8, 9, 10, 11, 12]), ([4, 5, 6], [7, 8, 9, 10, 11, 12, 13]), ([4, 5, 6, 7], [7, 8, 9, 10, 11, 12, 13, 14]), ([0, 1, 2, 3, 4, 5, 6, 7, 8], [7, 8, 9, 10, 11, 12, 13, 14, 15]), ([0, 1, 2, 3, 4, 5, 6, 7, 8, 9], [7, 8, 9, 10, 11, 12, 13, 14, 15, 16])] [] (Γx := []) ?_; dsimp only [prev0, List.length_nil, List.length_cons])
         | (refine gAny ?_; first | (refine gOp ?_; first | refine RGl.rdA ?_ | refine RGl.rdX (fun e hk => by (try dsimp only [bndR, ensR, oksR, fcutR, List.append_nil, List.nil_append, List.cons_append, List.append_assoc] at hk ⊢); exact readB) ?_) | (refine RGl.fin (fun e hk => ?_); (try dsimp only [bndA, ensAR, oksA, List.append_nil, List.nil_append, List.cons_append, List.append_assoc] at hk ⊢); (repeat (obtain ⟨hk1, hk⟩ := hk))) | fail)
         | (refine isCond ?_; first | refine WPc.cT ?_ | refine WPc.cF ?_ | (refine WPc.cQ (fun hc => ?_) (fun hc => ?_) <;> try exact prA))
         | (refine isC 28 ?_; refine WPl.cV (get_t (subv 1 v s.pos (b.length - s.pos)) (seg b s.pos (b.length - s.pos)) 2 2 (by omega) (by omega) (by omega) (by omega)) ?_)
         | (refine isOp ?_; first | refine WPl.rd ?_ | refine WPl.sk ?_ | refine WPl.rdB ?_)
         | (refine isSt ?_; first | refine WPl.st1 ?_ | refine WPl.stA ?_ | refine WPl.stEB ?_ | refine WPl.stRB ?_)
         | (refine WPl.spQ (fun hc => ?_) (fun hc => ?_) <;> try exact prA)
         | fail)
        all_goals try (first | exact WPq.dTp | exact WPq.dTs | exact WPq.dV | exact WPq.dR | exact WPq.dR2 | exact WPq.dH | exact WPq.dBH | exact WPq.dT)
      | false =>
        have hxp : xpart b s = !decide (((val (seg (seg b s.pos (b.length - s.pos)) 2 2) &&& 65529 : Nat) : Int) = 0) := by simp only [xpart, h44', if_true, hp, Bool.false_or]
        rw [wkc_next hsz hxp]
        refine Triple.enter Tryz.func164 rfl Tryz.ntmps164 rfl (fun W => ?_)
        dsimp only [argsF, Nat.reduceAdd]
        repeat' (first
         | refine WPl.nil ?_ | refine WPq.then ?_ | refine WPc.seq ?_ | refine WPc.ret ?_ | refine WPc.skip ?_ | refine WPc.region ?_
         | (refine isReg 1 ?_; refine WPc.drA [([], [11, 12, 13, 14, 15]), ([0], [7, 11, 12, 13, 14, 15]), ([0, 1], [7, 8, 11, 12, 13, 14, 15]), ([0, 1, 2], [7, 8, 9, 11, 12, 13, 14, 15]), ([], [7, 8, 9, 10]), ([4], [7, 8, 9, 10, 11]), ([4, 5], [7, 8, 9, 10, 11, 12]), ([4, 5, 6], [7, 8, 9, 10, 11, 12, 13]), ([4, 5, 6, 7], [7, 8, 9, 10, 11, 12, 13, 14]), ([0, 1, 2, 3, 4, 5, 6, 7, 8], [7, 8, 9, 10, 11, 12, 13, 14, 15]), ([0, 1, 2, 3, 4, 5, 6, 7, 8, 9], [7, 8, 9, 10, 11, 12, 13, 14, 15, 16])] [] (Γx := []) ?_; dsimp only [prev0, List.length_nil, List.length_cons])
         | (refine gAny ?_; first | (refine gOp ?_; first | refine RGl.rdA ?_ | refine RGl.rdX (fun e hk => by (try dsimp only [bndR, ensR, oksR, fcutR, List.append_nil, List.nil_append, List.cons_append, List.append_assoc] at hk ⊢); exact readB) ?_) | (refine RGl.fin (fun e hk => ?_); (try dsimp only [bndA, ensAR, oksA, List.append_nil, List.nil_append, List.cons_append, List.append_assoc] at hk ⊢); (repeat (obtain ⟨hk1, hk⟩ := hk))) | fail)
         | (refine isCond ?_; first | refine WPc.cT ?_ | refine WPc.cF ?_ | (refine WPc.cQ (fun hc => ?_) (fun hc => ?_) <;> try exact prA))
         | (refine isC 28 ?_; refine WPl.cV (get_t (subv 1 v s.pos (b.length - s.pos)) (seg b s.pos (b.length - s.pos)) 2 2 (by omega) (by omega) (by omega) (by omega)) ?_)
         | (show WPl _ _ _ _ _ _ _ (⟨_, .binOp .and _ _ _ _, _, _, _, _⟩ :: _) _; refine WPl.rdX (ReadR.bin rfl rfl (BinR.andN (a := val (seg (seg b s.pos (b.length - s.pos)) 2 2)) (b := 65529) rfl (by show _ < 2 ^ 64; omega) (by show _ < 2 ^ 64; omega))) ?_)
         | (refine isOp ?_; first | refine WPl.rd ?_ | refine WPl.sk ?_ | refine WPl.rdB ?_)
         | (refine isSt ?_; first | refine WPl.st1 ?_ | refine WPl.stA ?_ | refine WPl.stEB ?_ | refine WPl.stRB ?_)
         | (refine WPl.spQ (fun hc => ?_) (fun hc => ?_) <;> try exact prA)
         | fail)
        all_goals try (first | exact WPq.dTp | exact WPq.dTs | exact WPq.dV | exact WPq.dR | exact WPq.dR2 | exact WPq.dH | exact WPq.dBH | exact WPq.dT)
    · have h44' : ¬ s.proto.toNat = 44 := by omega
      have hsz : ((xsize b s : Nat) : Int) = 8 + 8 * ((((seg b s.pos (b.length - s.pos)).getD 1 0).toNat : Nat) : Int) := by simp only [xsize, if_neg h44', byteN]; omega
      have hxp : xpart b s = s.part := by simp only [xpart, if_neg h44']
      by_cases hl2 : (seg b s.pos (b.length - s.pos)).length < xsize b s
      · have hx : xbad b s = true := by simp only [xbad, hl2, decide_true, Bool.or_true]
        rw [xstep, if_pos hx, if_pos hx]
        refine Triple.enter Tryz.func164 rfl Tryz.ntmps164 rfl (fun W => ?_)
        dsimp only [argsF, Nat.reduceAdd]
        repeat' (first
         | refine WPl.nil ?_ | refine WPq.then ?_ | refine WPq.thenR ?_ | refine WPc.seq ?_ | refine WPc.ret ?_ | refine WPc.skip ?_ | refine WPc.region ?_
         | (refine isReg 1 ?_; refine WPc.drA [([], [11, 12, 13, 14, 15]), ([0], [7, 11, 12, 13, 14, 15]), ([0, 1], [7, 8, 11, 12, 13, 14, 15]), ([0, 1, 2], [7, 8, 9, 11, 12, 13, 14, 15]), ([], [7, 8, 9, 10]), ([4], [7, 8, 9, 10, 11]), ([4, 5], [7, 8, 9, 10, 11, 12]), ([4, 5, 6], [7, 8, 9, 10, 11, 12, 13]), ([4, 5, 6, 7], [7, 8, 9, 10, 11, 12, 13, 14]), ([0, 1, 2, 3, 4, 5, 6, 7, 8], [7, 8, 9, 10, 11, 12, 13, 14, 15]), ([0, 1, 2, 3, 4, 5, 6, 7, 8, 9], [7, 8, 9, 10, 11, 12, 13, 14, 15, 16])] [] (Γx := []) ?_; dsimp only [prev0, List.length_nil, List.length_cons])
         | (refine gAny ?_; first | (refine gOp ?_; first | refine RGl.rdA ?_ | refine RGl.rdX (fun e hk => by (try dsimp only [bndR, ensR, oksR, fcutR, List.append_nil, List.nil_append, List.cons_append, List.append_assoc] at hk ⊢); exact readB) ?_) | (refine RGl.fin (fun e hk => ?_); (try dsimp only [bndA, ensAR, oksA, List.append_nil, List.nil_append, List.cons_append, List.append_assoc] at hk ⊢); (repeat (obtain ⟨hk1, hk⟩ := hk))) | fail)
         | (refine isCond ?_; first | refine WPc.cT ?_ | refine WPc.cF ?_ | (refine WPc.cQ (fun hc => ?_) (fun hc => ?_) <;> try exact prA))
         | (refine isOp ?_; first | refine WPl.rd ?_ | refine WPl.sk ?_ | refine WPl.rdB ?_)
         | fail)
        all_goals try (first | exact WPq.dTp | exact WPq.dTs | exact WPq.dV | exact WPq.dR | exact WPq.dR2 | exact WPq.dH | exact WPq.dBH | exact WPq.dT)
      · have hx : xbad b s = false := by simp only [xbad, h8, hl2, decide_false, Bool.or_self]
        rw [xstep, if_neg (by rw [hx]; decide), if_neg (by rw [hx]; decide), wkc_next hsz hxp]
        refine Triple.enter Tryz.func164 rfl Tryz.ntmps164 rfl (fun W => ?_)
        dsimp only [argsF, Nat.reduceAdd]
        repeat' (first
         | refine WPl.nil ?_ | refine WPq.then ?_ | refine WPc.seq ?_ | refine WPc.ret ?_ | refine WPc.skip ?_ | refine WPc.region ?_
         | (refine isReg 1 ?_; refine WPc.drA [([], [11, 12, 13, 14, 15]), ([0], [7, 11, 12, 13, 14, 15]), ([0, 1], [7, 8, 11, 12, 13, 14, 15]), ([0, 1, 2], [7, 8, 9, 11, 12, 13, 14, 15]), ([], [7, 8, 9, 10]), ([4], [7, 8, 9, 10, 11]), ([4, 5], [7, 8, 9, 10, 11, 12]), ([4, 5, 6], [7, 8, 9, 10, 11, 12, 13]), ([4, 5, 6, 7], [7, 8, 9, 10, 11, 12, 13, 14]), ([0, 1, 2, 3, 4, 5, 6, 7, 8], [7, 8, 9, 10, 11, 12, 13, 14, 15]), ([0, 1, 2, 3, 4, 5, 6, 7, 8, 9], [7, 8, 9, 10, 11, 12, 13, 14, 15, 16])] [] (Γx := []) ?_; dsimp only [prev0, List.length_nil, List.length_cons])
         | (refine gAny ?_; first | (refine gOp ?_; first | refine RGl.rdA ?_ | refine RGl.rdX (fun e hk => by (try dsimp only [bndR, ensR, oksR, fcutR, List.append_nil, List.nil_append, List.cons_append, List.append_assoc] at hk ⊢); exact readB) ?_) | (refine RGl.fin (fun e hk => ?_); (try dsimp only [bndA, ensAR, oksA, List.append_nil, List.nil_append, List.cons_append, List.append_assoc] at hk ⊢); (repeat (obtain ⟨hk1, hk⟩ := hk))) | fail)
         | (refine isCond ?_; first | refine WPc.cT ?_ | refine WPc.cF ?_ | (refine WPc.cQ (fun hc => ?_) (fun hc => ?_) <;> try exact prA))
         | (refine isOp ?_; first | refine WPl.rd ?_ | refine WPl.sk ?_ | refine WPl.rdB ?_)
         | (refine isSt ?_; first | refine WPl.st1 ?_ | refine WPl.stA ?_ | refine WPl.stEB ?_ | refine WPl.stRB ?_)
         | fail)
        all_goals try (first | exact WPq.dTp | exact WPq.dTs | exact WPq.dV | exact WPq.dR | exact WPq.dR2 | exact WPq.dH | exact WPq.dBH | exact WPq.dT)
end Go.Proofs.YtpilenbdimhegaaGreatDoor
/- Layer 14 (ipsix): all heads between: contracts. -/
namespace Go.Proofs.YtpilenbdimhegaaGreatDoor
open Go.RowKit
set_option linter.unusedSimpArgs false
set_option linter.unusedVariables false
set_option maxRecDepth 20000
set_option maxHeartbeats 4000000
attribute [local irreducible] WPc WPl WPq ReadR OpT BinR HasS bx rdN rowN Take Takes Prov Triple ResF BuildP Done ag Int.decLt Int.decLe Int.instDecidableEq

def xall (b : List UInt8) : Nat → XS → Int × XS
  | 0, s => if btw s.proto then (10, s) else (0, s)
  | m + 1, s => if btw s.proto then (if s.proto.toNat = 0 ∧ m + 1 < 8 then (4, s) else if xbad b s then (9, s) else xall b m (xnext b s)) else (0, s)
theorem xall_no {b : List UInt8} {m : Nat} {s : XS} (h : btw s.proto = false) : xall b m s = (0, s) := by cases m <;> simp [xall, h]
theorem xall_end {b : List UInt8} {s : XS} (h : btw s.proto = true) : xall b 0 s = (10, s) := by simp [xall, h]
theorem xall_form {b : List UInt8} {m : Nat} {s : XS} (h : btw s.proto = true) (h0 : s.proto.toNat = 0) (hm : m + 1 < 8) : xall b (m + 1) s = (4, s) := by
  simp only [xall]; rw [if_pos h, if_pos ⟨h0, hm⟩]
theorem xall_bad {b : List UInt8} {m : Nat} {s : XS} (h : btw s.proto = true) (h0 : ¬ (s.proto.toNat = 0 ∧ m + 1 < 8)) (hb : xbad b s = true) : xall b (m + 1) s = (9, s) := by
  simp only [xall]; rw [if_pos h, if_neg h0, if_pos hb]
theorem xall_next {b : List UInt8} {m : Nat} {s : XS} (h : btw s.proto = true) (h0 : ¬ (s.proto.toNat = 0 ∧ m + 1 < 8)) (hb : xbad b s = false) : xall b (m + 1) s = xall b m (xnext b s) := by
  simp only [xall]; rw [if_pos h, if_neg h0, if_neg (by rw [hb]; decide)]
theorem xnext_pos {b : List UInt8} {s : XS} (hs : s.pos ≤ b.length) (hb : xbad b s = false) : (xnext b s).pos ≤ b.length := by
  simp only [xbad, Bool.or_eq_false_iff, decide_eq_false_iff_not] at hb
  have hl := rest_len b s.pos
  simp only [xnext]
  omega
theorem all_t (g : Nat) (h : Hd) (s0 : XS) (v : Value) (b : List UInt8) (hs0 : s0.pos ≤ b.length) (hl : b.length ≤ 100000) :
    Triple Tryz.prog 140 #[.pointer (some ⟨g, 0, none⟩)] ([rb v b] ++ [bx g 224 (wkc h s0 v)]) (RTurn (.int .i64 (xall b 8 s0).1) (bx g 224 (wkc h (xall b 8 s0).2 v))) := by
  have l1 := h.src.len
  have l2 := h.dst.len
  refine Triple.enter Tryz.func140 rfl Tryz.ntmps140 rfl (fun W => ?_)
  dsimp only [argsF, Nat.reduceAdd]
  repeat' (first
   | refine WPl.nil ?_ | refine WPq.then ?_ | refine WPq.thenR ?_ | refine WPq.thenE ?_ | refine WPq.blockN ?_ | refine WPq.blockR ?_ | refine WPq.blockE ?_ | refine WPq.blockO rfl ?_ | refine WPc.seq ?_ | refine WPc.block ?_ | refine WPc.ret ?_ | refine WPc.exit ?_ | refine WPc.skip ?_ | refine WPc.region ?_
   | (refine isCond ?_; first | refine WPc.cT ?_ | refine WPc.cF ?_)
   | (refine isOp ?_; first | refine WPl.rd ?_ | refine WPl.sk ?_ | refine WPl.rdB ?_)
   | (show WPl _ _ _ _ _ _ _ (⟨_, .indexAddr _ _ _, _, _, _, _⟩ :: _) _; refine WPl.rdX (ReadR.indexE rfl rfl hasA (by first | assumption | omega)) ?_)
   | (show WPl _ _ _ _ _ _ _ (⟨_, .fieldAddr _ _ _, _, _, _, _⟩ :: _) _; refine WPl.rdX (ReadR.fieldE rfl hasA (by first | assumption | omega)) ?_)
   | (show WPl _ _ _ _ _ _ _ (⟨_, .load _ _, _, _, _, _⟩ :: _) _; first | refine WPl.rdX (ReadR.loadE rfl hasA (by assumption)) ?_ | refine WPl.rdX (ReadR.loadES (by assumption) (by first | assumption | omega) rfl hasA) ?_)
   | (show WPl _ _ _ _ _ _ _ (⟨_, .slice _ _ _ _ _, _, _, _, _⟩ :: _) _; first | refine WPl.rdX (ReadR.sliceH rfl rfl hasA (by omega)) ?_ | refine WPl.rdX (ReadR.sliceL rfl rfl hasA (by omega)) ?_ | refine WPl.rdX (ReadR.sliceLH rfl rfl rfl hasA (by omega) (by omega)) ?_)
   | fail)
  first | refine WPc.loop (σ := Nat × XS) (fun p => p.1 ≤ 8 ∧ p.2.pos ≤ b.length ∧ xall b 8 s0 = xall b (8 - p.1) p.2) (fun p => [bx g 224 (wkc h p.2 v), rb v b]) (fun p => [(0, .pointer (some ⟨g, 0, none⟩)), (3, .int .i64 p.1)]) (fun p => 8 - p.1) ((0, s0)) ?_ takesA frsA (fun st km hx hk => ?_)
  · exact ⟨by omega, hs0, rfl⟩
  obtain ⟨i, s⟩ := st
  dsimp only at hx hk ⊢
  obtain ⟨hi, hs, he⟩ := hx
  have hpt := pass_t g h s v b hs hl
  have hbt := btw_t s.proto
  rw [he]
  cases hb : btw s.proto with
  | false =>
    rw [hb] at hbt
    rw [xall_no hb]
    repeat' (first
     | refine WPl.nil ?_ | refine WPq.then ?_ | refine WPq.thenR ?_ | refine WPq.thenE ?_ | refine WPq.blockN ?_ | refine WPq.blockR ?_ | refine WPq.blockE ?_ | refine WPq.blockO rfl ?_ | refine WPc.seq ?_ | refine WPc.block ?_ | refine WPc.ret ?_ | refine WPc.exit ?_ | refine WPc.skip ?_ | refine WPc.region ?_
     | (refine isCond ?_; first | refine WPc.cT ?_ | refine WPc.cF ?_ | (refine WPc.cQ (fun hc => ?_) (fun hc => ?_) <;> try exact prA))
     | (refine isC 10 ?_; refine WPl.cV (hbt) ?_)
     | (refine isOp ?_; first | refine WPl.rd ?_ | refine WPl.sk ?_ | refine WPl.rdB ?_)
     | (show WPl _ _ _ _ _ _ _ (⟨_, .indexAddr _ _ _, _, _, _, _⟩ :: _) _; refine WPl.rdX (ReadR.indexE rfl rfl hasA (by first | assumption | omega)) ?_)
     | (show WPl _ _ _ _ _ _ _ (⟨_, .fieldAddr _ _ _, _, _, _, _⟩ :: _) _; refine WPl.rdX (ReadR.fieldE rfl hasA (by first | assumption | omega)) ?_)
     | (show WPl _ _ _ _ _ _ _ (⟨_, .load _ _, _, _, _, _⟩ :: _) _; first | refine WPl.rdX (ReadR.loadE rfl hasA (by assumption)) ?_ | refine WPl.rdX (ReadR.loadES (by assumption) (by first | assumption | omega) rfl hasA) ?_)
     | (show WPl _ _ _ _ _ _ _ (⟨_, .slice _ _ _ _ _, _, _, _, _⟩ :: _) _; first | refine WPl.rdX (ReadR.sliceH rfl rfl hasA (by omega)) ?_ | refine WPl.rdX (ReadR.sliceL rfl rfl hasA (by omega)) ?_ | refine WPl.rdX (ReadR.sliceLH rfl rfl rfl hasA (by omega) (by omega)) ?_)
     | (refine WPl.spQ (fun hc => ?_) (fun hc => ?_) <;> try exact prA)
     | fail)
    all_goals try (first | exact WPq.dTp | exact WPq.dTs | exact WPq.dV | exact WPq.dR | exact WPq.dR2 | exact WPq.dH | exact WPq.dBH | exact WPq.dT)
  | true =>
    rw [hb] at hbt
    by_cases h8 : i = 8
    · subst h8
      rw [Nat.sub_self, xall_end hb]
      repeat' (first
       | refine WPl.nil ?_ | refine WPq.then ?_ | refine WPq.thenR ?_ | refine WPq.thenE ?_ | refine WPq.blockN ?_ | refine WPq.blockR ?_ | refine WPq.blockE ?_ | refine WPq.blockO rfl ?_ | refine WPc.seq ?_ | refine WPc.block ?_ | refine WPc.ret ?_ | refine WPc.exit ?_ | refine WPc.skip ?_ | refine WPc.region ?_
       | (refine isCond ?_; first | refine WPc.cT ?_ | refine WPc.cF ?_ | (refine WPc.cQ (fun hc => ?_) (fun hc => ?_) <;> try exact prA))
       | (refine isC 10 ?_; refine WPl.cV (hbt) ?_)
       | (refine isOp ?_; first | refine WPl.rd ?_ | refine WPl.sk ?_ | refine WPl.rdB ?_)
       | (show WPl _ _ _ _ _ _ _ (⟨_, .indexAddr _ _ _, _, _, _, _⟩ :: _) _; refine WPl.rdX (ReadR.indexE rfl rfl hasA (by first | assumption | omega)) ?_)
       | (show WPl _ _ _ _ _ _ _ (⟨_, .fieldAddr _ _ _, _, _, _, _⟩ :: _) _; refine WPl.rdX (ReadR.fieldE rfl hasA (by first | assumption | omega)) ?_)
       | (show WPl _ _ _ _ _ _ _ (⟨_, .load _ _, _, _, _, _⟩ :: _) _; first | refine WPl.rdX (ReadR.loadE rfl hasA (by assumption)) ?_ | refine WPl.rdX (ReadR.loadES (by assumption) (by first | assumption | omega) rfl hasA) ?_)
       | (show WPl _ _ _ _ _ _ _ (⟨_, .slice _ _ _ _ _, _, _, _, _⟩ :: _) _; first | refine WPl.rdX (ReadR.sliceH rfl rfl hasA (by omega)) ?_ | refine WPl.rdX (ReadR.sliceL rfl rfl hasA (by omega)) ?_ | refine WPl.rdX (ReadR.sliceLH rfl rfl rfl hasA (by omega) (by omega)) ?_)
       | (refine WPl.spQ (fun hc => ?_) (fun hc => ?_) <;> try exact prA)
       | fail)
      all_goals try (first | exact WPq.dTp | exact WPq.dTs | exact WPq.dV | exact WPq.dR | exact WPq.dR2 | exact WPq.dH | exact WPq.dBH | exact WPq.dT)
    · obtain ⟨m, hm⟩ : ∃ m, 8 - i = m + 1 := ⟨7 - i, by omega⟩
      rw [hm]
      by_cases h0 : s.proto.toNat = 0 ∧ m + 1 < 8
      · obtain ⟨h0, h1⟩ := h0
        rw [xall_form hb h0 h1]
        repeat' (first
         | refine WPl.nil ?_ | refine WPq.then ?_ | refine WPq.thenR ?_ | refine WPq.thenE ?_ | refine WPq.blockN ?_ | refine WPq.blockR ?_ | refine WPq.blockE ?_ | refine WPq.blockO rfl ?_ | refine WPc.seq ?_ | refine WPc.block ?_ | refine WPc.ret ?_ | refine WPc.exit ?_ | refine WPc.skip ?_ | refine WPc.region ?_
         | (refine isCond ?_; first | refine WPc.cT ?_ | refine WPc.cF ?_ | (refine WPc.cQ (fun hc => ?_) (fun hc => ?_) <;> try exact prA))
         | (refine isC 10 ?_; refine WPl.cV (hbt) ?_)
         | (refine isOp ?_; first | refine WPl.rd ?_ | refine WPl.sk ?_ | refine WPl.rdB ?_)
         | (show WPl _ _ _ _ _ _ _ (⟨_, .indexAddr _ _ _, _, _, _, _⟩ :: _) _; refine WPl.rdX (ReadR.indexE rfl rfl hasA (by first | assumption | omega)) ?_)
         | (show WPl _ _ _ _ _ _ _ (⟨_, .fieldAddr _ _ _, _, _, _, _⟩ :: _) _; refine WPl.rdX (ReadR.fieldE rfl hasA (by first | assumption | omega)) ?_)
         | (show WPl _ _ _ _ _ _ _ (⟨_, .load _ _, _, _, _, _⟩ :: _) _; first | refine WPl.rdX (ReadR.loadE rfl hasA (by assumption)) ?_ | refine WPl.rdX (ReadR.loadES (by assumption) (by first | assumption | omega) rfl hasA) ?_)
         | (show WPl _ _ _ _ _ _ _ (⟨_, .slice _ _ _ _ _, _, _, _, _⟩ :: _) _; first | refine WPl.rdX (ReadR.sliceH rfl rfl hasA (by omega)) ?_ | refine WPl.rdX (ReadR.sliceL rfl rfl hasA (by omega)) ?_ | refine WPl.rdX (ReadR.sliceLH rfl rfl rfl hasA (by omega) (by omega)) ?_)
         | (refine WPl.spQ (fun hc => ?_) (fun hc => ?_) <;> try exact prA)
         | fail)
        all_goals try (first | exact WPq.dTp | exact WPq.dTs | exact WPq.dV | exact WPq.dR | exact WPq.dR2 | exact WPq.dH | exact WPq.dBH | exact WPq.dT)
      · cases hbad : xbad b s with
        | true =>
          rw [hbad, if_pos rfl, xstep, if_pos hbad] at hpt
          rw [xall_bad hb h0 hbad]
          repeat' (first
           | refine WPl.nil ?_ | refine WPq.then ?_ | refine WPq.thenR ?_ | refine WPq.thenE ?_ | refine WPq.blockN ?_ | refine WPq.blockR ?_ | refine WPq.blockE ?_ | refine WPq.blockO rfl ?_ | refine WPc.seq ?_ | refine WPc.block ?_ | refine WPc.ret ?_ | refine WPc.exit ?_ | refine WPc.skip ?_ | refine WPc.region ?_
           | (refine isCond ?_; first | refine WPc.cT ?_ | refine WPc.cF ?_ | (refine WPc.cQ (fun hc => ?_) (fun hc => ?_) <;> try exact prA))
           | (refine isC 10 ?_; refine WPl.cV (hbt) ?_)
           | (refine isC 28 ?_; refine WPl.cT (hpt) ?_)
           | (refine isOp ?_; first | refine WPl.rd ?_ | refine WPl.sk ?_ | refine WPl.rdB ?_)
           | (show WPl _ _ _ _ _ _ _ (⟨_, .indexAddr _ _ _, _, _, _, _⟩ :: _) _; refine WPl.rdX (ReadR.indexE rfl rfl hasA (by first | assumption | omega)) ?_)
           | (show WPl _ _ _ _ _ _ _ (⟨_, .fieldAddr _ _ _, _, _, _, _⟩ :: _) _; refine WPl.rdX (ReadR.fieldE rfl hasA (by first | assumption | omega)) ?_)
           | (show WPl _ _ _ _ _ _ _ (⟨_, .load _ _, _, _, _, _⟩ :: _) _; first | refine WPl.rdX (ReadR.loadE rfl hasA (by assumption)) ?_ | refine WPl.rdX (ReadR.loadES (by assumption) (by first | assumption | omega) rfl hasA) ?_)
           | (show WPl _ _ _ _ _ _ _ (⟨_, .slice _ _ _ _ _, _, _, _, _⟩ :: _) _; first | refine WPl.rdX (ReadR.sliceH rfl rfl hasA (by omega)) ?_ | refine WPl.rdX (ReadR.sliceL rfl rfl hasA (by omega)) ?_ | refine WPl.rdX (ReadR.sliceLH rfl rfl rfl hasA (by omega) (by omega)) ?_)
           | (refine WPl.spQ (fun hc => ?_) (fun hc => ?_) <;> try exact prA)
           | fail)
          all_goals try (first | exact WPq.dTp | exact WPq.dTs | exact WPq.dV | exact WPq.dR | exact WPq.dR2 | exact WPq.dH | exact WPq.dBH | exact WPq.dT)
        | false =>
          rw [hbad, if_neg (by decide), xstep, if_neg (by rw [hbad]; decide)] at hpt
          have hn := xall_next hb h0 hbad
          have hnp := xnext_pos hs hbad
          repeat' (first
           | refine WPl.nil ?_ | refine WPq.then ?_ | refine WPq.thenR ?_ | refine WPq.thenE ?_ | refine WPq.blockN ?_ | refine WPq.blockR ?_ | refine WPq.blockE ?_ | refine WPq.blockO rfl ?_ | refine WPc.seq ?_ | refine WPc.block ?_ | refine WPc.ret ?_ | refine WPc.exit ?_ | refine WPc.skip ?_ | refine WPc.region ?_
           | (refine isCond ?_; first | refine WPc.cT ?_ | refine WPc.cF ?_ | (refine WPc.cQ (fun hc => ?_) (fun hc => ?_) <;> try exact prA))
           | (refine isC 10 ?_; refine WPl.cV (hbt) ?_)
           | (refine isC 28 ?_; refine WPl.cT (hpt) ?_)
           | (refine isOp ?_; first | refine WPl.rd ?_ | refine WPl.sk ?_ | refine WPl.rdB ?_)
           | (show WPl _ _ _ _ _ _ _ (⟨_, .indexAddr _ _ _, _, _, _, _⟩ :: _) _; refine WPl.rdX (ReadR.indexE rfl rfl hasA (by first | assumption | omega)) ?_)
           | (show WPl _ _ _ _ _ _ _ (⟨_, .fieldAddr _ _ _, _, _, _, _⟩ :: _) _; refine WPl.rdX (ReadR.fieldE rfl hasA (by first | assumption | omega)) ?_)
           | (show WPl _ _ _ _ _ _ _ (⟨_, .load _ _, _, _, _, _⟩ :: _) _; first | refine WPl.rdX (ReadR.loadE rfl hasA (by assumption)) ?_ | refine WPl.rdX (ReadR.loadES (by assumption) (by first | assumption | omega) rfl hasA) ?_)
           | (show WPl _ _ _ _ _ _ _ (⟨_, .slice _ _ _ _ _, _, _, _, _⟩ :: _) _; first | refine WPl.rdX (ReadR.sliceH rfl rfl hasA (by omega)) ?_ | refine WPl.rdX (ReadR.sliceL rfl rfl hasA (by omega)) ?_ | refine WPl.rdX (ReadR.sliceLH rfl rfl rfl hasA (by omega) (by omega)) ?_)
           | (refine WPl.spQ (fun hc => ?_) (fun hc => ?_) <;> try exact prA)
           | fail)
          all_goals exact WPq.rnd (i + 1, xnext b s) ⟨by show i + 1 ≤ 8; omega, hnp, by show _ = xall b (8 - (i + 1)) _; rw [hn, show 8 - (i + 1) = m by omega]⟩ (by show 8 - (i + 1) < _; omega)
end Go.Proofs.YtpilenbdimhegaaGreatDoor
/- Layer 14 (ipsix): reading: contracts. -/
namespace Go.Proofs.YtpilenbdimhegaaGreatDoor
open Go.RowKit
set_option linter.unusedSimpArgs false
set_option linter.unusedVariables false
set_option maxRecDepth 20000
set_option maxHeartbeats 4000000
attribute [local irreducible] WPc WPl WPq ReadR OpT BinR HasS bx rdN rowN Take Takes Prov Triple ResF BuildP Done ag Int.decLt Int.decLe Int.instDecidableEq

def xerr0 (b : List UInt8) : Int :=
  if 2048 < b.length then 10 else if b.length < 40 then 9 else if byteN b 0 / 16 ≠ 6 then 12 else if b.length < 40 + val (seg b 4 2) then 9 else if 40 + val (seg b 4 2) < b.length then 10
  else if byteN b 7 = 0 then 4 else 0
def xs0 (b : List UInt8) : XS := ⟨b.getD 6 0, 40, false⟩
def xerr (b : List UInt8) : Int := if xerr0 b = 0 then (xall b 8 (xs0 b)).1 else xerr0 b
def xhead (b : List UInt8) (s : XS) : Hd := ⟨true, s.proto, (s.pos : Int), ofA (seg b 8 16), ofA (seg b 24 16), s.part, b.getD 7 0⟩
def xread (b : List UInt8) : Hd := if xerr b = 0 then xhead b (xall b 8 (xs0 b)).2 else Hd.none
abbrev sVal (b : List UInt8) : Value := .tuple #[ag (hdc (xread b)), .int .i64 (xerr b)]
theorem xerr0_zero {b : List UInt8} (h : xerr0 b = 0) : b.length ≤ 2048 ∧ 40 ≤ b.length ∧ byteN b 0 / 16 = 6 ∧ 40 + val (seg b 4 2) = b.length ∧ byteN b 7 ≠ 0 := by
  unfold xerr0 at h
  repeat' (split at h)
  all_goals first | omega | (cases h; done) | skip
theorem xerr0_ne {b : List UInt8} (h : ¬ xerr0 b = 0) : 2048 < b.length ∨ b.length < 40 ∨ byteN b 0 / 16 ≠ 6 ∨ 40 + val (seg b 4 2) ≠ b.length ∨ byteN b 7 = 0 := by
  apply Classical.byContradiction
  intro hn
  apply h
  unfold xerr0
  repeat' (first | omega | split)
attribute [local irreducible] xall ofA
theorem xread_t (v : Value) (b : List UInt8) (hl : b.length ≤ 100000) : Triple Tryz.prog 105 #[v] [rb v b] (RVal (sVal b)) := by
  have hb0 := byteN_lt b 0
  have hb7 := byteN_lt b 7
  have hv1 := val2_lt (l := b) (k := 4)
  have u0 : byteN b 0 = (b.getD 0 0).toNat := rfl
  have u7 : byteN b 7 = (b.getD 7 0).toNat := rfl
  by_cases he : xerr0 b = 0
  · obtain ⟨h1, h2, h3, h4, h5⟩ := xerr0_zero he
    have ha1 := (ofA (seg b 8 16)).len
    have ha2 := (ofA (seg b 24 16)).len
    obtain ⟨c, hc⟩ : ∃ c, c = (xall b 8 (xs0 b)).1 := ⟨_, rfl⟩
    obtain ⟨s, hs⟩ : ∃ s, s = (xall b 8 (xs0 b)).2 := ⟨_, rfl⟩
    have hat := fun g => all_t g ⟨true, 0, 0, ofA (seg b 8 16), ofA (seg b 24 16), false, b.getD 7 0⟩ (xs0 b) v b (by show 40 ≤ _; omega) hl
    have hx : xerr b = c := by unfold xerr; rw [if_pos he, hc]
    have hr : xread b = if c = 0 then xhead b s else Hd.none := by unfold xread; rw [hx, hs]
    rw [← hc, ← hs] at hat
    rw [sVal, hx, hr]
    clear hx hr hc hs
    by_cases hc0 : c = 0
    · rw [if_pos hc0]
      subst hc0
      refine Triple.enter Tryz.func105 rfl Tryz.ntmps105 rfl (fun W => ?_)
      dsimp only [argsF, Nat.reduceAdd]
      refine WPc.know (p := v.oneCell' = true) (HasS.one (n := b.length) (xs := u8s b) hasA) fun hone => ?_
      repeat' (first
       | refine WPl.nil ?_ | refine WPq.then ?_ | refine WPq.thenR ?_ | refine WPq.thenE ?_ | refine WPq.blockN ?_ | refine WPq.blockR ?_ | refine WPq.blockE ?_ | refine WPq.blockO rfl ?_ | refine WPc.seq ?_ | refine WPc.block ?_ | refine WPc.ret ?_ | refine WPc.exit ?_ | refine WPc.skip ?_ | refine WPc.region ?_
       | (refine isReg 17 ?_; refine WPc.drA [([], [71, 72, 73, 74, 75, 77]), ([0], [68, 71, 72, 73, 74, 75, 77]), ([0, 1], [68, 69, 71, 72, 73, 74, 75, 77]), ([], [68, 69, 70, 72, 73, 74, 75, 77]), ([], [68, 69, 70, 71, 73, 74, 75, 77]), ([], [68, 69, 70, 71, 72, 77]), ([5], [68, 69, 70, 71, 72, 73, 77]), ([5, 6], [68, 69, 70, 71, 72, 73, 74, 77]), ([0, 1, 2, 3, 4, 5, 6, 7], [68, 69, 70, 71, 72, 73, 74, 75, 77]), ([], [68, 69, 70, 71, 72, 73, 74, 75, 76]), ([0, 1, 2, 3, 4, 5, 6, 7, 8, 9], [68, 69, 70, 71, 72, 73, 74, 75, 76, 77]), ([0, 1, 2, 3, 4, 5, 6, 7, 8, 9, 10], [68, 69, 70, 71, 72, 73, 74, 75, 76, 77, 78]), ([0, 1, 2, 3, 4, 5, 6, 7, 8, 9, 10, 11], [68, 69, 70, 71, 72, 73, 74, 75, 76, 77, 78, 79])] [] (Γx := []) ?_; dsimp only [prev0, List.length_nil, List.length_cons])
       | (refine gAny ?_; first | (refine gC 32 ?_; refine RGl.vl (fun e hk => OpT.callN (get_t v b 4 2 (by omega) (by omega) (by omega) (by omega))) ?_) | (refine gC 59 ?_; refine RGl.vl (fun e hk => OpT.callN (Of_t (subv 1 v 8 16) (seg b 8 16))) ?_) | (refine gC 65 ?_; refine RGl.vl (fun e hk => OpT.callN (Of_t (subv 1 v 24 16) (seg b 24 16))) ?_) | (refine gOp ?_; first | refine RGl.rdA ?_ | refine RGl.rdX (fun e hk => by (try dsimp only [bndR, ensR, oksR, fcutR, List.append_nil, List.nil_append, List.cons_append, List.append_assoc] at hk ⊢); exact readB) ?_) | (refine gBx ?_; refine RGl.nwA ?_) | (refine RGl.fin (fun e hk => ?_); (try dsimp only [bndA, ensAR, oksA, List.append_nil, List.nil_append, List.cons_append, List.append_assoc] at hk ⊢); (repeat (obtain ⟨hk1, hk⟩ := hk))) | fail)
       | (refine isCond ?_; first | refine WPc.cT ?_ | refine WPc.cF ?_ | (refine WPc.cQ (fun hc => ?_) (fun hc => ?_) <;> try exact prA))
       | (refine isD 2 ?_; first | (refine isAl ?_; refine WPl.nw fun gr => ?_) | (refine isBx ?_; refine WPl.nw fun gr => ?_))
       | (refine isC 32 ?_; refine WPl.cV (get_t v b 4 2 (by omega) (by omega) (by omega) (by omega)) ?_)
       | (refine isC 59 ?_; refine WPl.cV (Of_t (subv 1 v 8 16) (seg b 8 16)) ?_)
       | (refine isC 65 ?_; refine WPl.cV (Of_t (subv 1 v 24 16) (seg b 24 16)) ?_)
       | (refine isC 81 ?_; refine WPl.cT (hat (blk (e 11).1)) ?_)
       | (refine isOp ?_; first | refine WPl.rd ?_ | refine WPl.sk ?_ | refine WPl.rdB ?_)
       | (refine isAl ?_; refine WPl.nw fun g => ?_)
       | (refine isBx ?_; refine WPl.nw fun g => ?_)
       | (refine isSt ?_; first | refine WPl.st1 ?_ | refine WPl.stA ?_ | refine WPl.stEB ?_ | refine WPl.stRB ?_)
       | (show WPl _ _ _ _ _ _ _ (⟨_, .indexAddr _ _ _, _, _, _, _⟩ :: _) _; refine WPl.rdX (ReadR.indexE rfl rfl hasA (by first | assumption | omega)) ?_)
       | (show WPl _ _ _ _ _ _ _ (⟨_, .fieldAddr _ _ _, _, _, _, _⟩ :: _) _; refine WPl.rdX (ReadR.fieldE rfl hasA (by first | assumption | omega)) ?_)
       | (show WPl _ _ _ _ _ _ _ (⟨_, .load _ _, _, _, _, _⟩ :: _) _; first | refine WPl.rdX (ReadR.loadE rfl hasA (by assumption)) ?_ | refine WPl.rdX (ReadR.loadES (by assumption) (by first | assumption | omega) rfl hasA) ?_)
       | (show WPl _ _ _ _ _ _ _ (⟨_, .slice _ _ _ _ _, _, _, _, _⟩ :: _) _; first | refine WPl.rdX (ReadR.sliceH rfl rfl hasA (by omega)) ?_ | refine WPl.rdX (ReadR.sliceL rfl rfl hasA (by omega)) ?_ | refine WPl.rdX (ReadR.sliceLH rfl rfl rfl hasA (by omega) (by omega)) ?_)
       | (refine WPl.spQ (fun hc => ?_) (fun hc => ?_) <;> try exact prA)
       | fail)
      all_goals try (first | exact WPq.dTp | exact WPq.dTs | exact WPq.dV | exact WPq.dR | exact WPq.dR2 | exact WPq.dH | exact WPq.dBH | exact WPq.dT)
    · rw [if_neg hc0]
      refine Triple.enter Tryz.func105 rfl Tryz.ntmps105 rfl (fun W => ?_)
      dsimp only [argsF, Nat.reduceAdd]
      refine WPc.know (p := v.oneCell' = true) (HasS.one (n := b.length) (xs := u8s b) hasA) fun hone => ?_
      repeat' (first
       | refine WPl.nil ?_ | refine WPq.then ?_ | refine WPq.thenR ?_ | refine WPq.thenE ?_ | refine WPq.blockN ?_ | refine WPq.blockR ?_ | refine WPq.blockE ?_ | refine WPq.blockO rfl ?_ | refine WPc.seq ?_ | refine WPc.block ?_ | refine WPc.ret ?_ | refine WPc.exit ?_ | refine WPc.skip ?_ | refine WPc.region ?_
       | (refine isReg 17 ?_; refine WPc.drA [([], [71, 72, 73, 74, 75, 77]), ([0], [68, 71, 72, 73, 74, 75, 77]), ([0, 1], [68, 69, 71, 72, 73, 74, 75, 77]), ([], [68, 69, 70, 72, 73, 74, 75, 77]), ([], [68, 69, 70, 71, 73, 74, 75, 77]), ([], [68, 69, 70, 71, 72, 77]), ([5], [68, 69, 70, 71, 72, 73, 77]), ([5, 6], [68, 69, 70, 71, 72, 73, 74, 77]), ([0, 1, 2, 3, 4, 5, 6, 7], [68, 69, 70, 71, 72, 73, 74, 75, 77]), ([], [68, 69, 70, 71, 72, 73, 74, 75, 76]), ([0, 1, 2, 3, 4, 5, 6, 7, 8, 9], [68, 69, 70, 71, 72, 73, 74, 75, 76, 77]), ([0, 1, 2, 3, 4, 5, 6, 7, 8, 9, 10], [68, 69, 70, 71, 72, 73, 74, 75, 76, 77, 78]), ([0, 1, 2, 3, 4, 5, 6, 7, 8, 9, 10, 11], [68, 69, 70, 71, 72, 73, 74, 75, 76, 77, 78, 79])] [] (Γx := []) ?_; dsimp only [prev0, List.length_nil, List.length_cons])
       | (refine gAny ?_; first | (refine gC 32 ?_; refine RGl.vl (fun e hk => OpT.callN (get_t v b 4 2 (by omega) (by omega) (by omega) (by omega))) ?_) | (refine gC 59 ?_; refine RGl.vl (fun e hk => OpT.callN (Of_t (subv 1 v 8 16) (seg b 8 16))) ?_) | (refine gC 65 ?_; refine RGl.vl (fun e hk => OpT.callN (Of_t (subv 1 v 24 16) (seg b 24 16))) ?_) | (refine gOp ?_; first | refine RGl.rdA ?_ | refine RGl.rdX (fun e hk => by (try dsimp only [bndR, ensR, oksR, fcutR, List.append_nil, List.nil_append, List.cons_append, List.append_assoc] at hk ⊢); exact readB) ?_) | (refine gBx ?_; refine RGl.nwA ?_) | (refine RGl.fin (fun e hk => ?_); (try dsimp only [bndA, ensAR, oksA, List.append_nil, List.nil_append, List.cons_append, List.append_assoc] at hk ⊢); (repeat (obtain ⟨hk1, hk⟩ := hk))) | fail)
       | (refine isCond ?_; first | refine WPc.cT ?_ | refine WPc.cF ?_ | (refine WPc.cQ (fun hc => ?_) (fun hc => ?_) <;> try exact prA))
       | (refine isD 2 ?_; first | (refine isAl ?_; refine WPl.nw fun gr => ?_) | (refine isBx ?_; refine WPl.nw fun gr => ?_))
       | (refine isC 32 ?_; refine WPl.cV (get_t v b 4 2 (by omega) (by omega) (by omega) (by omega)) ?_)
       | (refine isC 59 ?_; refine WPl.cV (Of_t (subv 1 v 8 16) (seg b 8 16)) ?_)
       | (refine isC 65 ?_; refine WPl.cV (Of_t (subv 1 v 24 16) (seg b 24 16)) ?_)
       | (refine isC 81 ?_; refine WPl.cT (hat (blk (e 11).1)) ?_)
       | (refine isOp ?_; first | refine WPl.rd ?_ | refine WPl.sk ?_ | refine WPl.rdB ?_)
       | (refine isAl ?_; refine WPl.nw fun g => ?_)
       | (refine isBx ?_; refine WPl.nw fun g => ?_)
       | (refine isSt ?_; first | refine WPl.st1 ?_ | refine WPl.stA ?_ | refine WPl.stEB ?_ | refine WPl.stRB ?_)
       | (show WPl _ _ _ _ _ _ _ (⟨_, .indexAddr _ _ _, _, _, _, _⟩ :: _) _; refine WPl.rdX (ReadR.indexE rfl rfl hasA (by first | assumption | omega)) ?_)
       | (show WPl _ _ _ _ _ _ _ (⟨_, .fieldAddr _ _ _, _, _, _, _⟩ :: _) _; refine WPl.rdX (ReadR.fieldE rfl hasA (by first | assumption | omega)) ?_)
       | (show WPl _ _ _ _ _ _ _ (⟨_, .load _ _, _, _, _, _⟩ :: _) _; first | refine WPl.rdX (ReadR.loadE rfl hasA (by assumption)) ?_ | refine WPl.rdX (ReadR.loadES (by assumption) (by first | assumption | omega) rfl hasA) ?_)
       | (show WPl _ _ _ _ _ _ _ (⟨_, .slice _ _ _ _ _, _, _, _, _⟩ :: _) _; first | refine WPl.rdX (ReadR.sliceH rfl rfl hasA (by omega)) ?_ | refine WPl.rdX (ReadR.sliceL rfl rfl hasA (by omega)) ?_ | refine WPl.rdX (ReadR.sliceLH rfl rfl rfl hasA (by omega) (by omega)) ?_)
       | (refine WPl.spQ (fun hc => ?_) (fun hc => ?_) <;> try exact prA)
       | fail)
      all_goals try (first | exact WPq.dTp | exact WPq.dTs | exact WPq.dV | exact WPq.dR | exact WPq.dR2 | exact WPq.dH | exact WPq.dBH | exact WPq.dT)
  · rw [show sVal b = .tuple #[ag (hdc Hd.none), .int .i64 (xerr0 b)] by unfold sVal xread xerr; rw [if_neg he, if_neg he]]
    have hne := xerr0_ne he
    refine Triple.enter Tryz.func105 rfl Tryz.ntmps105 rfl (fun W => ?_)
    dsimp only [argsF, Nat.reduceAdd]
    repeat' (first
     | refine WPl.nil ?_ | refine WPq.then ?_ | refine WPq.thenR ?_ | refine WPq.thenE ?_ | refine WPq.blockN ?_ | refine WPq.blockR ?_ | refine WPq.blockE ?_ | refine WPq.blockO rfl ?_ | refine WPc.seq ?_ | refine WPc.block ?_ | refine WPc.ret ?_ | refine WPc.exit ?_ | refine WPc.skip ?_ | refine WPc.region ?_
     | (refine isReg 17 ?_; refine WPc.drA [([], [71, 72, 73, 74, 75, 77]), ([0], [68, 71, 72, 73, 74, 75, 77]), ([0, 1], [68, 69, 71, 72, 73, 74, 75, 77]), ([], [68, 69, 70, 72, 73, 74, 75, 77]), ([], [68, 69, 70, 71, 73, 74, 75, 77]), ([], [68, 69, 70, 71, 72, 77]), ([5], [68, 69, 70, 71, 72, 73, 77]), ([5, 6], [68, 69, 70, 71, 72, 73, 74, 77]), ([0, 1, 2, 3, 4, 5, 6, 7], [68, 69, 70, 71, 72, 73, 74, 75, 77]), ([], [68, 69, 70, 71, 72, 73, 74, 75, 76]), ([0, 1, 2, 3, 4, 5, 6, 7, 8, 9], [68, 69, 70, 71, 72, 73, 74, 75, 76, 77]), ([0, 1, 2, 3, 4, 5, 6, 7, 8, 9, 10], [68, 69, 70, 71, 72, 73, 74, 75, 76, 77, 78]), ([0, 1, 2, 3, 4, 5, 6, 7, 8, 9, 10, 11], [68, 69, 70, 71, 72, 73, 74, 75, 76, 77, 78, 79])] [] (Γx := []) ?_; dsimp only [prev0, List.length_nil, List.length_cons])
     | (refine gAny ?_; first | (refine gC 32 ?_; refine RGl.vl (fun e hk => OpT.callN (get_t v b 4 2 (by omega) (by omega) (by omega) (by omega))) ?_) | (refine gOp ?_; first | refine RGl.rdA ?_ | refine RGl.rdX (fun e hk => by (try dsimp only [bndR, ensR, oksR, fcutR, List.append_nil, List.nil_append, List.cons_append, List.append_assoc] at hk ⊢); exact readB) ?_) | (refine gBx ?_; refine RGl.nwA ?_) | (refine RGl.fin (fun e hk => ?_); (try dsimp only [bndA, ensAR, oksA, List.append_nil, List.nil_append, List.cons_append, List.append_assoc] at hk ⊢); (repeat (obtain ⟨hk1, hk⟩ := hk))) | fail)
     | (refine isCond ?_; first | refine WPc.cT ?_ | refine WPc.cF ?_ | (refine WPc.cQ (fun hc => ?_) (fun hc => ?_) <;> try exact prA))
     | (refine isD 2 ?_; first | (refine isAl ?_; refine WPl.nw fun gr => ?_) | (refine isBx ?_; refine WPl.nw fun gr => ?_))
     | (refine isC 32 ?_; refine WPl.cV (get_t v b 4 2 (by omega) (by omega) (by omega) (by omega)) ?_)
     | (refine isOp ?_; first | refine WPl.rd ?_ | refine WPl.sk ?_ | refine WPl.rdB ?_)
     | (refine isAl ?_; refine WPl.nw fun g => ?_)
     | (refine isBx ?_; refine WPl.nw fun g => ?_)
     | (refine isSt ?_; first | refine WPl.st1 ?_ | refine WPl.stA ?_ | refine WPl.stEB ?_ | refine WPl.stRB ?_)
     | (show WPl _ _ _ _ _ _ _ (⟨_, .indexAddr _ _ _, _, _, _, _⟩ :: _) _; refine WPl.rdX (ReadR.indexE rfl rfl hasA (by first | assumption | omega)) ?_)
     | (show WPl _ _ _ _ _ _ _ (⟨_, .fieldAddr _ _ _, _, _, _, _⟩ :: _) _; refine WPl.rdX (ReadR.fieldE rfl hasA (by first | assumption | omega)) ?_)
     | (show WPl _ _ _ _ _ _ _ (⟨_, .load _ _, _, _, _, _⟩ :: _) _; first | refine WPl.rdX (ReadR.loadE rfl hasA (by assumption)) ?_ | refine WPl.rdX (ReadR.loadES (by assumption) (by first | assumption | omega) rfl hasA) ?_)
     | (show WPl _ _ _ _ _ _ _ (⟨_, .slice _ _ _ _ _, _, _, _, _⟩ :: _) _; first | refine WPl.rdX (ReadR.sliceH rfl rfl hasA (by omega)) ?_ | refine WPl.rdX (ReadR.sliceL rfl rfl hasA (by omega)) ?_ | refine WPl.rdX (ReadR.sliceLH rfl rfl rfl hasA (by omega) (by omega)) ?_)
     | (refine WPl.spQ (fun hc => ?_) (fun hc => ?_) <;> try exact prA)
     | fail)
    all_goals
      refine WPq.dV (hc := ?_)
      show Value.tuple #[_, Value.int .i64 _] = Value.tuple #[_, Value.int .i64 _]
      congr 5
      unfold xerr0
      repeat' (first | omega | split)
end Go.Proofs.YtpilenbdimhegaaGreatDoor
/- Layer 14 (ipsix): writing: contracts and plain facts. -/
namespace Go.Proofs.YtpilenbdimhegaaGreatDoor
open Go.RowKit
set_option linter.unusedSimpArgs false
set_option linter.unusedVariables false
set_option maxRecDepth 20000
set_option maxHeartbeats 4000000
attribute [local irreducible] WPc WPl WPq ReadR OpT BinR HasS bx rdN rowN Take Takes Prov Triple ResF BuildP Done ag Int.decLt Int.decLe Int.instDecidableEq

def xwBad (h : Hd) : Bool := !h.six || (h.part || (decide (((h.hops.toNat : Nat) : Int) = 0) || (!h.src.six || (!h.dst.six || btw h.proto))))
def xwerr (h : Hd) (n : Nat) : Int := if xwBad h then 1 else if 2008 < n then 10 else 0
def xpkt (h : Hd) (d : List UInt8) : List UInt8 := [nbs [96, 0, 0, 0] ++ be d.length 2, nbs [(h.proto.toNat : Nat), (h.hops.toNat : Nat)], h.src.bytes, h.dst.bytes, d].flatten
def xwL (h : Hd) (d : List UInt8) : List UInt8 := if xwerr h d.length = 0 then xpkt h d else []
attribute [local irreducible] xpkt be btw
end Go.Proofs.YtpilenbdimhegaaGreatDoor
/- Layer 16 (pkt): packets, read and built: contracts. -/
namespace Go.Proofs.YtpilenbdimhegaaGreatDoor
open Go.RowKit
set_option linter.unusedSimpArgs false
set_option linter.unusedVariables false
set_option maxRecDepth 20000
set_option maxHeartbeats 4000000
attribute [local irreducible] WPc WPl WPq ReadR OpT BinR HasS bx rdN rowN Take Takes Prov Triple ResF BuildP Done ag Int.decLt Int.decLe Int.instDecidableEq

/-- A flow. -/
structure Fl where
  src : Adr
  dst : Adr
  sp : Nat
  dp : Nat
  proto : UInt8
abbrev flc (f : Fl) : Ch := [(1, [.bool f.src.six]), (16, u8s f.src.b), (1, [.bool f.dst.six]), (16, u8s f.dst.b), (1, [.int .u16 (f.sp : Int)]), (1, [.int .u16 (f.dp : Int)]), (1, [.int .u8 ((f.proto.toNat : Nat) : Int)])]
def Fl.none : Fl := ⟨Adr.zero, Adr.zero, 0, 0, 0⟩
/-- A packet that was read. -/
structure Pk where
  hd : Hd
  sg : Sg
  fl : Fl
abbrev pkc (p : Pk) : Ch := [(1, [.bool p.hd.six]), (1, [.int .u8 ((p.hd.proto.toNat : Nat) : Int)]), (1, [.int .i64 p.hd.pos]), (1, [.bool p.hd.src.six]), (16, u8s p.hd.src.b), (1, [.bool p.hd.dst.six]), (16, u8s p.hd.dst.b), (1, [.bool p.hd.part]), (1, [.int .u8 ((p.hd.hops.toNat : Nat) : Int)]), (1, [.int .u16 (p.sg.src : Int)]), (1, [.int .u16 (p.sg.dst : Int)]), (1, [.int .u8 ((p.sg.flags.toNat : Nat) : Int)]), (1, [.int .i64 p.sg.sumAt]), (1, [.bool p.sg.zero]), (1, [.int .i64 p.sg.data]), (1, [.bool p.fl.src.six]), (16, u8s p.fl.src.b), (1, [.bool p.fl.dst.six]), (16, u8s p.fl.dst.b), (1, [.int .u16 (p.fl.sp : Int)]), (1, [.int .u16 (p.fl.dp : Int)]), (1, [.int .u8 ((p.fl.proto.toNat : Nat) : Int)])]
def Pk.none : Pk := ⟨Hd.none, Sg.none, Fl.none⟩
def phE (b : List UInt8) : Int := if b.length = 0 then 9 else if byteN b 0 / 16 = 4 then ferr b else if byteN b 0 / 16 = 6 then xerr b else 12
def phH (b : List UInt8) : Hd := if b.length = 0 then Hd.none else if byteN b 0 / 16 = 4 then fread b else if byteN b 0 / 16 = 6 then xread b else Hd.none
abbrev phVal (b : List UInt8) : Value := .tuple #[ag (hdc (phH b)), .int .i64 (phE b)]
attribute [local irreducible] xread xerr fread ferr
theorem phead_t (v : Value) (b : List UInt8) (hl : b.length ≤ 100000) : Triple Tryz.prog 62 #[v] [rb v b] (RVal (phVal b)) := by
  have hb0 := byteN_lt b 0
  have u0 : byteN b 0 = (b.getD 0 0).toNat := rfl
  have c4 := fread_t v b (by omega)
  have c6 := xread_t v b hl
  by_cases h0 : b.length = 0
  · rw [show phVal b = .tuple #[ag (hdc Hd.none), .int .i64 9] by unfold phVal phH phE; rw [if_pos h0, if_pos h0]]
    refine Triple.enter Tryz.func62 rfl Tryz.ntmps62 rfl (fun W => ?_)
    dsimp only [argsF, Nat.reduceAdd]
    repeat' (first
     | refine WPl.nil ?_ | refine WPq.then ?_ | refine WPq.thenR ?_ | refine WPc.seq ?_ | refine WPc.ret ?_ | refine WPc.region ?_
     | (refine isCond ?_; first | refine WPc.cT ?_ | refine WPc.cF ?_ | (refine WPc.cQ (fun hc => ?_) (fun hc => ?_) <;> try exact prA))
     | (refine isOp ?_; first | refine WPl.rd ?_ | refine WPl.sk ?_ | refine WPl.rdB ?_)
     | (refine isAl ?_; refine WPl.nw fun g => ?_)
     | (refine isSt ?_; first | refine WPl.st1 ?_ | refine WPl.stA ?_ | refine WPl.stEB ?_ | refine WPl.stRB ?_)
     | fail)
    all_goals try (first | exact WPq.dTp | exact WPq.dTs | exact WPq.dV | exact WPq.dR | exact WPq.dR2 | exact WPq.dH | exact WPq.dBH | exact WPq.dT)
  · by_cases h4 : byteN b 0 / 16 = 4
    · rw [show phVal b = fVal b by unfold phVal phH phE; rw [if_neg h0, if_neg h0, if_pos h4, if_pos h4]]
      obtain ⟨X, hX⟩ : ∃ X, X = fread b := ⟨_, rfl⟩
      obtain ⟨c, hc⟩ : ∃ c, c = ferr b := ⟨_, rfl⟩
      simp only [fVal] at c4 ⊢
      rw [← hX, ← hc] at c4 ⊢
      clear hX hc
      have k1 := X.src.len
      have k2 := X.dst.len
      refine Triple.enter Tryz.func62 rfl Tryz.ntmps62 rfl (fun W => ?_)
      dsimp only [argsF, Nat.reduceAdd]
      repeat' (first
       | refine WPl.nil ?_ | refine WPq.then ?_ | refine WPq.thenR ?_ | refine WPq.blockR ?_ | refine WPc.seq ?_ | refine WPc.block ?_ | refine WPc.ret ?_ | refine WPc.skip ?_ | refine WPc.region ?_
       | (refine isCond ?_; first | refine WPc.cT ?_ | refine WPc.cF ?_ | (refine WPc.cQ (fun hc => ?_) (fun hc => ?_) <;> try exact prA))
       | (refine isC 15 ?_; refine WPl.cV (c4) ?_)
       | (refine isOp ?_; first | refine WPl.rd ?_ | refine WPl.sk ?_ | refine WPl.rdB ?_)
       | (refine isAl ?_; refine WPl.nw fun g => ?_)
       | (refine isSt ?_; first | refine WPl.st1 ?_ | refine WPl.stA ?_ | refine WPl.stEB ?_ | refine WPl.stRB ?_)
       | fail)
      all_goals try (first | exact WPq.dTp | exact WPq.dTs | exact WPq.dV | exact WPq.dR | exact WPq.dR2 | exact WPq.dH | exact WPq.dBH | exact WPq.dT)
    · by_cases h6 : byteN b 0 / 16 = 6
      · rw [show phVal b = sVal b by unfold phVal phH phE; rw [if_neg h0, if_neg h0, if_neg h4, if_neg h4, if_pos h6, if_pos h6]]
        obtain ⟨X, hX⟩ : ∃ X, X = xread b := ⟨_, rfl⟩
        obtain ⟨c, hc⟩ : ∃ c, c = xerr b := ⟨_, rfl⟩
        simp only [sVal] at c6 ⊢
        rw [← hX, ← hc] at c6 ⊢
        clear hX hc
        have k1 := X.src.len
        have k2 := X.dst.len
        refine Triple.enter Tryz.func62 rfl Tryz.ntmps62 rfl (fun W => ?_)
        dsimp only [argsF, Nat.reduceAdd]
        repeat' (first
         | refine WPl.nil ?_ | refine WPq.then ?_ | refine WPq.thenR ?_ | refine WPq.blockR ?_ | refine WPc.seq ?_ | refine WPc.block ?_ | refine WPc.ret ?_ | refine WPc.skip ?_ | refine WPc.region ?_
         | (refine isCond ?_; first | refine WPc.cT ?_ | refine WPc.cF ?_ | (refine WPc.cQ (fun hc => ?_) (fun hc => ?_) <;> try exact prA))
         | (refine isC 21 ?_; refine WPl.cV (c6) ?_)
         | (refine isOp ?_; first | refine WPl.rd ?_ | refine WPl.sk ?_ | refine WPl.rdB ?_)
         | (refine isAl ?_; refine WPl.nw fun g => ?_)
         | (refine isSt ?_; first | refine WPl.st1 ?_ | refine WPl.stA ?_ | refine WPl.stEB ?_ | refine WPl.stRB ?_)
         | fail)
        all_goals try (first | exact WPq.dTp | exact WPq.dTs | exact WPq.dV | exact WPq.dR | exact WPq.dR2 | exact WPq.dH | exact WPq.dBH | exact WPq.dT)
      · rw [show phVal b = .tuple #[ag (hdc Hd.none), .int .i64 12] by unfold phVal phH phE; rw [if_neg h0, if_neg h0, if_neg h4, if_neg h4, if_neg h6, if_neg h6]]
        refine Triple.enter Tryz.func62 rfl Tryz.ntmps62 rfl (fun W => ?_)
        dsimp only [argsF, Nat.reduceAdd]
        repeat' (first
         | refine WPl.nil ?_ | refine WPq.then ?_ | refine WPq.blockN ?_ | refine WPc.seq ?_ | refine WPc.block ?_ | refine WPc.ret ?_ | refine WPc.skip ?_ | refine WPc.region ?_
         | (refine isCond ?_; first | refine WPc.cT ?_ | refine WPc.cF ?_ | (refine WPc.cQ (fun hc => ?_) (fun hc => ?_) <;> try exact prA))
         | (refine isOp ?_; first | refine WPl.rd ?_ | refine WPl.sk ?_ | refine WPl.rdB ?_)
         | (refine isAl ?_; refine WPl.nw fun g => ?_)
         | (refine isSt ?_; first | refine WPl.st1 ?_ | refine WPl.stA ?_ | refine WPl.stEB ?_ | refine WPl.stRB ?_)
         | fail)
        all_goals try (first | exact WPq.dTp | exact WPq.dTs | exact WPq.dV | exact WPq.dR | exact WPq.dR2 | exact WPq.dH | exact WPq.dBH | exact WPq.dT)
def pkS (b : List UInt8) : List UInt8 := seg b (phH b).pos.toNat (b.length - (phH b).pos.toNat)
def pkE (b : List UInt8) : Int := if ¬ phE b = 0 then phE b else if (phH b).part then 13 else sgE (phH b) (pkS b)
def pkOf (h : Hd) (s : Sg) : Pk := ⟨h, s, ⟨h.src, h.dst, s.src, s.dst, h.proto⟩⟩
def pkR (b : List UInt8) : Pk := if pkE b = 0 then pkOf (phH b) (sgR (phH b) (pkS b)) else Pk.none
abbrev pkVal (b : List UInt8) : Value := .tuple #[ag (pkc (pkR b)), .int .i64 (pkE b)]
/-- Where what is carried begins. -/
theorem ferr_pos {b : List UInt8} (h : ferr b = 0) : 0 ≤ (fread b).pos ∧ (fread b).pos ≤ b.length := by
  obtain ⟨h1, h2, h3, h4, h5, h6, h7, h8, h9⟩ := ferr_zero h
  unfold fread
  rw [if_pos h]
  show (0 : Int) ≤ (ihl b : Nat) ∧ ((ihl b : Nat) : Int) ≤ b.length
  omega
theorem xall_pos {b : List UInt8} : ∀ (m : Nat) (s : XS), s.pos ≤ b.length → (xall b m s).2.pos ≤ b.length
  | 0, s, h => by unfold xall; split <;> exact h
  | m + 1, s, h => by
    unfold xall
    split
    · split
      · exact h
      · split
        · exact h
        · rename_i h3; exact xall_pos m _ (xnext_pos h (by simpa using h3))
    · exact h
theorem xerr_pos {b : List UInt8} (h : xerr b = 0) : 0 ≤ (xread b).pos ∧ (xread b).pos ≤ b.length := by
  have h0 : xerr0 b = 0 := by
    apply Classical.byContradiction
    intro hh
    unfold xerr at h
    rw [if_neg hh] at h
    exact hh h
  obtain ⟨h1, h2, h3, h4, h5⟩ := xerr0_zero h0
  have := xall_pos (b := b) 8 (xs0 b) h2
  unfold xread
  rw [if_pos h]
  show (0 : Int) ≤ ((xall b 8 (xs0 b)).2.pos : Nat) ∧ (((xall b 8 (xs0 b)).2.pos : Nat) : Int) ≤ b.length
  omega
theorem phE_pos {b : List UInt8} (h : phE b = 0) : 0 ≤ (phH b).pos ∧ (phH b).pos ≤ b.length := by
  unfold phE at h
  unfold phH
  repeat' (split at h)
  · cases h
  · rename_i h0 h4; rw [if_neg h0, if_pos h4]; exact ferr_pos h
  · rename_i h0 h4 h6; rw [if_neg h0, if_neg h4, if_pos h6]; exact xerr_pos h
  · cases h
attribute [local irreducible] phH phE sgR sgE
theorem parse_t (v : Value) (b : List UInt8) (hl : b.length ≤ 100000) : Triple Tryz.prog 31 #[v] [rb v b] (RVal (pkVal b)) := by
  have c1 := phead_t v b hl
  simp only [phVal] at c1
  by_cases he : phE b = 0
  · obtain ⟨p1, p2⟩ := phE_pos he
    have c2 := fun u => sread_t (phH b) u (pkS b) (by unfold pkS; rw [seg_len]; omega)
    simp only [gVal] at c2
    have hE : pkE b = if (phH b).part then 13 else sgE (phH b) (pkS b) := by unfold pkE; rw [if_neg (by rw [he]; simp)]
    obtain ⟨k, hk⟩ : ∃ k : Nat, (phH b).pos = (k : Int) := ⟨(phH b).pos.toNat, by omega⟩
    have hS : pkS b = seg b k (b.length - k) := by unfold pkS; rw [hk]; rfl
    have hval : pkVal b = .tuple #[ag (pkc (if pkE b = 0 then pkOf (phH b) (sgR (phH b) (pkS b)) else Pk.none)), .int .i64 (pkE b)] := rfl
    rw [hval, hE]
    rw [he] at c1
    clear hval hE he
    obtain ⟨Y, hY⟩ : ∃ Y, Y = sgR (phH b) (pkS b) := ⟨_, rfl⟩
    obtain ⟨c, hc⟩ : ∃ c, c = sgE (phH b) (pkS b) := ⟨_, rfl⟩
    rw [← hY, ← hc] at c2 ⊢
    clear hY hc
    rw [hS] at c2
    clear hS
    obtain ⟨X, hX⟩ : ∃ X, X = phH b := ⟨_, rfl⟩
    rw [← hX] at c1 c2 hk p1 p2 ⊢
    clear hX
    obtain ⟨six, pr, pos, a1, a2, pt, hp⟩ := X
    dsimp only at hk p1 p2
    subst hk
    have k1 := a1.len
    have k2 := a2.len
    have hkb : k ≤ b.length := by omega
    cases pt with
    | true =>
      simp only [if_true]
      rw [if_neg (by omega)]
      refine Triple.enter Tryz.func31 rfl Tryz.ntmps31 rfl (fun W => ?_)
      dsimp only [argsF, Nat.reduceAdd]
      repeat' (first
       | refine WPl.nil ?_ | refine WPq.then ?_ | refine WPq.thenR ?_ | refine WPc.seq ?_ | refine WPc.ret ?_ | refine WPc.skip ?_ | refine WPc.region ?_
       | (refine isCond ?_; first | refine WPc.cT ?_ | refine WPc.cF ?_ | (refine WPc.cQ (fun hc => ?_) (fun hc => ?_) <;> try exact prA))
       | (refine isC 9 ?_; refine WPl.cV (c1) ?_)
       | (refine isOp ?_; first | refine WPl.rd ?_ | refine WPl.sk ?_ | refine WPl.rdB ?_)
       | (refine isAl ?_; refine WPl.nw fun g => ?_)
       | (refine isSt ?_; first | refine WPl.st1 ?_ | refine WPl.stA ?_ | refine WPl.stEB ?_ | refine WPl.stRB ?_)
       | fail)
      all_goals try (first | exact WPq.dTp | exact WPq.dTs | exact WPq.dV | exact WPq.dR | exact WPq.dR2 | exact WPq.dH | exact WPq.dBH | exact WPq.dT)
    | false =>
      simp only [Bool.false_eq_true, if_false]
      by_cases hc0 : c = 0
      · rw [if_pos hc0]
        subst hc0
        refine Triple.enter Tryz.func31 rfl Tryz.ntmps31 rfl (fun W => ?_)
        dsimp only [argsF, Nat.reduceAdd]
        repeat' (first
         | refine WPl.nil ?_ | refine WPq.then ?_ | refine WPc.seq ?_ | refine WPc.ret ?_ | refine WPc.skip ?_ | refine WPc.region ?_
         | (refine isReg 6 ?_; refine WPc.drA [([], [6, 21, 22, 23, 24]), ([], [6, 20, 22, 23]), ([], [6, 20, 21]), ([2], [6, 20, 21, 22]), ([1, 2, 3], [6, 20, 21, 22, 23]), ([0, 1, 2, 3, 4], [6, 20, 21, 22, 23, 24]), ([0, 1, 2, 3, 4, 5], [6, 20, 21, 22, 23, 24, 25]), ([0, 1, 2, 3, 4, 5, 6], [6, 19, 20, 21, 22, 23, 24, 25, 27]), ([0, 1, 2, 3, 4, 5, 6], [6, 19, 20, 21, 22, 23, 24, 25, 26]), ([], [19, 20, 21, 22, 23, 24, 25, 26, 27]), ([0, 1, 2, 3, 4, 5, 6, 7, 9], [6, 19, 20, 21, 22, 23, 24, 25, 26, 27]), ([0, 1, 2, 3, 4, 5, 6, 7, 8, 9, 10], [6, 19, 20, 21, 22, 23, 24, 25, 26, 27])] [(9, 10)] (Γx := []) ?_; dsimp only [prev0, List.length_nil, List.length_cons])
         | (refine gAny ?_; first | (refine gC 25 ?_; refine RGl.vl (fun e hk => OpT.callN (c2 (subv 1 v k (b.length - k)))) ?_) | (refine gOp ?_; first | refine RGl.rdA ?_ | refine RGl.rdX (fun e hk => by (try dsimp only [bndR, ensR, oksR, fcutR, List.append_nil, List.nil_append, List.cons_append, List.append_assoc] at hk ⊢); exact readB) ?_) | (refine gAl ?_; refine RGl.nwA ?_) | (refine gSt ?_; refine RGl.stA ?_) | (refine RGl.fin (fun e hk => ?_); (try dsimp only [bndA, ensAR, oksA, List.append_nil, List.nil_append, List.cons_append, List.append_assoc] at hk ⊢); (repeat (obtain ⟨hk1, hk⟩ := hk))) | fail)
         | (refine isCond ?_; first | refine WPc.cT ?_ | refine WPc.cF ?_ | (refine WPc.cQ (fun hc => ?_) (fun hc => ?_) <;> try exact prA))
         | (refine isC 9 ?_; refine WPl.cV (c1) ?_)
         | (refine isD 45 ?_; refine WPl.rdX (ReadR.build (cs' := pkc (pkOf ⟨six, pr, (k : Int), a1, a2, false, hp⟩ Y)) buildA) ?_)
         | (show WPl _ _ _ _ _ _ _ (⟨_, .store 51 (.tmp 2) _, _, _, _, _⟩ :: _) _; refine WPl.stA (new := pkc (pkOf ⟨six, pr, (k : Int), a1, a2, false, hp⟩ Y)) ?_ (ht := by kernel_rfl))
         | (refine isOp ?_; first | refine WPl.rd ?_ | refine WPl.sk ?_ | refine WPl.rdB ?_)
         | (refine isAl ?_; refine WPl.nw fun g => ?_)
         | (refine isSt ?_; first | refine WPl.st1 ?_ | refine WPl.stA ?_ | refine WPl.stEB ?_ | refine WPl.stRB ?_)
         | fail)
        all_goals try (first | exact WPq.dTp | exact WPq.dTs | exact WPq.dV | exact WPq.dR | exact WPq.dR2 | exact WPq.dH | exact WPq.dBH | exact WPq.dT)
      · rw [if_neg hc0]
        refine Triple.enter Tryz.func31 rfl Tryz.ntmps31 rfl (fun W => ?_)
        dsimp only [argsF, Nat.reduceAdd]
        repeat' (first
         | refine WPl.nil ?_ | refine WPq.then ?_ | refine WPq.thenR ?_ | refine WPc.seq ?_ | refine WPc.ret ?_ | refine WPc.skip ?_ | refine WPc.region ?_
         | (refine isReg 6 ?_; refine WPc.drA [([], [6, 21, 22, 23, 24]), ([], [6, 20, 22, 23]), ([], [6, 20, 21]), ([2], [6, 20, 21, 22]), ([1, 2, 3], [6, 20, 21, 22, 23]), ([0, 1, 2, 3, 4], [6, 20, 21, 22, 23, 24]), ([0, 1, 2, 3, 4, 5], [6, 20, 21, 22, 23, 24, 25]), ([0, 1, 2, 3, 4, 5, 6], [6, 19, 20, 21, 22, 23, 24, 25, 27]), ([0, 1, 2, 3, 4, 5, 6], [6, 19, 20, 21, 22, 23, 24, 25, 26]), ([], [19, 20, 21, 22, 23, 24, 25, 26, 27]), ([0, 1, 2, 3, 4, 5, 6, 7, 9], [6, 19, 20, 21, 22, 23, 24, 25, 26, 27]), ([0, 1, 2, 3, 4, 5, 6, 7, 8, 9, 10], [6, 19, 20, 21, 22, 23, 24, 25, 26, 27])] [(9, 10)] (Γx := []) ?_; dsimp only [prev0, List.length_nil, List.length_cons])
         | (refine gAny ?_; first | (refine gC 25 ?_; refine RGl.vl (fun e hk => OpT.callN (c2 (subv 1 v k (b.length - k)))) ?_) | (refine gOp ?_; first | refine RGl.rdA ?_ | refine RGl.rdX (fun e hk => by (try dsimp only [bndR, ensR, oksR, fcutR, List.append_nil, List.nil_append, List.cons_append, List.append_assoc] at hk ⊢); exact readB) ?_) | (refine gAl ?_; refine RGl.nwA ?_) | (refine gSt ?_; refine RGl.stA ?_) | (refine RGl.fin (fun e hk => ?_); (try dsimp only [bndA, ensAR, oksA, List.append_nil, List.nil_append, List.cons_append, List.append_assoc] at hk ⊢); (repeat (obtain ⟨hk1, hk⟩ := hk))) | fail)
         | (refine isCond ?_; first | refine WPc.cT ?_ | refine WPc.cF ?_ | (refine WPc.cQ (fun hc => ?_) (fun hc => ?_) <;> try exact prA))
         | (refine isC 9 ?_; refine WPl.cV (c1) ?_)
         | (refine isOp ?_; first | refine WPl.rd ?_ | refine WPl.sk ?_ | refine WPl.rdB ?_)
         | (refine isAl ?_; refine WPl.nw fun g => ?_)
         | (refine isSt ?_; first | refine WPl.st1 ?_ | refine WPl.stA ?_ | refine WPl.stEB ?_ | refine WPl.stRB ?_)
         | fail)
        all_goals try (first | exact WPq.dTp | exact WPq.dTs | exact WPq.dV | exact WPq.dR | exact WPq.dR2 | exact WPq.dH | exact WPq.dBH | exact WPq.dT)
  · have hE : pkE b = phE b := by unfold pkE; rw [if_pos he]
    rw [show pkVal b = .tuple #[ag (pkc Pk.none), .int .i64 (phE b)] by unfold pkVal pkR; rw [hE, if_neg he]]
    obtain ⟨X, hX⟩ : ∃ X, X = phH b := ⟨_, rfl⟩
    obtain ⟨c, hc⟩ : ∃ c, c = phE b := ⟨_, rfl⟩
    rw [← hc] at he
    rw [← hX, ← hc] at c1
    rw [← hc]
    clear hX hc hE
    have k1 := X.src.len
    have k2 := X.dst.len
    refine Triple.enter Tryz.func31 rfl Tryz.ntmps31 rfl (fun W => ?_)
    dsimp only [argsF, Nat.reduceAdd]
    repeat' (first
     | refine WPl.nil ?_ | refine WPq.then ?_ | refine WPq.thenR ?_ | refine WPc.seq ?_ | refine WPc.ret ?_ | refine WPc.region ?_
     | (refine isCond ?_; first | refine WPc.cT ?_ | refine WPc.cF ?_ | (refine WPc.cQ (fun hc => ?_) (fun hc => ?_) <;> try exact prA))
     | (refine isC 9 ?_; refine WPl.cV (c1) ?_)
     | (refine isOp ?_; first | refine WPl.rd ?_ | refine WPl.sk ?_ | refine WPl.rdB ?_)
     | (refine isAl ?_; refine WPl.nw fun g => ?_)
     | (refine isSt ?_; first | refine WPl.st1 ?_ | refine WPl.stA ?_ | refine WPl.stEB ?_ | refine WPl.stRB ?_)
     | fail)
    all_goals try (first | exact WPq.dTp | exact WPq.dTs | exact WPq.dV | exact WPq.dR | exact WPq.dR2 | exact WPq.dH | exact WPq.dBH | exact WPq.dT)
end Go.Proofs.YtpilenbdimhegaaGreatDoor
