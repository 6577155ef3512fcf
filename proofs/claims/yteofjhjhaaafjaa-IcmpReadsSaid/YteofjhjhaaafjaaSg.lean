/- Layer 15 (seg): what is summed, and reading: contracts. -/
import Derived.Test.YteofjhjhaaafjaaIx
namespace Go.Proofs.Yteofjhjhaaafjaa
open Go.RowKit
set_option linter.unusedSimpArgs false
set_option linter.unusedVariables false
set_option maxRecDepth 20000
set_option maxHeartbeats 4000000
attribute [local irreducible] WPc WPl WPq ReadR OpT BinR HasS bx rdN rowN Take Takes Prov Triple ResF BuildP Done ag Int.decLt Int.decLe Int.instDecidableEq

theorem ReadR.convT {P : Program} {n : Nat} {Γ : List Asn} {F : List (Nat × Value)} {d : Option Tmp} {ty : TypeId} {pos : String} {af : Array Edge} {gd : Option (Nat × Bool)} {T1 T2 : TypeId} {k1 k2 : IntKind} {x : Operand} {a c : Int} [h2 : IntI P T2 k2] (hc : k2.wrap a = c) (h1 : (P.underlying T1).isSome = true) (hx : evF F x = some (.int k1 a)) : ReadR P n Γ F ⟨d, .convert T1 T2 x, ty, pos, af, gd⟩ (.int k2 c) := hc ▸ ReadR.convW h1 hx
/-- What a segment is summed with. -/
def psu (h : Hd) (n : Nat) : List UInt8 :=
  if h.six then [h.src.bytes, h.dst.bytes].flatten ++ be n 4 ++ nbs [0, 0, 0, (h.proto.toNat : Nat)] else [h.src.bytes, h.dst.bytes].flatten ++ nbs [0, (h.proto.toNat : Nat)] ++ be n 2
theorem psu_len (h : Hd) (n : Nat) : (psu h n).length ≤ 40 := by
  have a1 := h.src.bytes_le
  have a2 := h.dst.bytes_le
  unfold psu
  split <;> simp [be_length, nbs] <;> omega
attribute [local irreducible] be
theorem pseudo_t (h : Hd) (k : Int) (n : Nat) (hkw : IntKind.u64.wrap k = (n : Int)) (hn : n < 18446744073709551616) : Triple Try.prog 86 #[ag (hdc h), .int .i64 k] [] (ROb (psu h n)) := by
  have l1 := h.src.len
  have l2 := h.dst.len
  have a1 := h.src.bytes_le
  have a2 := h.dst.bytes_le
  have hb4 := be_length n 4
  have hb2 := be_length n 2
  obtain ⟨p, hp⟩ : ∃ p, p = [h.src.bytes, h.dst.bytes].flatten := ⟨_, rfl⟩
  have hpl : p.length ≤ 32 := by rw [hp]; simp; omega
  cases hs : h.six with
  | true =>
    rw [show psu h n = p ++ be n 4 ++ nbs [0, 0, 0, (h.proto.toNat : Nat)] by unfold psu; rw [if_pos hs, hp]]
    refine Triple.enter Try.func86 rfl Try.ntmps86 rfl (fun W => ?_)
    dsimp only [argsF, Nat.reduceAdd]
    repeat' (first
     | refine WPl.nil ?_ | refine WPq.then ?_ | refine WPq.thenR ?_ | refine WPq.thenE ?_ | refine WPq.blockN ?_ | refine WPq.blockR ?_ | refine WPq.blockE ?_ | refine WPq.blockO rfl ?_ | refine WPc.seq ?_ | refine WPc.block ?_ | refine WPc.ret ?_ | refine WPc.exit ?_ | refine WPc.skip ?_ | refine WPc.region ?_
     | (refine isReg 1 ?_; refine WPc.drA [([], [9, 10]), ([0], [6, 9, 10]), ([0, 1], [6, 7, 9, 10]), ([], [6, 7, 8]), ([3], [6, 7, 8, 9]), ([0, 1, 2, 3, 4], [6, 7, 8, 9, 10]), ([0, 1, 2, 3, 4, 5], [6, 7, 8, 9, 10, 11]), ([0, 1, 2, 3, 4, 5, 6], [6, 7, 8, 9, 10, 11, 12]), ([0, 1, 2, 3, 4, 5, 6, 7], [6, 7, 8, 9, 10, 11, 12, 13])] [] (Γx := []) ?_; dsimp only [prev0, List.length_nil, List.length_cons])
     | (refine isReg 3 ?_; refine WPc.drA [([], [17, 18, 20, 21, 22]), ([], [16, 20, 21, 22]), ([1], [16, 17, 20, 21, 22]), ([0, 1, 2], [16, 17, 18, 20, 21, 22]), ([], [16, 17, 18, 19]), ([4], [16, 17, 18, 19, 20]), ([4, 5], [16, 17, 18, 19, 20, 21]), ([0, 1, 2, 3, 4, 5, 6], [16, 17, 18, 19, 20, 21, 22]), ([0, 1, 2, 3, 4, 5, 6, 7], [16, 17, 18, 19, 20, 21, 22, 23])] [(3, 7)] (Γx := []) ?_; dsimp only [prev0, List.length_nil, List.length_cons])
     | (refine gAny ?_; first | (refine gC 8 ?_; refine RGl.row (Γ1 := fun _ => []) (fun e hk => OpT.callN (addrBytes_t h.src)) ?_) | (refine gC 11 ?_; refine RGl.row (Γ1 := fun _ => []) (fun e hk => OpT.callN (addrBytes_t h.dst)) ?_) | (refine gC 13 ?_; refine RGl.row (Γ1 := fun _ => []) (fun e hk => OpT.callN (bytesE_t _ [_, _] [h.src.bytes, h.dst.bytes] p hp.symm rfl (by simp; omega) (by simp))) ?_) | (refine gC 19 ?_; refine RGl.row (Γ1 := fun _ => []) (fun e hk => OpT.callN (put_t _ p n 4 (by omega) (by omega) (by omega) (by omega))) ?_) | (refine gD 18 ?_; refine RGl.rdX (fun e hk => by (try dsimp only [bndR, ensR, oksR, fcutR, List.append_nil, List.nil_append, List.cons_append, List.append_assoc] at hk ⊢); exact ReadR.convT hkw rfl rfl) ?_) | (refine gOp ?_; first | refine RGl.rdA ?_ | refine RGl.rdX (fun e hk => by (try dsimp only [bndR, ensR, oksR, fcutR, List.append_nil, List.nil_append, List.cons_append, List.append_assoc] at hk ⊢); exact readB) ?_) | (refine gLit ?_; refine RGl.litA ?_) | (refine gApp ?_; refine RGl.appA ?_) | (refine RGl.fin (fun e hk => ?_); (try dsimp only [bndA, ensAR, oksA, List.append_nil, List.nil_append, List.cons_append, List.append_assoc] at hk ⊢); (repeat (obtain ⟨hk1, hk⟩ := hk))) | fail)
     | (refine isCond ?_; first | refine WPc.cT ?_ | refine WPc.cF ?_ | (refine WPc.cQ (fun hc => ?_) (fun hc => ?_) <;> try exact prA))
     | (refine isLit ?_; refine WPl.lit fun v hv => ?_)
     | (refine isLit ?_; refine WPl.lits fun v hv => ?_)
     | (refine isApp ?_; refine WPl.app fun v hv => ?_)
     | (refine isC 8 ?_; refine WPl.cR (addrBytes_t h.src) fun v hv => ?_)
     | (refine isC 11 ?_; refine WPl.cR (addrBytes_t h.dst) fun v hv => ?_)
     | (refine isC 13 ?_; refine WPl.cR (bytesE_t _ [_, _] [h.src.bytes, h.dst.bytes] p hp.symm rfl (by simp; omega) (by simp)) fun v hv => ?_)
     | (refine isD 18 ?_; refine WPl.rdX (ReadR.convT hkw rfl rfl) ?_)
     | (refine isC 19 ?_; refine WPl.cR (put_t _ p n 4 (by omega) (by omega) (by omega) (by omega)) fun v hv => ?_)
     | (refine isOp ?_; first | refine WPl.rd ?_ | refine WPl.sk ?_ | refine WPl.rdB ?_)
     | (refine isBx ?_; refine WPl.nw fun g => ?_)
     | (refine WPl.spQ (fun hc => ?_) (fun hc => ?_) <;> try exact prA)
     | fail)
    all_goals try (first | exact WPq.dV | exact WPq.dR | exact WPq.dR2 | exact WPq.dH | exact WPq.dBH | exact WPq.dT)
  | false =>
    rw [show psu h n = p ++ nbs [0, (h.proto.toNat : Nat)] ++ be n 2 by unfold psu; rw [if_neg (by rw [hs]; decide), hp]]
    refine Triple.enter Try.func86 rfl Try.ntmps86 rfl (fun W => ?_)
    dsimp only [argsF, Nat.reduceAdd]
    repeat' (first
     | refine WPl.nil ?_ | refine WPq.then ?_ | refine WPq.thenR ?_ | refine WPq.thenE ?_ | refine WPq.blockN ?_ | refine WPq.blockR ?_ | refine WPq.blockE ?_ | refine WPq.blockO rfl ?_ | refine WPc.seq ?_ | refine WPc.block ?_ | refine WPc.ret ?_ | refine WPc.exit ?_ | refine WPc.skip ?_ | refine WPc.region ?_
     | (refine isReg 1 ?_; refine WPc.drA [([], [9, 10]), ([0], [6, 9, 10]), ([0, 1], [6, 7, 9, 10]), ([], [6, 7, 8]), ([3], [6, 7, 8, 9]), ([0, 1, 2, 3, 4], [6, 7, 8, 9, 10]), ([0, 1, 2, 3, 4, 5], [6, 7, 8, 9, 10, 11]), ([0, 1, 2, 3, 4, 5, 6], [6, 7, 8, 9, 10, 11, 12]), ([0, 1, 2, 3, 4, 5, 6, 7], [6, 7, 8, 9, 10, 11, 12, 13])] [] (Γx := []) ?_; dsimp only [prev0, List.length_nil, List.length_cons])
     | (refine isReg 3 ?_; refine WPc.drA [([], [17, 18, 20, 21, 22]), ([], [16, 20, 21, 22]), ([1], [16, 17, 20, 21, 22]), ([0, 1, 2], [16, 17, 18, 20, 21, 22]), ([], [16, 17, 18, 19]), ([4], [16, 17, 18, 19, 20]), ([4, 5], [16, 17, 18, 19, 20, 21]), ([0, 1, 2, 3, 4, 5, 6], [16, 17, 18, 19, 20, 21, 22]), ([0, 1, 2, 3, 4, 5, 6, 7], [16, 17, 18, 19, 20, 21, 22, 23])] [(3, 7)] (Γx := []) ?_; dsimp only [prev0, List.length_nil, List.length_cons])
     | (refine gAny ?_; first | (refine gC 8 ?_; refine RGl.row (Γ1 := fun _ => []) (fun e hk => OpT.callN (addrBytes_t h.src)) ?_) | (refine gC 11 ?_; refine RGl.row (Γ1 := fun _ => []) (fun e hk => OpT.callN (addrBytes_t h.dst)) ?_) | (refine gC 13 ?_; refine RGl.row (Γ1 := fun _ => []) (fun e hk => OpT.callN (bytesE_t _ [_, _] [h.src.bytes, h.dst.bytes] p hp.symm rfl (by simp; omega) (by simp))) ?_) | (refine gC 31 ?_; refine RGl.row (Γ1 := fun _ => []) (fun e hk => OpT.callN (put_t _ (p ++ nbs [0, (h.proto.toNat : Nat)]) n 2 (by simp [nbs]; omega) (by omega) (by omega) (by omega))) ?_) | (refine gD 30 ?_; refine RGl.rdX (fun e hk => by (try dsimp only [bndR, ensR, oksR, fcutR, List.append_nil, List.nil_append, List.cons_append, List.append_assoc] at hk ⊢); exact ReadR.convT hkw rfl rfl) ?_) | (refine gOp ?_; first | refine RGl.rdA ?_ | refine RGl.rdX (fun e hk => by (try dsimp only [bndR, ensR, oksR, fcutR, List.append_nil, List.nil_append, List.cons_append, List.append_assoc] at hk ⊢); exact readB) ?_) | (refine gLit ?_; refine RGl.litA ?_) | (refine gApp ?_; refine RGl.appA ?_) | (refine RGl.fin (fun e hk => ?_); (try dsimp only [bndA, ensAR, oksA, List.append_nil, List.nil_append, List.cons_append, List.append_assoc] at hk ⊢); (repeat (obtain ⟨hk1, hk⟩ := hk))) | fail)
     | (refine isCond ?_; first | refine WPc.cT ?_ | refine WPc.cF ?_ | (refine WPc.cQ (fun hc => ?_) (fun hc => ?_) <;> try exact prA))
     | (refine isLit ?_; refine WPl.lit fun v hv => ?_)
     | (refine isLit ?_; refine WPl.lits fun v hv => ?_)
     | (refine isApp ?_; refine WPl.app fun v hv => ?_)
     | (refine isC 8 ?_; refine WPl.cR (addrBytes_t h.src) fun v hv => ?_)
     | (refine isC 11 ?_; refine WPl.cR (addrBytes_t h.dst) fun v hv => ?_)
     | (refine isC 13 ?_; refine WPl.cR (bytesE_t _ [_, _] [h.src.bytes, h.dst.bytes] p hp.symm rfl (by simp; omega) (by simp)) fun v hv => ?_)
     | (refine isD 30 ?_; refine WPl.rdX (ReadR.convT hkw rfl rfl) ?_)
     | (refine isC 31 ?_; refine WPl.cR (put_t _ (p ++ nbs [0, (h.proto.toNat : Nat)]) n 2 (by simp [nbs]; omega) (by omega) (by omega) (by omega)) fun v hv => ?_)
     | (refine isOp ?_; first | refine WPl.rd ?_ | refine WPl.sk ?_ | refine WPl.rdB ?_)
     | (refine isBx ?_; refine WPl.nw fun g => ?_)
     | (refine WPl.spQ (fun hc => ?_) (fun hc => ?_) <;> try exact prA)
     | fail)
    all_goals try (first | exact WPq.dV | exact WPq.dR | exact WPq.dR2 | exact WPq.dH | exact WPq.dBH | exact WPq.dT)
theorem rpseudo_t (h : Hd) (k : Int) (n : Nat) (hkw : IntKind.u64.wrap k = (n : Int)) (hn : n < 18446744073709551616) : Triple Try.prog 46 #[ag (hdc h), .int .i64 k] [] (ROb (psu h n)) := by
  have l1 := h.src.len
  have l2 := h.dst.len
  have a1 := h.src.bytes_le
  have a2 := h.dst.bytes_le
  have hb4 := be_length n 4
  have hb2 := be_length n 2
  have hpe : [h.src.bytes, h.dst.bytes].flatten = h.src.bytes ++ h.dst.bytes := by simp
  cases hs : h.six with
  | true =>
    rw [show psu h n = h.src.bytes ++ h.dst.bytes ++ be n 4 ++ nbs [0, 0, 0, (h.proto.toNat : Nat)] by unfold psu; rw [if_pos hs, hpe]]
    refine Triple.enter Try.func46 rfl Try.ntmps46 rfl (fun W => ?_)
    dsimp only [argsF, Nat.reduceAdd]
    repeat' (first
     | refine WPl.nil ?_ | refine WPq.then ?_ | refine WPq.thenR ?_ | refine WPq.thenE ?_ | refine WPq.blockN ?_ | refine WPq.blockR ?_ | refine WPq.blockE ?_ | refine WPq.blockO rfl ?_ | refine WPc.seq ?_ | refine WPc.block ?_ | refine WPc.ret ?_ | refine WPc.exit ?_ | refine WPc.skip ?_ | refine WPc.region ?_
     | (refine isReg 1 ?_; refine WPc.drA [([], [9, 10]), ([0], [6, 9, 10]), ([0, 1], [6, 7, 9, 10]), ([], [6, 7, 8]), ([3], [6, 7, 8, 9]), ([0, 1, 2, 3, 4], [6, 7, 8, 9, 10]), ([0, 1, 2, 3, 4, 5], [6, 7, 8, 9, 10, 11]), ([0, 1, 2, 3, 4, 5, 6], [6, 7, 8, 9, 10, 11, 12])] [(2, 6), (2, 5)] (Γx := []) ?_; dsimp only [prev0, List.length_nil, List.length_cons])
     | (refine isReg 3 ?_; refine WPc.drA [([], [16, 17, 19, 20, 21]), ([], [15, 19, 20, 21]), ([1], [15, 16, 19, 20, 21]), ([0, 1, 2], [15, 16, 17, 19, 20, 21]), ([], [15, 16, 17, 18]), ([4], [15, 16, 17, 18, 19]), ([4, 5], [15, 16, 17, 18, 19, 20]), ([0, 1, 2, 3, 4, 5, 6], [15, 16, 17, 18, 19, 20, 21]), ([0, 1, 2, 3, 4, 5, 6, 7], [15, 16, 17, 18, 19, 20, 21, 22])] [(3, 7)] (Γx := []) ?_; dsimp only [prev0, List.length_nil, List.length_cons])
     | (refine gAny ?_; first | (refine gC 8 ?_; refine RGl.row (Γ1 := fun _ => []) (fun e hk => OpT.callN (rbytes_t h.src)) ?_) | (refine gC 11 ?_; refine RGl.row (Γ1 := fun _ => []) (fun e hk => OpT.callN (rbytes_t h.dst)) ?_) | (refine gC 18 ?_; refine RGl.row (Γ1 := fun _ => []) (fun e hk => OpT.callN (rput_t _ (h.src.bytes ++ h.dst.bytes) n 4 (by omega) (by omega) (by simp; omega))) ?_) | (refine gD 17 ?_; refine RGl.rdX (fun e hk => by (try dsimp only [bndR, ensR, oksR, fcutR, List.append_nil, List.nil_append, List.cons_append, List.append_assoc] at hk ⊢); exact ReadR.convT hkw rfl rfl) ?_) | (refine gOp ?_; first | refine RGl.rdA ?_ | refine RGl.rdX (fun e hk => by (try dsimp only [bndR, ensR, oksR, fcutR, List.append_nil, List.nil_append, List.cons_append, List.append_assoc] at hk ⊢); exact readB) ?_) | (refine gLit ?_; refine RGl.litA ?_) | (refine gApp ?_; refine RGl.appA ?_) | (refine RGl.fin (fun e hk => ?_); (try dsimp only [bndA, ensAR, oksA, List.append_nil, List.nil_append, List.cons_append, List.append_assoc] at hk ⊢); (repeat (obtain ⟨hk1, hk⟩ := hk))) | fail)
     | (refine isCond ?_; first | refine WPc.cT ?_ | refine WPc.cF ?_ | (refine WPc.cQ (fun hc => ?_) (fun hc => ?_) <;> try exact prA))
     | (refine isLit ?_; refine WPl.lit fun v hv => ?_)
     | (refine isApp ?_; refine WPl.app fun v hv => ?_)
     | (refine isC 8 ?_; refine WPl.cR (rbytes_t h.src) fun v hv => ?_)
     | (refine isC 11 ?_; refine WPl.cR (rbytes_t h.dst) fun v hv => ?_)
     | (refine isD 17 ?_; refine WPl.rdX (ReadR.convT hkw rfl rfl) ?_)
     | (refine isC 18 ?_; refine WPl.cR (rput_t _ (h.src.bytes ++ h.dst.bytes) n 4 (by omega) (by omega) (by simp; omega)) fun v hv => ?_)
     | (refine isOp ?_; first | refine WPl.rd ?_ | refine WPl.sk ?_ | refine WPl.rdB ?_)
     | (refine isBx ?_; refine WPl.nw fun g => ?_)
     | (refine WPl.spQ (fun hc => ?_) (fun hc => ?_) <;> try exact prA)
     | fail)
    all_goals try (first | exact WPq.dV | exact WPq.dR | exact WPq.dR2 | exact WPq.dH | exact WPq.dBH | exact WPq.dT)
  | false =>
    rw [show psu h n = h.src.bytes ++ h.dst.bytes ++ nbs [0, (h.proto.toNat : Nat)] ++ be n 2 by unfold psu; rw [if_neg (by rw [hs]; decide), hpe]]
    refine Triple.enter Try.func46 rfl Try.ntmps46 rfl (fun W => ?_)
    dsimp only [argsF, Nat.reduceAdd]
    repeat' (first
     | refine WPl.nil ?_ | refine WPq.then ?_ | refine WPq.thenR ?_ | refine WPq.thenE ?_ | refine WPq.blockN ?_ | refine WPq.blockR ?_ | refine WPq.blockE ?_ | refine WPq.blockO rfl ?_ | refine WPc.seq ?_ | refine WPc.block ?_ | refine WPc.ret ?_ | refine WPc.exit ?_ | refine WPc.skip ?_ | refine WPc.region ?_
     | (refine isReg 1 ?_; refine WPc.drA [([], [9, 10]), ([0], [6, 9, 10]), ([0, 1], [6, 7, 9, 10]), ([], [6, 7, 8]), ([3], [6, 7, 8, 9]), ([0, 1, 2, 3, 4], [6, 7, 8, 9, 10]), ([0, 1, 2, 3, 4, 5], [6, 7, 8, 9, 10, 11]), ([0, 1, 2, 3, 4, 5, 6], [6, 7, 8, 9, 10, 11, 12])] [(2, 6), (2, 5)] (Γx := []) ?_; dsimp only [prev0, List.length_nil, List.length_cons])
     | (refine isReg 3 ?_; refine WPc.drA [([], [16, 17, 19, 20, 21]), ([], [15, 19, 20, 21]), ([1], [15, 16, 19, 20, 21]), ([0, 1, 2], [15, 16, 17, 19, 20, 21]), ([], [15, 16, 17, 18]), ([4], [15, 16, 17, 18, 19]), ([4, 5], [15, 16, 17, 18, 19, 20]), ([0, 1, 2, 3, 4, 5, 6], [15, 16, 17, 18, 19, 20, 21]), ([0, 1, 2, 3, 4, 5, 6, 7], [15, 16, 17, 18, 19, 20, 21, 22])] [(3, 7)] (Γx := []) ?_; dsimp only [prev0, List.length_nil, List.length_cons])
     | (refine gAny ?_; first | (refine gC 8 ?_; refine RGl.row (Γ1 := fun _ => []) (fun e hk => OpT.callN (rbytes_t h.src)) ?_) | (refine gC 11 ?_; refine RGl.row (Γ1 := fun _ => []) (fun e hk => OpT.callN (rbytes_t h.dst)) ?_) | (refine gC 30 ?_; refine RGl.row (Γ1 := fun _ => []) (fun e hk => OpT.callN (rput_t _ (h.src.bytes ++ h.dst.bytes ++ nbs [0, (h.proto.toNat : Nat)]) n 2 (by omega) (by omega) (by simp [nbs]; omega))) ?_) | (refine gD 29 ?_; refine RGl.rdX (fun e hk => by (try dsimp only [bndR, ensR, oksR, fcutR, List.append_nil, List.nil_append, List.cons_append, List.append_assoc] at hk ⊢); exact ReadR.convT hkw rfl rfl) ?_) | (refine gOp ?_; first | refine RGl.rdA ?_ | refine RGl.rdX (fun e hk => by (try dsimp only [bndR, ensR, oksR, fcutR, List.append_nil, List.nil_append, List.cons_append, List.append_assoc] at hk ⊢); exact readB) ?_) | (refine gLit ?_; refine RGl.litA ?_) | (refine gApp ?_; refine RGl.appA ?_) | (refine RGl.fin (fun e hk => ?_); (try dsimp only [bndA, ensAR, oksA, List.append_nil, List.nil_append, List.cons_append, List.append_assoc] at hk ⊢); (repeat (obtain ⟨hk1, hk⟩ := hk))) | fail)
     | (refine isCond ?_; first | refine WPc.cT ?_ | refine WPc.cF ?_ | (refine WPc.cQ (fun hc => ?_) (fun hc => ?_) <;> try exact prA))
     | (refine isLit ?_; refine WPl.lit fun v hv => ?_)
     | (refine isApp ?_; refine WPl.app fun v hv => ?_)
     | (refine isC 8 ?_; refine WPl.cR (rbytes_t h.src) fun v hv => ?_)
     | (refine isC 11 ?_; refine WPl.cR (rbytes_t h.dst) fun v hv => ?_)
     | (refine isD 29 ?_; refine WPl.rdX (ReadR.convT hkw rfl rfl) ?_)
     | (refine isC 30 ?_; refine WPl.cR (rput_t _ (h.src.bytes ++ h.dst.bytes ++ nbs [0, (h.proto.toNat : Nat)]) n 2 (by omega) (by omega) (by simp [nbs]; omega)) fun v hv => ?_)
     | (refine isOp ?_; first | refine WPl.rd ?_ | refine WPl.sk ?_ | refine WPl.rdB ?_)
     | (refine isBx ?_; refine WPl.nw fun g => ?_)
     | (refine WPl.spQ (fun hc => ?_) (fun hc => ?_) <;> try exact prA)
     | fail)
    all_goals try (first | exact WPq.dV | exact WPq.dR | exact WPq.dR2 | exact WPq.dH | exact WPq.dBH | exact WPq.dT)
attribute [local irreducible] psu
theorem Pseudo_t (h : Hd) (k : Int) (n : Nat) (hkw : IntKind.u64.wrap k = (n : Int)) (hn : n < 18446744073709551616) : Triple Try.prog 45 #[ag (hdc h), .int .i64 k] [] (ROb (psu h n)) := by
  have l1 := h.src.len
  have l2 := h.dst.len
  refine Triple.enter Try.func45 rfl Try.ntmps45 rfl (fun W => ?_)
  dsimp only [argsF, Nat.reduceAdd]
  repeat' (first
   | refine WPl.nil ?_ | refine WPq.then ?_ | refine WPq.thenR ?_ | refine WPq.thenE ?_ | refine WPq.blockN ?_ | refine WPq.blockR ?_ | refine WPq.blockE ?_ | refine WPq.blockO rfl ?_ | refine WPc.seq ?_ | refine WPc.block ?_ | refine WPc.ret ?_ | refine WPc.exit ?_ | refine WPc.skip ?_ | refine WPc.region ?_
   | (refine isCond ?_; first | refine WPc.cT ?_ | refine WPc.cF ?_ | (refine WPc.cQ (fun hc => ?_) (fun hc => ?_) <;> try exact prA))
   | (refine isC 7 ?_; refine WPl.cR (pseudo_t h k n hkw hn) fun v hv => ?_)
   | (refine isOp ?_; first | refine WPl.rd ?_ | refine WPl.sk ?_ | refine WPl.rdB ?_)
   | (refine isBx ?_; refine WPl.nw fun g => ?_)
   | (refine WPl.spQ (fun hc => ?_) (fun hc => ?_) <;> try exact prA)
   | fail)
  all_goals try (first | exact WPq.dV | exact WPq.dR | exact WPq.dR2 | exact WPq.dH | exact WPq.dBH | exact WPq.dT)
def sgood (h : Hd) (b : List UInt8) : Bool := decide (csum (psu h b.length ++ b) = 0)
theorem wrapLen {n : Nat} (h : n < 9223372036854775808) : IntKind.u64.wrap ((n : Nat) : Int) = (n : Int) := by rw [IntKind.wrap_u64]; omega
theorem sgood_t (h : Hd) (vb : Value) (b : List UInt8) (hl : b.length ≤ 100000) : Triple Try.prog 112 #[ag (hdc h), vb] [rb vb b] (RVal (.bool (sgood h b))) := by
  have l1 := h.src.len
  have l2 := h.dst.len
  have hp := psu_len h b.length
  refine Triple.enter Try.func112 rfl Try.ntmps112 rfl (fun W => ?_)
  dsimp only [argsF, Nat.reduceAdd]
  repeat' (first
   | refine WPl.nil ?_ | refine WPq.then ?_ | refine WPq.thenR ?_ | refine WPq.thenE ?_ | refine WPq.blockN ?_ | refine WPq.blockR ?_ | refine WPq.blockE ?_ | refine WPq.blockO rfl ?_ | refine WPc.seq ?_ | refine WPc.block ?_ | refine WPc.ret ?_ | refine WPc.exit ?_ | refine WPc.skip ?_ | refine WPc.region ?_
   | (refine isCond ?_; first | refine WPc.cT ?_ | refine WPc.cF ?_ | (refine WPc.cQ (fun hc => ?_) (fun hc => ?_) <;> try exact prA))
   | (refine isLit ?_; refine WPl.lits fun v hv => ?_)
   | (refine isC 8 ?_; refine WPl.cR (pseudo_t h b.length b.length (wrapLen (by omega)) (by omega)) fun v hv => ?_)
   | (refine isC 11 ?_; refine WPl.cV (igood_t _ [_, _] [psu h b.length, b] (sgood h b) (by simp [sgood]) rfl (by simp; omega) (by simp)) ?_)
   | (refine isOp ?_; first | refine WPl.rd ?_ | refine WPl.sk ?_ | refine WPl.rdB ?_)
   | (refine isBx ?_; refine WPl.nw fun g => ?_)
   | (refine WPl.spQ (fun hc => ?_) (fun hc => ?_) <;> try exact prA)
   | fail)
  all_goals try (first | exact WPq.dV | exact WPq.dR | exact WPq.dR2 | exact WPq.dH | exact WPq.dBH | exact WPq.dT)
theorem rsgood_t (h : Hd) (vb : Value) (b : List UInt8) (hl : b.length ≤ 100000) : Triple Try.prog 84 #[ag (hdc h), vb] [rb vb b] (RVal (.bool (sgood h b))) := by
  have l1 := h.src.len
  have l2 := h.dst.len
  have hp := psu_len h b.length
  have hc := csum_le (psu h b.length ++ b)
  refine Triple.enter Try.func84 rfl Try.ntmps84 rfl (fun W => ?_)
  dsimp only [argsF, Nat.reduceAdd]
  repeat' (first
   | refine WPl.nil ?_ | refine WPq.then ?_ | refine WPq.thenR ?_ | refine WPq.thenE ?_ | refine WPq.blockN ?_ | refine WPq.blockR ?_ | refine WPq.blockE ?_ | refine WPq.blockO rfl ?_ | refine WPc.seq ?_ | refine WPc.block ?_ | refine WPc.ret ?_ | refine WPc.exit ?_ | refine WPc.skip ?_ | refine WPc.region ?_
   | (refine isCond ?_; first | refine WPc.cT ?_ | refine WPc.cF ?_ | (refine WPc.cQ (fun hc => ?_) (fun hc => ?_) <;> try exact prA))
   | (refine isApp ?_; refine WPl.app fun v hv => ?_)
   | (refine isC 8 ?_; refine WPl.cR (rpseudo_t h b.length b.length (wrapLen (by omega)) (by omega)) fun v hv => ?_)
   | (refine isC 11 ?_; refine WPl.cV (rsum_t _ (psu h b.length ++ b) (by simp; omega)) ?_)
   | (refine isOp ?_; first | refine WPl.rd ?_ | refine WPl.sk ?_ | refine WPl.rdB ?_)
   | (refine isBx ?_; refine WPl.nw fun g => ?_)
   | (refine WPl.spQ (fun hc => ?_) (fun hc => ?_) <;> try exact prA)
   | fail)
  exact WPq.dV (hc := by unfold sgood; exact boolV (by omega))
theorem port_t (vb : Value) (b : List UInt8) (k : Nat) (hk : k + 2 ≤ b.length) (hl : b.length ≤ 100000) : Triple Try.prog 83 #[vb, .int .i64 (k : Int)] [rb vb b] (RVal (.int .u16 (val (seg b k 2) : Nat))) := by
  have hv := val2_lt (l := b) (k := k)
  refine Triple.enter Try.func83 rfl Try.ntmps83 rfl (fun W => ?_)
  dsimp only [argsF, Nat.reduceAdd]
  repeat' (first
   | refine WPl.nil ?_ | refine WPq.then ?_ | refine WPq.thenR ?_ | refine WPq.thenE ?_ | refine WPq.blockN ?_ | refine WPq.blockR ?_ | refine WPq.blockE ?_ | refine WPq.blockO rfl ?_ | refine WPc.seq ?_ | refine WPc.block ?_ | refine WPc.ret ?_ | refine WPc.exit ?_ | refine WPc.skip ?_ | refine WPc.region ?_
   | (refine isCond ?_; first | refine WPc.cT ?_ | refine WPc.cF ?_ | (refine WPc.cQ (fun hc => ?_) (fun hc => ?_) <;> try exact prA))
   | (refine isC 10 ?_; refine WPl.cV (get_t vb b k 2 (by omega) (by omega) (by omega) (by omega)) ?_)
   | (refine isOp ?_; first | refine WPl.rd ?_ | refine WPl.sk ?_ | refine WPl.rdB ?_)
   | (refine WPl.spQ (fun hc => ?_) (fun hc => ?_) <;> try exact prA)
   | fail)
  all_goals try (first | exact WPq.dV | exact WPq.dR | exact WPq.dR2 | exact WPq.dH | exact WPq.dBH | exact WPq.dT)
/-- A segment's head. -/
structure Sg where
  src : Nat
  dst : Nat
  flags : UInt8
  sumAt : Int
  zero : Bool
  data : Int
abbrev sgc (s : Sg) : Ch := [(1, [.int .u16 (s.src : Int)]), (1, [.int .u16 (s.dst : Int)]), (1, [.int .u8 ((s.flags.toNat : Nat) : Int)]), (1, [.int .i64 s.sumAt]), (1, [.bool s.zero]), (1, [.int .i64 s.data])]
def Sg.none : Sg := ⟨0, 0, 0, 0, false, 0⟩
def tN (b : List UInt8) : Nat := 4 * (byteN b 12 / 16)
def tcpE (h : Hd) (b : List UInt8) : Int := if b.length < 20 then 9 else if tN b < 20 then 4 else if b.length < tN b then 9 else if sgood h b = false then 5 else 0
def udpE (h : Hd) (b : List UInt8) : Int :=
  if b.length < 8 then 9 else if val (seg b 4 2) < 8 then 4 else if b.length < val (seg b 4 2) then 9 else if val (seg b 4 2) < b.length then 10
  else if val (seg b 6 2) = 0 ∧ h.six = true then 4 else if ¬ val (seg b 6 2) = 0 ∧ sgood h b = false then 5 else 0
def tcpS (b : List UInt8) : Sg := ⟨0, 0, b.getD 13 0, 16, false, tN b⟩
def udpS (b : List UInt8) : Sg := ⟨0, 0, 0, 6, decide (val (seg b 6 2) = 0), 8⟩
attribute [local irreducible] sgood
theorem tcp_no (h : Hd) (vb : Value) (b : List UInt8) (hl : b.length ≤ 100000) (he : tcpE h b ≠ 0) : Triple Try.prog 81 #[ag (hdc h), vb] [rb vb b] (RVal (.tuple #[ag (sgc Sg.none), .int .i64 (tcpE h b)])) := by
  have l1 := h.src.len
  have l2 := h.dst.len
  have u0 : byteN b 12 = (b.getD 12 0).toNat := rfl
  have hu := byteN_lt b 12
  have hg := sgood_t h vb b hl
  have htn : tN b = 4 * (byteN b 12 / 16) := rfl
  cases hsg : sgood h b with
  | true =>
    rw [hsg] at hg
    have h0 : tcpE h b = (if b.length < 20 then 9 else if tN b < 20 then 4 else if b.length < tN b then 9 else 0) := by unfold tcpE; rw [hsg]; simp
    rw [h0] at he ⊢
    have hne : b.length < 20 ∨ tN b < 20 ∨ b.length < tN b := by
      apply Classical.byContradiction
      intro hn
      apply he
      repeat' (first | omega | split)
    refine Triple.enter Try.func81 rfl Try.ntmps81 rfl (fun W => ?_)
    dsimp only [argsF, Nat.reduceAdd]
    repeat' (first
     | refine WPl.nil ?_ | refine WPq.then ?_ | refine WPq.thenR ?_ | refine WPq.thenE ?_ | refine WPq.blockN ?_ | refine WPq.blockR ?_ | refine WPq.blockE ?_ | refine WPq.blockO rfl ?_ | refine WPc.seq ?_ | refine WPc.block ?_ | refine WPc.ret ?_ | refine WPc.exit ?_ | refine WPc.skip ?_ | refine WPc.region ?_
     | (refine isCond ?_; first | refine WPc.cT ?_ | refine WPc.cF ?_ | (refine WPc.cQ (fun hc => ?_) (fun hc => ?_) <;> try exact prA))
     | (refine isC 30 ?_; refine WPl.cV (hg) ?_)
     | (refine isOp ?_; first | refine WPl.rd ?_ | refine WPl.sk ?_ | refine WPl.rdB ?_)
     | (refine isAl ?_; refine WPl.nw fun g => ?_)
     | (refine isBx ?_; refine WPl.nw fun g => ?_)
     | (refine isSt ?_; first | refine WPl.st1 ?_ | refine WPl.stA ?_ | refine WPl.stEB ?_ | refine WPl.stRB ?_)
     | (refine WPl.spQ (fun hc => ?_) (fun hc => ?_) <;> try exact prA)
     | fail)
    all_goals
      refine WPq.dV (hc := ?_)
      show Value.tuple #[_, Value.int .i64 _] = Value.tuple #[_, Value.int .i64 _]
      congr 5
      repeat' (first | omega | split)
  | false =>
    rw [hsg] at hg
    have h0 : tcpE h b = (if b.length < 20 then 9 else if tN b < 20 then 4 else if b.length < tN b then 9 else 5) := by unfold tcpE; rw [hsg]; simp
    rw [h0]
    refine Triple.enter Try.func81 rfl Try.ntmps81 rfl (fun W => ?_)
    dsimp only [argsF, Nat.reduceAdd]
    repeat' (first
     | refine WPl.nil ?_ | refine WPq.then ?_ | refine WPq.thenR ?_ | refine WPq.thenE ?_ | refine WPq.blockN ?_ | refine WPq.blockR ?_ | refine WPq.blockE ?_ | refine WPq.blockO rfl ?_ | refine WPc.seq ?_ | refine WPc.block ?_ | refine WPc.ret ?_ | refine WPc.exit ?_ | refine WPc.skip ?_ | refine WPc.region ?_
     | (refine isCond ?_; first | refine WPc.cT ?_ | refine WPc.cF ?_ | (refine WPc.cQ (fun hc => ?_) (fun hc => ?_) <;> try exact prA))
     | (refine isC 30 ?_; refine WPl.cV (hg) ?_)
     | (refine isOp ?_; first | refine WPl.rd ?_ | refine WPl.sk ?_ | refine WPl.rdB ?_)
     | (refine isAl ?_; refine WPl.nw fun g => ?_)
     | (refine isBx ?_; refine WPl.nw fun g => ?_)
     | (refine isSt ?_; first | refine WPl.st1 ?_ | refine WPl.stA ?_ | refine WPl.stEB ?_ | refine WPl.stRB ?_)
     | (refine WPl.spQ (fun hc => ?_) (fun hc => ?_) <;> try exact prA)
     | fail)
    all_goals
      refine WPq.dV (hc := ?_)
      show Value.tuple #[_, Value.int .i64 _] = Value.tuple #[_, Value.int .i64 _]
      congr 5
      repeat' (first | omega | split)
theorem tcp_yes (h : Hd) (vb : Value) (b : List UInt8) (hl : b.length ≤ 100000) (he : tcpE h b = 0) : Triple Try.prog 81 #[ag (hdc h), vb] [rb vb b] (RVal (.tuple #[ag (sgc (tcpS b)), .int .i64 0])) := by
  have l1 := h.src.len
  have l2 := h.dst.len
  have hu := byteN_lt b 12
  have hg := sgood_t h vb b hl
  have htn : tN b = 4 * (byteN b 12 / 16) := rfl
  have hmul : (4 : Int) * ((((b.getD 12 0).toNat : Nat) : Int) / 2 ^ 4) = ((tN b : Nat) : Int) := by rw [htn]; unfold byteN; omega
  have hf : 20 ≤ b.length ∧ 20 ≤ tN b ∧ tN b ≤ b.length ∧ sgood h b = true := by
    unfold tcpE at he
    repeat' (split at he)
    all_goals first | omega | (cases he; done) | skip
    exact ⟨by omega, by omega, by omega, by simpa using ‹¬ sgood h b = false›⟩
  obtain ⟨f1, f2, f3, f4⟩ := hf
  rw [f4] at hg
  refine Triple.enter Try.func81 rfl Try.ntmps81 rfl (fun W => ?_)
  dsimp only [argsF, Nat.reduceAdd]
  repeat' (first
   | refine WPl.nil ?_ | refine WPq.then ?_ | refine WPq.thenR ?_ | refine WPq.thenE ?_ | refine WPq.blockN ?_ | refine WPq.blockR ?_ | refine WPq.blockE ?_ | refine WPq.blockO rfl ?_ | refine WPc.seq ?_ | refine WPc.block ?_ | refine WPc.ret ?_ | refine WPc.exit ?_ | refine WPc.skip ?_ | refine WPc.region ?_
   | (refine isCond ?_; first | refine WPc.cT ?_ | refine WPc.cF ?_ | (refine WPc.cQ (fun hc => ?_) (fun hc => ?_) <;> try exact prA))
   | (refine isC 30 ?_; refine WPl.cV (hg) ?_)
   | (refine isD 16 ?_; refine WPl.rdX (ReadR.bin rfl rfl (BinR.mulT hmul (by simp only [kmin]; omega) (by simp only [kmax]; omega))) ?_)
   | (refine isOp ?_; first | refine WPl.rd ?_ | refine WPl.sk ?_ | refine WPl.rdB ?_)
   | (refine isAl ?_; refine WPl.nw fun g => ?_)
   | (refine isBx ?_; refine WPl.nw fun g => ?_)
   | (refine isSt ?_; first | refine WPl.st1 ?_ | refine WPl.stA ?_ | refine WPl.stEB ?_ | refine WPl.stRB ?_)
   | (refine WPl.spQ (fun hc => ?_) (fun hc => ?_) <;> try exact prA)
   | fail)
  all_goals try (first | exact WPq.dV | exact WPq.dR | exact WPq.dR2 | exact WPq.dH | exact WPq.dBH | exact WPq.dT)
theorem udp_no (h : Hd) (vb : Value) (b : List UInt8) (hl : b.length ≤ 100000) (he : udpE h b ≠ 0) : Triple Try.prog 82 #[ag (hdc h), vb] [rb vb b] (RVal (.tuple #[ag (sgc Sg.none), .int .i64 (udpE h b)])) := by
  have l1 := h.src.len
  have l2 := h.dst.len
  have hv4 := val2_lt (l := b) (k := 4)
  have hv6 := val2_lt (l := b) (k := 6)
  have hg := sgood_t h vb b hl
  cases hsx : h.six with
  | true =>
    cases hsg : sgood h b with
    | true =>
      rw [hsg] at hg
      have h0 : udpE h b = (if b.length < 8 then 9 else if val (seg b 4 2) < 8 then 4 else if b.length < val (seg b 4 2) then 9 else if val (seg b 4 2) < b.length then 10 else if val (seg b 6 2) = 0 then 4 else 0) := by unfold udpE; rw [hsg, hsx]; simp
      rw [h0] at he ⊢
      have hne : b.length < 8 ∨ val (seg b 4 2) < 8 ∨ val (seg b 4 2) ≠ b.length ∨ val (seg b 6 2) = 0 := by
        apply Classical.byContradiction
        intro hn
        apply he
        repeat' (first | omega | split)
      refine Triple.enter Try.func82 rfl Try.ntmps82 rfl (fun W => ?_)
      dsimp only [argsF, Nat.reduceAdd]
      repeat' (first
       | refine WPl.nil ?_ | refine WPq.then ?_ | refine WPq.thenR ?_ | refine WPq.thenE ?_ | refine WPq.blockN ?_ | refine WPq.blockR ?_ | refine WPq.blockE ?_ | refine WPq.blockO rfl ?_ | refine WPc.seq ?_ | refine WPc.block ?_ | refine WPc.ret ?_ | refine WPc.exit ?_ | refine WPc.skip ?_ | refine WPc.region ?_
       | (refine isCond ?_; first | refine WPc.cT ?_ | refine WPc.cF ?_ | (refine WPc.cQ (fun hc => ?_) (fun hc => ?_) <;> try exact prA))
       | (refine isC 47 ?_; refine WPl.cV (hg) ?_)
       | (refine isC 13 ?_; refine WPl.cV (port_t vb b 4 (by omega) hl) ?_)
       | (refine isC 16 ?_; refine WPl.cV (port_t vb b 6 (by omega) hl) ?_)
       | (refine isOp ?_; first | refine WPl.rd ?_ | refine WPl.sk ?_ | refine WPl.rdB ?_)
       | (refine isAl ?_; refine WPl.nw fun g => ?_)
       | (refine isBx ?_; refine WPl.nw fun g => ?_)
       | (refine isSt ?_; first | refine WPl.st1 ?_ | refine WPl.stA ?_ | refine WPl.stEB ?_ | refine WPl.stRB ?_)
       | (refine WPl.spQ (fun hc => ?_) (fun hc => ?_) <;> try exact prA)
       | fail)
      all_goals
        refine WPq.dV (hc := ?_)
        show Value.tuple #[_, Value.int .i64 _] = Value.tuple #[_, Value.int .i64 _]
        congr 5
        repeat' (first | omega | split)
    | false =>
      rw [hsg] at hg
      have h0 : udpE h b = (if b.length < 8 then 9 else if val (seg b 4 2) < 8 then 4 else if b.length < val (seg b 4 2) then 9 else if val (seg b 4 2) < b.length then 10 else if val (seg b 6 2) = 0 then 4 else 5) := by unfold udpE; rw [hsg, hsx]; by_cases hz : val (seg b 6 2) = 0 <;> simp [hz]
      rw [h0]
      refine Triple.enter Try.func82 rfl Try.ntmps82 rfl (fun W => ?_)
      dsimp only [argsF, Nat.reduceAdd]
      repeat' (first
       | refine WPl.nil ?_ | refine WPq.then ?_ | refine WPq.thenR ?_ | refine WPq.thenE ?_ | refine WPq.blockN ?_ | refine WPq.blockR ?_ | refine WPq.blockE ?_ | refine WPq.blockO rfl ?_ | refine WPc.seq ?_ | refine WPc.block ?_ | refine WPc.ret ?_ | refine WPc.exit ?_ | refine WPc.skip ?_ | refine WPc.region ?_
       | (refine isCond ?_; first | refine WPc.cT ?_ | refine WPc.cF ?_ | (refine WPc.cQ (fun hc => ?_) (fun hc => ?_) <;> try exact prA))
       | (refine isC 47 ?_; refine WPl.cV (hg) ?_)
       | (refine isC 13 ?_; refine WPl.cV (port_t vb b 4 (by omega) hl) ?_)
       | (refine isC 16 ?_; refine WPl.cV (port_t vb b 6 (by omega) hl) ?_)
       | (refine isOp ?_; first | refine WPl.rd ?_ | refine WPl.sk ?_ | refine WPl.rdB ?_)
       | (refine isAl ?_; refine WPl.nw fun g => ?_)
       | (refine isBx ?_; refine WPl.nw fun g => ?_)
       | (refine isSt ?_; first | refine WPl.st1 ?_ | refine WPl.stA ?_ | refine WPl.stEB ?_ | refine WPl.stRB ?_)
       | (refine WPl.spQ (fun hc => ?_) (fun hc => ?_) <;> try exact prA)
       | fail)
      all_goals
        refine WPq.dV (hc := ?_)
        show Value.tuple #[_, Value.int .i64 _] = Value.tuple #[_, Value.int .i64 _]
        congr 5
        repeat' (first | omega | split)
  | false =>
    cases hsg : sgood h b with
    | true =>
      rw [hsg] at hg
      have h0 : udpE h b = (if b.length < 8 then 9 else if val (seg b 4 2) < 8 then 4 else if b.length < val (seg b 4 2) then 9 else if val (seg b 4 2) < b.length then 10 else 0) := by unfold udpE; rw [hsg, hsx]; simp
      rw [h0] at he ⊢
      have hne : b.length < 8 ∨ val (seg b 4 2) < 8 ∨ val (seg b 4 2) ≠ b.length := by
        apply Classical.byContradiction
        intro hn
        apply he
        repeat' (first | omega | split)
      refine Triple.enter Try.func82 rfl Try.ntmps82 rfl (fun W => ?_)
      dsimp only [argsF, Nat.reduceAdd]
      repeat' (first
       | refine WPl.nil ?_ | refine WPq.then ?_ | refine WPq.thenR ?_ | refine WPq.thenE ?_ | refine WPq.blockN ?_ | refine WPq.blockR ?_ | refine WPq.blockE ?_ | refine WPq.blockO rfl ?_ | refine WPc.seq ?_ | refine WPc.block ?_ | refine WPc.ret ?_ | refine WPc.exit ?_ | refine WPc.skip ?_ | refine WPc.region ?_
       | (refine isCond ?_; first | refine WPc.cT ?_ | refine WPc.cF ?_ | (refine WPc.cQ (fun hc => ?_) (fun hc => ?_) <;> try exact prA))
       | (refine isC 47 ?_; refine WPl.cV (hg) ?_)
       | (refine isC 13 ?_; refine WPl.cV (port_t vb b 4 (by omega) hl) ?_)
       | (refine isC 16 ?_; refine WPl.cV (port_t vb b 6 (by omega) hl) ?_)
       | (refine isOp ?_; first | refine WPl.rd ?_ | refine WPl.sk ?_ | refine WPl.rdB ?_)
       | (refine isAl ?_; refine WPl.nw fun g => ?_)
       | (refine isBx ?_; refine WPl.nw fun g => ?_)
       | (refine isSt ?_; first | refine WPl.st1 ?_ | refine WPl.stA ?_ | refine WPl.stEB ?_ | refine WPl.stRB ?_)
       | (refine WPl.spQ (fun hc => ?_) (fun hc => ?_) <;> try exact prA)
       | fail)
      all_goals
        refine WPq.dV (hc := ?_)
        show Value.tuple #[_, Value.int .i64 _] = Value.tuple #[_, Value.int .i64 _]
        congr 5
        repeat' (first | omega | split)
    | false =>
      rw [hsg] at hg
      have h0 : udpE h b = (if b.length < 8 then 9 else if val (seg b 4 2) < 8 then 4 else if b.length < val (seg b 4 2) then 9 else if val (seg b 4 2) < b.length then 10 else if ¬ val (seg b 6 2) = 0 then 5 else 0) := by unfold udpE; rw [hsg, hsx]; simp
      rw [h0] at he ⊢
      have hne : b.length < 8 ∨ val (seg b 4 2) < 8 ∨ val (seg b 4 2) ≠ b.length ∨ ¬ val (seg b 6 2) = 0 := by
        apply Classical.byContradiction
        intro hn
        apply he
        repeat' (first | omega | split)
      refine Triple.enter Try.func82 rfl Try.ntmps82 rfl (fun W => ?_)
      dsimp only [argsF, Nat.reduceAdd]
      repeat' (first
       | refine WPl.nil ?_ | refine WPq.then ?_ | refine WPq.thenR ?_ | refine WPq.thenE ?_ | refine WPq.blockN ?_ | refine WPq.blockR ?_ | refine WPq.blockE ?_ | refine WPq.blockO rfl ?_ | refine WPc.seq ?_ | refine WPc.block ?_ | refine WPc.ret ?_ | refine WPc.exit ?_ | refine WPc.skip ?_ | refine WPc.region ?_
       | (refine isCond ?_; first | refine WPc.cT ?_ | refine WPc.cF ?_ | (refine WPc.cQ (fun hc => ?_) (fun hc => ?_) <;> try exact prA))
       | (refine isC 47 ?_; refine WPl.cV (hg) ?_)
       | (refine isC 13 ?_; refine WPl.cV (port_t vb b 4 (by omega) hl) ?_)
       | (refine isC 16 ?_; refine WPl.cV (port_t vb b 6 (by omega) hl) ?_)
       | (refine isOp ?_; first | refine WPl.rd ?_ | refine WPl.sk ?_ | refine WPl.rdB ?_)
       | (refine isAl ?_; refine WPl.nw fun g => ?_)
       | (refine isBx ?_; refine WPl.nw fun g => ?_)
       | (refine isSt ?_; first | refine WPl.st1 ?_ | refine WPl.stA ?_ | refine WPl.stEB ?_ | refine WPl.stRB ?_)
       | (refine WPl.spQ (fun hc => ?_) (fun hc => ?_) <;> try exact prA)
       | fail)
      all_goals
        refine WPq.dV (hc := ?_)
        show Value.tuple #[_, Value.int .i64 _] = Value.tuple #[_, Value.int .i64 _]
        congr 5
        repeat' (first | omega | split)
theorem udpE_zero {h : Hd} {b : List UInt8} (he : udpE h b = 0) : 8 ≤ b.length ∧ val (seg b 4 2) = b.length ∧ (val (seg b 6 2) = 0 ∧ h.six = false ∨ ¬ val (seg b 6 2) = 0 ∧ sgood h b = true) := by
  unfold udpE at he
  repeat' (split at he)
  all_goals first | omega | (cases he; done) | skip
  rename_i h1 h2 h3 h4 h5 h6
  refine ⟨by omega, by omega, ?_⟩
  by_cases hz : val (seg b 6 2) = 0
  · exact .inl ⟨hz, by simpa [hz] using h5⟩
  · exact .inr ⟨hz, by simpa [hz] using h6⟩
theorem udp_yes (h : Hd) (vb : Value) (b : List UInt8) (hl : b.length ≤ 100000) (he : udpE h b = 0) : Triple Try.prog 82 #[ag (hdc h), vb] [rb vb b] (RVal (.tuple #[ag (sgc (udpS b)), .int .i64 0])) := by
  have l1 := h.src.len
  have l2 := h.dst.len
  have hv4 := val2_lt (l := b) (k := 4)
  have hv6 := val2_lt (l := b) (k := 6)
  have hg := sgood_t h vb b hl
  obtain ⟨f1, f2, f3⟩ := udpE_zero he
  rcases f3 with ⟨f3, f4⟩ | ⟨f3, f4⟩
  · rw [show udpS b = ⟨0, 0, 0, 6, true, 8⟩ by unfold udpS; rw [decide_eq_true f3]]
    refine Triple.enter Try.func82 rfl Try.ntmps82 rfl (fun W => ?_)
    dsimp only [argsF, Nat.reduceAdd]
    repeat' (first
     | refine WPl.nil ?_ | refine WPq.then ?_ | refine WPq.thenR ?_ | refine WPq.thenE ?_ | refine WPq.blockN ?_ | refine WPq.blockR ?_ | refine WPq.blockE ?_ | refine WPq.blockO rfl ?_ | refine WPc.seq ?_ | refine WPc.block ?_ | refine WPc.ret ?_ | refine WPc.exit ?_ | refine WPc.skip ?_ | refine WPc.region ?_
     | (refine isCond ?_; first | refine WPc.cT ?_ | refine WPc.cF ?_ | (refine WPc.cQ (fun hc => ?_) (fun hc => ?_) <;> try exact prA))
     | (refine isC 13 ?_; refine WPl.cV (port_t vb b 4 (by omega) hl) ?_)
     | (refine isC 16 ?_; refine WPl.cV (port_t vb b 6 (by omega) hl) ?_)
     | (refine isD 17 ?_; refine WPl.rdX (ReadR.binE rfl rfl BinR.eql (congrArg Value.bool (decide_eq_true (by rw [f3]; rfl)))) ?_)
     | (refine isOp ?_; first | refine WPl.rd ?_ | refine WPl.sk ?_ | refine WPl.rdB ?_)
     | (refine isAl ?_; refine WPl.nw fun g => ?_)
     | (refine isBx ?_; refine WPl.nw fun g => ?_)
     | (refine isSt ?_; first | refine WPl.st1 ?_ | refine WPl.stA ?_ | refine WPl.stEB ?_ | refine WPl.stRB ?_)
     | (refine WPl.spQ (fun hc => ?_) (fun hc => ?_) <;> try exact prA)
     | fail)
    all_goals try (first | exact WPq.dV | exact WPq.dR | exact WPq.dR2 | exact WPq.dH | exact WPq.dBH | exact WPq.dT)
  · rw [f4] at hg
    rw [show udpS b = ⟨0, 0, 0, 6, false, 8⟩ by unfold udpS; rw [decide_eq_false f3]]
    refine Triple.enter Try.func82 rfl Try.ntmps82 rfl (fun W => ?_)
    dsimp only [argsF, Nat.reduceAdd]
    repeat' (first
     | refine WPl.nil ?_ | refine WPq.then ?_ | refine WPq.thenR ?_ | refine WPq.thenE ?_ | refine WPq.blockN ?_ | refine WPq.blockR ?_ | refine WPq.blockE ?_ | refine WPq.blockO rfl ?_ | refine WPc.seq ?_ | refine WPc.block ?_ | refine WPc.ret ?_ | refine WPc.exit ?_ | refine WPc.skip ?_ | refine WPc.region ?_
     | (refine isCond ?_; first | refine WPc.cT ?_ | refine WPc.cF ?_ | (refine WPc.cQ (fun hc => ?_) (fun hc => ?_) <;> try exact prA))
     | (refine isC 47 ?_; refine WPl.cV (hg) ?_)
     | (refine isC 13 ?_; refine WPl.cV (port_t vb b 4 (by omega) hl) ?_)
     | (refine isC 16 ?_; refine WPl.cV (port_t vb b 6 (by omega) hl) ?_)
     | (refine isD 17 ?_; refine WPl.rdX (ReadR.binE rfl rfl BinR.eql (congrArg Value.bool (decide_eq_false (by omega)))) ?_)
     | (refine isOp ?_; first | refine WPl.rd ?_ | refine WPl.sk ?_ | refine WPl.rdB ?_)
     | (refine isAl ?_; refine WPl.nw fun g => ?_)
     | (refine isBx ?_; refine WPl.nw fun g => ?_)
     | (refine isSt ?_; first | refine WPl.st1 ?_ | refine WPl.stA ?_ | refine WPl.stEB ?_ | refine WPl.stRB ?_)
     | (refine WPl.spQ (fun hc => ?_) (fun hc => ?_) <;> try exact prA)
     | fail)
    all_goals try (first | exact WPq.dV | exact WPq.dR | exact WPq.dR2 | exact WPq.dH | exact WPq.dBH | exact WPq.dT)
end Go.Proofs.Yteofjhjhaaafjaa
