/- Layer 36 (icmp): what the statements use: packets built by the reference, refused. -/
import Derived.Test.YteofjhjhaaafjaaIj
import Derived.Test.YteofjhjhaaafjaaSx
import Derived.Test.YteofjhjhaaafjaaPb
namespace Go.Proofs.Yteofjhjhaaafjaa
open Go.RowKit
set_option linter.unusedSimpArgs false
set_option linter.unusedVariables false
set_option maxRecDepth 20000
set_option maxHeartbeats 400000
attribute [local irreducible] WPc WPl WPq ReadR OpT BinR HasS bx rdN rowN Take Takes Prov Triple ResF BuildP Done ag Int.decLt Int.decLe Int.instDecidableEq
attribute [local irreducible] be over psu fwL fwerr
theorem BinR.minT {P : Program} {n : Nat} {Γ : List Asn} {F : List (Nat × Value)} {d : Option Tmp} {ty : TypeId} {pos : String} {af : Array Edge} {gd : Option (Nat × Bool)} {x y : Operand} {ts : Array TypeId} {k : IntKind} {a b c : Int} (h : (if b < a then b else a) = c) (hx : evF F x = some (.int k a)) (hy : evF F y = some (.int k b)) :
    ReadR P n Γ F ⟨d, .call { callee := .builtin .min, args := #[x, y], argTypes := ts }, ty, pos, af, gd⟩ (.int k c) := h ▸ ReadR.min hx hy
def h64 : Hd := ⟨false, 1, 0, Adr.zero, Adr.zero, false, 64⟩
theorem zero_good : Adr.zero.good = true := by decide +kernel
theorem refuse_t (vb : Value) (L : List UInt8) (hL : L.length = 29) (h1 : phH L = ⟨false, 17, 20, Adr.zero, Adr.zero, false, 9⟩) (h2 : ihE L = 0) :
    Triple Try.prog 91 #[vb, ag (adc Adr.zero), .int .u8 3] [rb vb L] (RW (fwL h64 (im4 3 3 ([0, 0, 0, 0] ++ seg L 0 28))) (fwerr h64 (im4 3 3 ([0, 0, 0, 0] ++ seg L 0 28)).length)) := by
  have c1 := ihead_t vb L (by omega)
  rw [h1, h2] at c1
  have c1 : Triple Try.prog 120 #[vb] [rb vb L] (RVal (.tuple #[ag [(1, [.bool false]), (1, [.int .u8 17]), (1, [.int .i64 20]), (1, [.bool false]), (16, u8s Adr.zero.b), (1, [.bool false]), (16, u8s Adr.zero.b), (1, [.bool false]), (1, [.int .u8 9])], .int .i64 0])) := c1
  have c2 := Good_t Adr.zero
  rw [zero_good] at c2
  have hsl : (seg L 0 28).length = 28 := by rw [seg_length (by omega)]
  have c3 := fun vr v1 v2 => message4_t h64 rfl 3 3 vr v1 v2 [0, 0, 0, 0] (seg L 0 28) (by simp; omega)
  generalize fwL h64 (im4 3 3 ([0, 0, 0, 0] ++ seg L 0 28)) = X at c3 ⊢
  generalize fwerr h64 (im4 3 3 ([0, 0, 0, 0] ++ seg L 0 28)).length = c at c3 ⊢
  clear h1 h2
  have k1 := Adr.zero.len
  refine Triple.enter Try.func91 rfl Try.ntmps91 rfl (fun W => ?_)
  dsimp only [argsF, Nat.reduceAdd]
  refine WPc.know (p := vb.oneCell' = true) (HasS.one (n := L.length) (xs := u8s L) hasA) fun hone => ?_
  repeat' (first
   | refine WPl.nil ?_ | refine WPq.then ?_ | refine WPq.thenR ?_ | refine WPq.thenE ?_ | refine WPq.blockN ?_ | refine WPq.blockR ?_ | refine WPq.blockE ?_ | refine WPq.blockO rfl ?_ | refine WPc.seq ?_ | refine WPc.block ?_ | refine WPc.ret ?_ | refine WPc.exit ?_ | refine WPc.skip ?_ | refine WPc.region ?_
   | (refine isReg 13 ?_; refine WPc.drA [([], [54, 55, 56, 57, 58, 60, 61, 62, 63, 64, 65]), ([0], [52, 54, 55, 56, 57, 58, 60, 61, 62, 63, 64, 65]), ([], [52, 53, 56, 57, 58, 60, 61, 62, 63, 64, 65]), ([2], [52, 53, 54, 56, 57, 58, 60, 61, 62, 63, 64, 65]), ([], [52, 53, 54, 55, 57, 58, 60, 61, 62, 63, 64, 65]), ([], [52, 53, 54, 55, 56, 60, 61, 62, 63, 64, 65]), ([5], [52, 53, 54, 55, 56, 57, 60, 61, 62, 63, 64, 65]), ([0, 1, 2, 3, 4, 5, 6], [52, 53, 54, 55, 56, 57, 58, 60, 61, 62, 63, 64, 65]), ([], [52, 53, 54, 55, 56, 57, 58, 59, 62, 63, 64, 65]), ([8], [52, 53, 54, 55, 56, 57, 58, 59, 60, 62, 63, 64, 65]), ([], [52, 53, 54, 55, 56, 57, 58, 59, 60, 61, 63, 64, 65]), ([], [52, 53, 54, 55, 56, 57, 58, 59, 60, 61, 62, 64]), ([], [52, 53, 54, 55, 56, 57, 58, 59, 60, 61, 62, 63]), ([11, 12], [52, 53, 54, 55, 56, 57, 58, 59, 60, 61, 62, 63, 64]), ([0, 1, 2, 3, 4, 5, 6, 7, 8, 9, 10, 11, 12, 13], [52, 53, 54, 55, 56, 57, 58, 59, 60, 61, 62, 63, 64, 65]), ([0, 1, 2, 3, 4, 5, 6, 7, 8, 9, 10, 11, 12, 13, 14], [52, 53, 54, 55, 56, 57, 58, 59, 60, 61, 62, 63, 64, 65, 66, 68]), ([0, 1, 2, 3, 4, 5, 6, 7, 8, 9, 10, 11, 12, 13, 14], [52, 53, 54, 55, 56, 57, 58, 59, 60, 61, 62, 63, 64, 65, 66, 67]), ([0, 1, 2, 3, 4, 5, 6, 7, 8, 9, 10, 11, 12, 13, 14, 15, 16], [52, 53, 54, 55, 56, 57, 58, 59, 60, 61, 62, 63, 64, 65, 66, 67, 68]), ([0, 1, 2, 3, 4, 5, 6, 7, 8, 9, 10, 11, 12, 13, 14, 15, 16, 17], [6, 52, 53, 54, 55, 56, 57, 58, 59, 60, 61, 62, 63, 64, 65, 66, 67, 68])] [] (Γx := []) ?_; dsimp only [prev0, List.length_nil, List.length_cons])
   | (refine gAny ?_; first | (refine gC 15 ?_; refine RGl.vl (fun e hk => OpT.callN (c1)) ?_) | (refine gC 23 ?_; refine RGl.vl (fun e hk => OpT.callN (ow4_t)) ?_) | (refine gC 32 ?_; refine RGl.vl (fun e hk => OpT.callN (c2)) ?_) | (refine gC 66 ?_; refine RGl.row2 (fun e hk => OpT.callN (c3 _ _ (subv 1 vb 0 28))) ?_) | (refine gD 50 ?_; refine RGl.rdX (fun e hk => by (try dsimp only [bndR, ensR, oksR, fcutR, List.append_nil, List.nil_append, List.cons_append, List.append_assoc] at hk ⊢); exact BinR.minT (c := 28) (by split <;> omega) rfl rfl) ?_) | (refine gOp ?_; first | refine RGl.rdA ?_ | refine RGl.rdX (fun e hk => by (try dsimp only [bndR, ensR, oksR, fcutR, List.append_nil, List.nil_append, List.cons_append, List.append_assoc] at hk ⊢); exact readB) ?_) | (refine gLit ?_; refine RGl.litA ?_) | (refine gMk ?_; refine RGl.mkA ?_) | (refine RGl.fin (fun e hk => ?_); (try dsimp only [bndA, ensAR, oksA, List.append_nil, List.nil_append, List.cons_append, List.append_assoc] at hk ⊢); (repeat (obtain ⟨hk1, hk⟩ := hk))) | fail)
   | (refine isCond ?_; first | refine WPc.cT ?_ | refine WPc.cF ?_ | (refine WPc.cQ (fun hc => ?_) (fun hc => ?_) <;> try exact prA))
   | (refine isC 15 ?_; refine WPl.cV (c1) ?_)
   | (refine isC 23 ?_; refine WPl.cV (ow4_t) ?_)
   | (refine isC 32 ?_; refine WPl.cV (c2) ?_)
   | (refine isD 50 ?_; refine WPl.rdX (BinR.minT (c := 28) (by split <;> omega) rfl rfl) ?_)
   | (refine isC 66 ?_; refine WPl.cR2 (c3 _ _ (subv 1 vb 0 28)) fun v hv => ?_)
   | (refine isMk ?_; refine WPl.mk fun v hv => ?_)
   | (refine isOp ?_; first | refine WPl.rd ?_ | refine WPl.sk ?_ | refine WPl.rdB ?_)
   | (refine isAl ?_; refine WPl.nw fun g => ?_)
   | (refine isBx ?_; refine WPl.nw fun g => ?_)
   | (refine isSt ?_; first | refine WPl.st1 ?_ | refine WPl.stA ?_ | refine WPl.stEB ?_ | refine WPl.stRB ?_)
   | (refine WPl.spQ (fun hc => ?_) (fun hc => ?_) <;> try exact prA)
   | fail)
  all_goals try (first | exact WPq.dV | exact WPq.dR | exact WPq.dR2 | exact WPq.dH | exact WPq.dBH | exact WPq.dT)
end Go.Proofs.Yteofjhjhaaafjaa
