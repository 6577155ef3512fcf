/- The statement IcmpReads: it returns true. -/
import Derived.Test.YteofjhjhaaafjaaIh
import Derived.Test.YteofjhjhaaafjaaIk
import Derived.Test.YteofjhjhaaafjaaIm
import Derived.Test.YteofjhjhaaafjaaTm
namespace Go.Proofs.Yteofjhjhaaafjaa
open Go.RowKit
set_option linter.unusedSimpArgs false
set_option linter.unusedVariables false
set_option maxRecDepth 20000
set_option maxHeartbeats 400000
attribute [local irreducible] WPc WPl WPq ReadR OpT BinR HasS bx rdN rowN Take Takes Prov Triple ResF BuildP Done ag Int.decLt Int.decLe Int.instDecidableEq
def x16 : List UInt8 := fwL h64 (im4 3 3 ([0, 0, 0, 0] ++ seg (pbL f16 0 9 [7]) 0 28))
theorem x16_head : phH (pbL f16 0 9 [7]) = ⟨false, 17, 20, Adr.zero, Adr.zero, false, 9⟩ := by kernel_rfl
theorem x16_ok : ihE (pbL f16 0 9 [7]) = 0 := by decide +kernel
theorem x16_len : x16.length ≤ 100 := by decide +kernel
theorem x16_err : fwerr h64 (im4 3 3 ([0, 0, 0, 0] ++ seg (pbL f16 0 9 [7]) 0 28)).length = 0 := by decide +kernel
theorem x16_read : irE x16 = 0 ∧ imK x16 0 = 3 ∧ imK x16 1 = 3 ∧ (imR x16).length = 32 := by decide +kernel
theorem b16_eq : pbL f16 0 9 [7] = fpkt (pbH f16 9) (summ (pbH f16 9) (swU (pbS f16 0) [7]) 6) := by kernel_rfl
theorem b16_bad : fwBad (pbH f16 9) = false := by decide +kernel
theorem b16_bad2 : swBad (pbH f16 9) (pbS f16 0) = false := by decide +kernel
theorem b16_len : (summ (pbH f16 9) (swU (pbS f16 0) [7]) 6).length = 9 := by decide +kernel
attribute [local irreducible] summ swU fpkt
theorem rbuild16_t (vd : Value) : Triple Try.prog 89 #[ag (flc f16), .int .u8 0, .int .u8 9, vd] [rb vd [7]] (RW (pbL f16 0 9 [7]) 0) := by
  have c1 := rswrite_t (pbH f16 9) (pbS f16 0) vd [7] (by decide) (by decide) (by decide) rfl b16_bad2 rfl
  have c2 := fun v => rfwrite_t (pbH f16 9) v (summ (pbH f16 9) (swU (pbS f16 0) [7]) 6) (by rw [b16_len]; decide) b16_bad
  rw [b16_eq]
  have l1 := f16.src.len
  have l2 := f16.dst.len
  generalize fpkt (pbH f16 9) (summ (pbH f16 9) (swU (pbS f16 0) [7]) 6) = L at c2 ⊢
  generalize summ (pbH f16 9) (swU (pbS f16 0) [7]) 6 = B at c1 c2
  unfold pbH pbS at *
  refine Triple.enter Try.func89 rfl Try.ntmps89 rfl (fun W => ?_)
  dsimp only [argsF, Nat.reduceAdd]
  repeat' (first
   | refine WPl.nil ?_ | refine WPq.then ?_ | refine WPq.thenR ?_ | refine WPq.thenE ?_ | refine WPq.blockN ?_ | refine WPq.blockR ?_ | refine WPq.blockE ?_ | refine WPq.blockO rfl ?_ | refine WPc.seq ?_ | refine WPc.block ?_ | refine WPc.ret ?_ | refine WPc.exit ?_ | refine WPc.skip ?_ | refine WPc.region ?_
   | (refine isCond ?_; first | refine WPc.cT ?_ | refine WPc.cF ?_ | (refine WPc.cQ (fun hc => ?_) (fun hc => ?_) <;> try exact prA))
   | (refine isC 33 ?_; refine WPl.cR2 (c1) fun v hv => ?_)
   | (refine isC 49 ?_; refine WPl.cR2 (c2 _) fun v hv => ?_)
   | (refine isOp ?_; first | refine WPl.rd ?_ | refine WPl.sk ?_ | refine WPl.rdB ?_)
   | (refine isAl ?_; refine WPl.nw fun g => ?_)
   | (refine isBx ?_; refine WPl.nw fun g => ?_)
   | (refine isSt ?_; first | refine WPl.st1 ?_ | refine WPl.stA ?_ | refine WPl.stEB ?_ | refine WPl.stRB ?_)
   | (refine WPl.spQ (fun hc => ?_) (fun hc => ?_) <;> try exact prA)
   | fail)
  all_goals try (first | exact WPq.dV | exact WPq.dR | exact WPq.dR2 | exact WPq.dH | exact WPq.dBH | exact WPq.dT)
attribute [local irreducible] pbL x16 irE imK imR fwL fwerr im4 RRow4 RRow3 phH ihE
theorem lives36_t : Triple Try.prog 48 #[] [] (RVal (.bool true)) := by
  have hs := some_t
  have c1 := rbuild16_t
  have c2 := fun v => refuse_t v (pbL f16 0 9 [7]) h16_len x16_head x16_ok
  rw [x16_err, show fwL h64 (im4 3 3 ([0, 0, 0, 0] ++ seg (pbL f16 0 9 [7]) 0 28)) = x16 by unfold x16; rfl] at c2
  have hl := x16_len
  have c3 := fun v => Read36_t v x16 (by omega)
  obtain ⟨e1, e2, e3, e4⟩ := x16_read
  rw [e1, e2, e3] at c3
  have k1 := f16.src.len
  have k2 := f16.dst.len
  generalize x16 = X at *
  generalize imR X = R at *
  refine Triple.enter Try.func48 rfl Try.ntmps48 rfl (fun W => ?_)
  dsimp only [argsF, Nat.reduceAdd]
  repeat' (first
   | refine WPl.nil ?_ | refine WPq.then ?_ | refine WPq.thenR ?_ | refine WPq.thenE ?_ | refine WPq.blockN ?_ | refine WPq.blockR ?_ | refine WPq.blockE ?_ | refine WPq.blockO rfl ?_ | refine WPc.seq ?_ | refine WPc.block ?_ | refine WPc.ret ?_ | refine WPc.exit ?_ | refine WPc.skip ?_ | refine WPc.region ?_
   | (refine isCond ?_; first | refine WPc.cT ?_ | refine WPc.cF ?_ | (refine WPc.cQ (fun hc => ?_) (fun hc => ?_) <;> try exact prA))
   | (refine isLit ?_; refine WPl.lit fun v hv => ?_)
   | (refine isC 10 ?_; refine WPl.cV (hs) ?_)
   | (refine isC 12 ?_; refine WPl.cR2 (c1 _) fun v hv => ?_)
   | (refine isC 18 ?_; refine WPl.cR2 (c2 _) fun v hv => ?_)
   | (refine isC 23 ?_; refine WPl.cR4 (c3 _) fun v hv => ?_)
   | (refine isD 29 ?_; refine WPl.rdX (ReadR.binE rfl rfl BinR.eql (congrArg Value.bool (decide_eq_true rfl))) ?_)
   | (refine isD 32 ?_; refine WPl.rdX (ReadR.binE rfl rfl BinR.eql (congrArg Value.bool (decide_eq_true rfl))) ?_)
   | (refine isD 36 ?_; refine WPl.rdX (ReadR.binE rfl rfl BinR.eql (congrArg Value.bool (decide_eq_true rfl))) ?_)
   | (refine isD 40 ?_; refine WPl.rdX (ReadR.binE rfl rfl BinR.eql (congrArg Value.bool (decide_eq_true rfl))) ?_)
   | (refine isD 45 ?_; refine WPl.rdX (ReadR.binE rfl rfl BinR.eql (congrArg Value.bool (decide_eq_true (by rw [e4]; rfl)))) ?_)
   | (refine isOp ?_; first | refine WPl.rd ?_ | refine WPl.sk ?_ | refine WPl.rdB ?_)
   | (refine WPl.spQ (fun hc => ?_) (fun hc => ?_) <;> try exact prA)
   | fail)
  all_goals try (first | exact WPq.dV | exact WPq.dR | exact WPq.dR2 | exact WPq.dH | exact WPq.dBH | exact WPq.dT)
theorem read36law_t (vb : Value) (b : List UInt8) (hl : b.length ≤ 2060) : Triple Try.prog 47 #[vb] [rb vb b] (RVal (.bool true)) := by
  have c1 : ∀ v, Triple Try.prog 87 #[v] [rb v (nbs [] ++ b)] (RRow4 (.int .u8 (imK b 0 : Nat)) (.int .u8 (imK b 1 : Nat)) (imR b) (.int .i64 (irE b))) := fun v => Read36_t v b (by omega)
  by_cases he : irE b = 0
  · obtain ⟨i1, i2⟩ := irE_len he
    obtain ⟨p1, p2⟩ := ihE_pos i1
    have c2 := rread36_ok vb b (by omega) he
    obtain ⟨k, hk⟩ : ∃ k : Nat, (phH b).pos = (k : Int) := ⟨(phH b).pos.toNat, by omega⟩
    have hM : imM b = seg b k (b.length - k) := by unfold imM; rw [hk]; rfl
    have hkn : (phH b).pos.toNat = k := by rw [hk]; rfl
    have hkb : k ≤ b.length := by omega
    have hml : (seg b k (b.length - k)).length = b.length - k := by rw [seg_len]; omega
    rw [hM, hml] at i2
    have hR : imR b = seg (seg b k (b.length - k)) 4 ((seg b k (b.length - k)).length - 4) := by
      unfold imR; rw [if_pos he, hM]
      show List.drop 4 (seg b k (b.length - k)) = List.take _ (List.drop 4 (seg b k (b.length - k)))
      rw [List.take_of_length_le (by simp)]
    have hK : ∀ i, imK b i = ((seg b k (b.length - k)).getD i 0).toNat := fun i => by unfold imK; rw [if_pos he, hM]; rfl
    rw [hK, hK, hR, he] at c1
    rw [hkn] at c2
    obtain ⟨X, hX⟩ : ∃ X, X = phH b := ⟨_, rfl⟩
    rw [← hX] at c2
    clear hX hK hR hM he i1 hk hkn p1 p2
    have k1 := X.src.len
    have k2 := X.dst.len
    refine Triple.enter Try.func47 rfl Try.ntmps47 rfl (fun W => ?_)
    dsimp only [argsF, Nat.reduceAdd]
    repeat' (first
     | refine WPl.nil ?_ | refine WPq.then ?_ | refine WPq.thenR ?_ | refine WPq.thenE ?_ | refine WPq.blockN ?_ | refine WPq.blockR ?_ | refine WPq.blockE ?_ | refine WPq.blockO rfl ?_ | refine WPc.seq ?_ | refine WPc.block ?_ | refine WPc.ret ?_ | refine WPc.exit ?_ | refine WPc.skip ?_ | refine WPc.region ?_
     | (refine isReg 5 ?_; refine WPc.drA [([], [44, 45, 46]), ([], [43]), ([1], [43, 44]), ([1, 2], [43, 44, 45]), ([0, 1, 2, 3], [43, 44, 45, 46]), ([0, 1, 2, 3, 4], [43, 44, 45, 46, 47]), ([0, 1, 2, 3, 4, 5], [43, 44, 45, 46, 47, 48, 50, 51, 52]), ([0, 1, 2, 3, 4, 5], [43, 44, 45, 46, 47, 48, 49]), ([0, 1, 2, 3, 4, 5, 7], [43, 44, 45, 46, 47, 48, 49, 50]), ([0, 1, 2, 3, 4, 5, 7, 8], [43, 44, 45, 46, 47, 48, 49, 50, 51]), ([0, 1, 2, 3, 4, 5, 6, 7, 8, 9], [43, 44, 45, 46, 47, 48, 49, 50, 51, 52]), ([0, 1, 2, 3, 4, 5, 6, 7, 8, 9, 10], [43, 44, 45, 46, 47, 48, 49, 50, 51, 52, 53]), ([0, 1, 2, 3, 4, 5, 6, 7, 8, 9, 10, 11], [43, 44, 45, 46, 47, 48, 49, 50, 51, 52, 53, 54]), ([0, 1, 2, 3, 4, 5, 6, 7, 8, 9, 10, 11, 12], [43, 44, 45, 46, 47, 48, 49, 50, 51, 52, 53, 54, 55, 58, 59, 60]), ([0, 1, 2, 3, 4, 5, 6, 7, 8, 9, 10, 11, 12, 13], [43, 44, 45, 46, 47, 48, 49, 50, 51, 52, 53, 54, 55, 56, 58, 59, 60]), ([0, 1, 2, 3, 4, 5, 6, 7, 8, 9, 10, 11, 12], [43, 44, 45, 46, 47, 48, 49, 50, 51, 52, 53, 54, 55, 56, 57]), ([0, 1, 2, 3, 4, 5, 6, 7, 8, 9, 10, 11, 12, 15], [43, 44, 45, 46, 47, 48, 49, 50, 51, 52, 53, 54, 55, 56, 57, 58]), ([0, 1, 2, 3, 4, 5, 6, 7, 8, 9, 10, 11, 12, 15, 16], [43, 44, 45, 46, 47, 48, 49, 50, 51, 52, 53, 54, 55, 56, 57, 58, 59]), ([0, 1, 2, 3, 4, 5, 6, 7, 8, 9, 10, 11, 12, 13, 14, 15, 16, 17], [43, 44, 45, 46, 47, 48, 49, 50, 51, 52, 53, 54, 55, 56, 57, 58, 59, 60]), ([0, 1, 2, 3, 4, 5, 6, 7, 8, 9, 10, 11, 12, 13, 14, 15, 16, 17, 18], [43, 44, 45, 46, 47, 48, 49, 50, 51, 52, 53, 54, 55, 56, 57, 58, 59, 60, 61]), ([0, 1, 2, 3, 4, 5, 6, 7, 8, 9, 10, 11, 12, 13, 14, 15, 16, 17, 18, 19], [43, 44, 45, 46, 47, 48, 49, 50, 51, 52, 53, 54, 55, 56, 57, 58, 59, 60, 61, 62]), ([0, 1, 2, 3, 4, 5, 6, 7, 8, 9, 10, 11, 12, 13, 14, 15, 16, 17, 18, 19, 20], [43, 44, 45, 46, 47, 48, 49, 50, 51, 52, 53, 54, 55, 56, 57, 58, 59, 60, 61, 62, 63]), ([0, 1, 2, 3, 4, 5, 6, 7, 8, 9, 10, 11, 12, 13, 14, 15, 16, 17, 18, 19, 20, 21], [43, 44, 45, 46, 47, 48, 49, 50, 51, 52, 53, 54, 55, 56, 57, 58, 59, 60, 61, 62, 63, 64]), ([0, 1, 2, 3, 4, 5, 6, 7, 8, 9, 10, 11, 12, 13, 14, 15, 16, 17, 18, 19, 20, 21, 22], [43, 44, 45, 46, 47, 48, 49, 50, 51, 52, 53, 54, 55, 56, 57, 58, 59, 60, 61, 62, 63, 64, 65]), ([0, 1, 2, 3, 4, 5, 6, 7, 8, 9, 10, 11, 12, 13, 14, 15, 16, 17, 18, 19, 20, 21, 22, 23], [43, 44, 45, 46, 47, 48, 49, 50, 51, 52, 53, 54, 55, 56, 57, 58, 59, 60, 61, 62, 63, 64, 65, 66])] [] (Γx := []) ?_; dsimp only [prev0, List.length_nil, List.length_cons])
     | (refine gAny ?_; first | (refine gGd ?_; refine RGl.skp ?_) | (refine gC 21 ?_; refine RGl.vl (fun e hk => OpT.callN (c2)) ?_) | (refine gD 47 ?_; refine RGl.rdX (fun e hk => by (try dsimp only [bndR, ensR, oksR, fcutR, List.append_nil, List.nil_append, List.cons_append, List.append_assoc] at hk ⊢); exact ReadR.binE rfl rfl BinR.eql (congrArg Value.bool (decide_eq_true rfl))) ?_) | (refine gD 53 ?_; refine RGl.rdX (fun e hk => by (try dsimp only [bndR, ensR, oksR, fcutR, List.append_nil, List.nil_append, List.cons_append, List.append_assoc] at hk ⊢); exact ReadR.binE rfl rfl BinR.eql (congrArg Value.bool (decide_eq_true rfl))) ?_) | (refine gD 60 ?_; refine RGl.rdX (fun e hk => by (try dsimp only [bndR, ensR, oksR, fcutR, List.append_nil, List.nil_append, List.cons_append, List.append_assoc] at hk ⊢); exact ReadR.str (l := seg (seg b k (b.length - k)) 4 ((seg b k (b.length - k)).length - 4)) (by kernel_rfl) (by kernel_rfl) rfl (HasS.subB (HasS.subB has0A (by omega)) (by omega))) ?_) | (refine gD 61 ?_; refine RGl.rdX (fun e hk => by (try dsimp only [bndR, ensR, oksR, fcutR, List.append_nil, List.nil_append, List.cons_append, List.append_assoc] at hk ⊢); exact ReadR.binE rfl rfl BinR.strUE (congrArg Value.bool (decide_eq_true rfl))) ?_) | (refine gD 65 ?_; refine RGl.rdX (fun e hk => by (try dsimp only [bndR, ensR, oksR, fcutR, List.append_nil, List.nil_append, List.cons_append, List.append_assoc] at hk ⊢); exact ReadR.binE rfl rfl BinR.eql (congrArg Value.bool (decide_eq_true rfl))) ?_) | (refine gOp ?_; first | refine RGl.rdA ?_ | refine RGl.rdX (fun e hk => by (try dsimp only [bndR, ensR, oksR, fcutR, List.append_nil, List.nil_append, List.cons_append, List.append_assoc] at hk ⊢); exact readB) ?_) | (refine RGl.fin (fun e hk => ?_); (try dsimp only [bndA, ensAR, oksA, List.append_nil, List.nil_append, List.cons_append, List.append_assoc] at hk ⊢); (repeat (obtain ⟨hk1, hk⟩ := hk))) | fail)
     | (refine isCond ?_; first | refine WPc.cT ?_ | refine WPc.cF ?_ | (refine WPc.cQ (fun hc => ?_) (fun hc => ?_) <;> try exact prA))
     | (refine isLit ?_; refine WPl.lit fun v hv => ?_)
     | (refine isApp ?_; refine WPl.app fun v hv => ?_)
     | (refine isC 14 ?_; refine WPl.cR4 (c1 _) fun v hv => ?_)
     | (refine isC 21 ?_; refine WPl.cV (c2) ?_)
     | (refine isD 47 ?_; refine WPl.rdX (ReadR.binE rfl rfl BinR.eql (congrArg Value.bool (decide_eq_true rfl))) ?_)
     | (refine isD 53 ?_; refine WPl.rdX (ReadR.binE rfl rfl BinR.eql (congrArg Value.bool (decide_eq_true rfl))) ?_)
     | (refine isD 60 ?_; refine WPl.rdX (ReadR.str (l := seg (seg b k (b.length - k)) 4 ((seg b k (b.length - k)).length - 4)) (by kernel_rfl) (by kernel_rfl) rfl (HasS.subB (HasS.subB has0A (by omega)) (by omega))) ?_)
     | (refine isD 61 ?_; refine WPl.rdX (ReadR.binE rfl rfl BinR.strUE (congrArg Value.bool (decide_eq_true rfl))) ?_)
     | (refine isD 65 ?_; refine WPl.rdX (ReadR.binE rfl rfl BinR.eql (congrArg Value.bool (decide_eq_true rfl))) ?_)
     | (refine isOp ?_; first | refine WPl.rd ?_ | refine WPl.sk ?_ | refine WPl.rdB ?_)
     | (refine isAl ?_; refine WPl.nw fun g => ?_)
     | (refine isSt ?_; first | refine WPl.st1 ?_ | refine WPl.stA ?_ | refine WPl.stEB ?_ | refine WPl.stRB ?_)
     | (refine WPl.spQ (fun hc => ?_) (fun hc => ?_) <;> try exact prA)
     | fail)
    all_goals try (first | exact WPq.dV | exact WPq.dR | exact WPq.dR2 | exact WPq.dH | exact WPq.dBH | exact WPq.dT)
  · have c2 := rread36_no vb b (by omega) he
    rw [show imK b 0 = 0 by unfold imK; rw [if_neg he], show imK b 1 = 0 by unfold imK; rw [if_neg he], show imR b = [] by unfold imR; rw [if_neg he]] at c1
    obtain ⟨X, hX⟩ : ∃ X, X = rhH b := ⟨_, rfl⟩
    obtain ⟨c, hc⟩ : ∃ c, c = irE b := ⟨_, rfl⟩
    rw [← hX, ← hc] at c2
    rw [← hc] at c1 he
    clear hX hc
    have k1 := X.src.len
    have k2 := X.dst.len
    refine Triple.enter Try.func47 rfl Try.ntmps47 rfl (fun W => ?_)
    dsimp only [argsF, Nat.reduceAdd]
    repeat' (first
     | refine WPl.nil ?_ | refine WPq.then ?_ | refine WPq.thenR ?_ | refine WPq.thenE ?_ | refine WPq.blockN ?_ | refine WPq.blockR ?_ | refine WPq.blockE ?_ | refine WPq.blockO rfl ?_ | refine WPc.seq ?_ | refine WPc.block ?_ | refine WPc.ret ?_ | refine WPc.exit ?_ | refine WPc.skip ?_ | refine WPc.region ?_
     | (refine isReg 5 ?_; refine WPc.drA [([], [44, 45, 46]), ([], [43]), ([1], [43, 44]), ([1, 2], [43, 44, 45]), ([0, 1, 2, 3], [43, 44, 45, 46]), ([0, 1, 2, 3, 4], [43, 44, 45, 46, 47]), ([0, 1, 2, 3, 4, 5], [43, 44, 45, 46, 47, 48, 50, 51, 52]), ([0, 1, 2, 3, 4, 5], [43, 44, 45, 46, 47, 48, 49]), ([0, 1, 2, 3, 4, 5, 7], [43, 44, 45, 46, 47, 48, 49, 50]), ([0, 1, 2, 3, 4, 5, 7, 8], [43, 44, 45, 46, 47, 48, 49, 50, 51]), ([0, 1, 2, 3, 4, 5, 6, 7, 8, 9], [43, 44, 45, 46, 47, 48, 49, 50, 51, 52]), ([0, 1, 2, 3, 4, 5, 6, 7, 8, 9, 10], [43, 44, 45, 46, 47, 48, 49, 50, 51, 52, 53]), ([0, 1, 2, 3, 4, 5, 6, 7, 8, 9, 10, 11], [43, 44, 45, 46, 47, 48, 49, 50, 51, 52, 53, 54]), ([0, 1, 2, 3, 4, 5, 6, 7, 8, 9, 10, 11, 12], [43, 44, 45, 46, 47, 48, 49, 50, 51, 52, 53, 54, 55, 58, 59, 60]), ([0, 1, 2, 3, 4, 5, 6, 7, 8, 9, 10, 11, 12, 13], [43, 44, 45, 46, 47, 48, 49, 50, 51, 52, 53, 54, 55, 56, 58, 59, 60]), ([0, 1, 2, 3, 4, 5, 6, 7, 8, 9, 10, 11, 12], [43, 44, 45, 46, 47, 48, 49, 50, 51, 52, 53, 54, 55, 56, 57]), ([0, 1, 2, 3, 4, 5, 6, 7, 8, 9, 10, 11, 12, 15], [43, 44, 45, 46, 47, 48, 49, 50, 51, 52, 53, 54, 55, 56, 57, 58]), ([0, 1, 2, 3, 4, 5, 6, 7, 8, 9, 10, 11, 12, 15, 16], [43, 44, 45, 46, 47, 48, 49, 50, 51, 52, 53, 54, 55, 56, 57, 58, 59]), ([0, 1, 2, 3, 4, 5, 6, 7, 8, 9, 10, 11, 12, 13, 14, 15, 16, 17], [43, 44, 45, 46, 47, 48, 49, 50, 51, 52, 53, 54, 55, 56, 57, 58, 59, 60]), ([0, 1, 2, 3, 4, 5, 6, 7, 8, 9, 10, 11, 12, 13, 14, 15, 16, 17, 18], [43, 44, 45, 46, 47, 48, 49, 50, 51, 52, 53, 54, 55, 56, 57, 58, 59, 60, 61]), ([0, 1, 2, 3, 4, 5, 6, 7, 8, 9, 10, 11, 12, 13, 14, 15, 16, 17, 18, 19], [43, 44, 45, 46, 47, 48, 49, 50, 51, 52, 53, 54, 55, 56, 57, 58, 59, 60, 61, 62]), ([0, 1, 2, 3, 4, 5, 6, 7, 8, 9, 10, 11, 12, 13, 14, 15, 16, 17, 18, 19, 20], [43, 44, 45, 46, 47, 48, 49, 50, 51, 52, 53, 54, 55, 56, 57, 58, 59, 60, 61, 62, 63]), ([0, 1, 2, 3, 4, 5, 6, 7, 8, 9, 10, 11, 12, 13, 14, 15, 16, 17, 18, 19, 20, 21], [43, 44, 45, 46, 47, 48, 49, 50, 51, 52, 53, 54, 55, 56, 57, 58, 59, 60, 61, 62, 63, 64]), ([0, 1, 2, 3, 4, 5, 6, 7, 8, 9, 10, 11, 12, 13, 14, 15, 16, 17, 18, 19, 20, 21, 22], [43, 44, 45, 46, 47, 48, 49, 50, 51, 52, 53, 54, 55, 56, 57, 58, 59, 60, 61, 62, 63, 64, 65]), ([0, 1, 2, 3, 4, 5, 6, 7, 8, 9, 10, 11, 12, 13, 14, 15, 16, 17, 18, 19, 20, 21, 22, 23], [43, 44, 45, 46, 47, 48, 49, 50, 51, 52, 53, 54, 55, 56, 57, 58, 59, 60, 61, 62, 63, 64, 65, 66])] [] (Γx := []) ?_; dsimp only [prev0, List.length_nil, List.length_cons])
     | (refine gAny ?_; first | (refine gGd ?_; refine RGl.skp ?_) | (refine gD 28 ?_; refine RGl.rdX (fun e hk => by (try dsimp only [bndR, ensR, oksR, fcutR, List.append_nil, List.nil_append, List.cons_append, List.append_assoc] at hk ⊢); exact ReadR.binE rfl rfl BinR.eql (congrArg Value.bool (decide_eq_true rfl))) ?_) | (refine gD 31 ?_; refine RGl.rdX (fun e hk => by (try dsimp only [bndR, ensR, oksR, fcutR, List.append_nil, List.nil_append, List.cons_append, List.append_assoc] at hk ⊢); exact ReadR.binE rfl rfl BinR.eql (congrArg Value.bool (decide_eq_true rfl))) ?_) | (refine gD 36 ?_; refine RGl.rdX (fun e hk => by (try dsimp only [bndR, ensR, oksR, fcutR, List.append_nil, List.nil_append, List.cons_append, List.append_assoc] at hk ⊢); exact ReadR.binE rfl rfl BinR.eql (congrArg Value.bool (decide_eq_true rfl))) ?_) | (refine gD 41 ?_; refine RGl.rdX (fun e hk => by (try dsimp only [bndR, ensR, oksR, fcutR, List.append_nil, List.nil_append, List.cons_append, List.append_assoc] at hk ⊢); exact ReadR.binE rfl rfl BinR.eql (congrArg Value.bool (decide_eq_true rfl))) ?_) | (refine gOp ?_; first | refine RGl.rdA ?_ | refine RGl.rdX (fun e hk => by (try dsimp only [bndR, ensR, oksR, fcutR, List.append_nil, List.nil_append, List.cons_append, List.append_assoc] at hk ⊢); exact readB) ?_) | (refine RGl.fin (fun e hk => ?_); (try dsimp only [bndA, ensAR, oksA, List.append_nil, List.nil_append, List.cons_append, List.append_assoc] at hk ⊢); (repeat (obtain ⟨hk1, hk⟩ := hk))) | fail)
     | (refine isCond ?_; first | refine WPc.cT ?_ | refine WPc.cF ?_ | (refine WPc.cQ (fun hc => ?_) (fun hc => ?_) <;> try exact prA))
     | (refine isLit ?_; refine WPl.lit fun v hv => ?_)
     | (refine isApp ?_; refine WPl.app fun v hv => ?_)
     | (refine isC 14 ?_; refine WPl.cR4 (c1 _) fun v hv => ?_)
     | (refine isC 21 ?_; refine WPl.cR3 c2 fun v hv => ?_)
     | (refine isD 28 ?_; refine WPl.rdX (ReadR.binE rfl rfl BinR.eql (congrArg Value.bool (decide_eq_true rfl))) ?_)
     | (refine isD 31 ?_; refine WPl.rdX (ReadR.binE rfl rfl BinR.eql (congrArg Value.bool (decide_eq_true rfl))) ?_)
     | (refine isD 36 ?_; refine WPl.rdX (ReadR.binE rfl rfl BinR.eql (congrArg Value.bool (decide_eq_true rfl))) ?_)
     | (refine isD 41 ?_; refine WPl.rdX (ReadR.binE rfl rfl BinR.eql (congrArg Value.bool (decide_eq_true rfl))) ?_)
     | (refine isOp ?_; first | refine WPl.rd ?_ | refine WPl.sk ?_ | refine WPl.rdB ?_)
     | (refine isAl ?_; refine WPl.nw fun g => ?_)
     | (refine isSt ?_; first | refine WPl.st1 ?_ | refine WPl.stA ?_ | refine WPl.stEB ?_ | refine WPl.stRB ?_)
     | (refine WPl.spQ (fun hc => ?_) (fun hc => ?_) <;> try exact prA)
     | fail)
    all_goals try (first | exact WPq.dV | exact WPq.dR | exact WPq.dR2 | exact WPq.dH | exact WPq.dBH | exact WPq.dT)
theorem icmpReads_t (vb : Value) (l : List UInt8) : Triple Try.prog 16 #[vb] [rb vb l] (RVal (.bool true)) := by
  have hl : (l.take 2060).length ≤ 2060 := List.length_take_le _ _
  have c1 := fun v => read36law_t v (l.take 2060) hl
  have c2 := lives36_t
  refine Triple.enter Try.func16 rfl Try.ntmps16 rfl (fun W => ?_)
  dsimp only [argsF, Nat.reduceAdd]
  repeat' (first
   | refine WPl.nil ?_ | refine WPq.then ?_ | refine WPq.thenR ?_ | refine WPq.thenE ?_ | refine WPq.blockN ?_ | refine WPq.blockR ?_ | refine WPq.blockE ?_ | refine WPq.blockO rfl ?_ | refine WPc.seq ?_ | refine WPc.block ?_ | refine WPc.ret ?_ | refine WPc.exit ?_ | refine WPc.skip ?_ | refine WPc.region ?_
   | (refine isCond ?_; first | refine WPc.cT ?_ | refine WPc.cF ?_ | (refine WPc.cQ (fun hc => ?_) (fun hc => ?_) <;> try exact prA))
   | (refine isC 4 ?_; refine WPl.cR (few_t vb l 2060 (by omega)) fun v hv => ?_)
   | (refine isC 5 ?_; refine WPl.cV (c1 _) ?_)
   | (refine isC 7 ?_; refine WPl.cV (c2) ?_)
   | (refine isOp ?_; first | refine WPl.rd ?_ | refine WPl.sk ?_ | refine WPl.rdB ?_)
   | (refine WPl.spQ (fun hc => ?_) (fun hc => ?_) <;> try exact prA)
   | fail)
  all_goals try (first | exact WPq.dV | exact WPq.dR | exact WPq.dR2 | exact WPq.dH | exact WPq.dBH | exact WPq.dT)
end Go.Proofs.Yteofjhjhaaafjaa
