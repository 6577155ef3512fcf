/- Layer 14 (ipsix): what is written is read, cut; what the statements use. -/
import Derived.Test.YteofjhjhaaafjaaIv
namespace Go.Proofs.Yteofjhjhaaafjaa
open Go.RowKit
set_option linter.unusedSimpArgs false
set_option linter.unusedVariables false
set_option maxRecDepth 20000
set_option maxHeartbeats 4000000
attribute [local irreducible] WPc WPl WPq ReadR OpT BinR HasS bx rdN rowN Take Takes Prov Triple ResF BuildP Done ag Int.decLt Int.decLe Int.instDecidableEq

theorem xwerr_zero {h : Hd} {n : Nat} (he : xwerr h n = 0) : xwBad h = false ∧ n ≤ 2008 := by
  unfold xwerr at he
  cases hb : xwBad h with
  | true => rw [hb] at he; simp at he
  | false =>
    rw [hb] at he
    refine ⟨rfl, ?_⟩
    simp only [Bool.false_eq_true, if_false] at he
    split at he <;> omega
theorem xpkt_form {h : Hd} {d : List UInt8} (he : xwerr h d.length = 0) : xpkt h d = [96, 0, 0, 0, UInt8.ofNat (d.length / 256), UInt8.ofNat d.length, h.proto, h.hops] ++ (h.src.b ++ (h.dst.b ++ d)) := by
  obtain ⟨hb, hl⟩ := xwerr_zero he
  obtain ⟨b1, b2, b3, b4, b5, b6⟩ := xwBad_no hb
  unfold xpkt
  rw [be2]
  simp [nbs, Adr.bytes, b4, b5]
theorem xpkt_read {h : Hd} {d : List UInt8} (he : xwerr h d.length = 0) : (xpkt h d).length = 40 + d.length ∧ byteN (xpkt h d) 0 = 96 ∧ val (seg (xpkt h d) 4 2) = d.length ∧ d.length ≤ 2008 ∧ byteN (xpkt h d) 7 = h.hops.toNat ∧ h.hops.toNat ≠ 0 := by
  obtain ⟨hb, hl⟩ := xwerr_zero he
  obtain ⟨b1, b2, b3, b4, b5, b6⟩ := xwBad_no hb
  have hf := xpkt_form he
  have hs := h.src.len
  have hd := h.dst.len
  have hlen : (xpkt h d).length = 40 + d.length := by rw [hf]; simp [hs, hd]; omega
  refine ⟨hlen, by rw [hf]; rfl, ?_, hl, by rw [hf]; rfl, by omega⟩
  rw [val_seg2 (by omega)]
  have e1 : byteN (xpkt h d) 4 = (UInt8.ofNat (d.length / 256)).toNat := by rw [hf]; rfl
  have e2 : byteN (xpkt h d) (4 + 1) = (UInt8.ofNat d.length).toNat := by rw [hf]; rfl
  rw [e1, e2, u8_nat _ (by omega), u8_of]
  omega
theorem xerr_cut {h : Hd} {d : List UInt8} (he : xwerr h d.length = 0) {m : Nat} (hm : m < (xpkt h d).length) : xerr ((xpkt h d).take m) = 9 := by
  obtain ⟨h1, h2, h3, h4, h5, h6⟩ := xpkt_read he
  have hl : ((xpkt h d).take m).length = m := by rw [List.length_take]; omega
  have key : xerr0 ((xpkt h d).take m) = 9 := by
    by_cases hm2 : m < 40
    · unfold xerr0; rw [hl]; repeat' (first | omega | split)
    · have e0 : byteN ((xpkt h d).take m) 0 = byteN (xpkt h d) 0 := by unfold byteN; simp [List.getD_eq_getElem?_getD, List.getElem?_take]; rw [if_pos (by omega)]
      have e2 : seg ((xpkt h d).take m) 4 2 = seg (xpkt h d) 4 2 := by
        unfold seg; rw [List.drop_take, List.take_take, Nat.min_eq_left (by omega)]
      unfold xerr0
      rw [hl, e0, e2]
      repeat' (first | omega | split)
  unfold xerr
  rw [key, if_neg (by omega)]
theorem xerr_long {h : Hd} {d : List UInt8} (he : xwerr h d.length = 0) (hd : d.length ≤ 2000) (x : UInt8) : xerr (xpkt h d ++ [x]) = 10 := by
  obtain ⟨h1, h2, h3, h4, h5, h6⟩ := xpkt_read he
  have hl : (xpkt h d ++ [x]).length = 41 + d.length := by rw [List.length_append, h1]; simp; omega
  have e0 : byteN (xpkt h d ++ [x]) 0 = byteN (xpkt h d) 0 := by unfold byteN; rw [List.getD_eq_getElem?_getD, List.getElem?_append_left (by omega), ← List.getD_eq_getElem?_getD]
  have e2 : seg (xpkt h d ++ [x]) 4 2 = seg (xpkt h d) 4 2 := by
    unfold seg; rw [List.drop_append_of_le_length (by omega), List.take_append_of_le_length (by simp; omega)]
  have key : xerr0 (xpkt h d ++ [x]) = 10 := by
    unfold xerr0
    rw [hl, e0, e2]
    repeat' (first | omega | split)
  unfold xerr
  rw [key, if_neg (by omega)]
def zero6 : Adr := ⟨true, List.replicate 16 0, by simp⟩
theorem zero6_t : Triple Try.prog 73 #[] [] (RVal (ag (adc zero6))) := by
  refine Triple.enter Try.func73 rfl Try.ntmps73 rfl (fun W => ?_)
  dsimp only [argsF, Nat.reduceAdd]
  repeat' (first
   | refine WPl.nil ?_ | refine WPq.then ?_ | refine WPq.thenR ?_ | refine WPq.thenE ?_ | refine WPq.blockN ?_ | refine WPq.blockR ?_ | refine WPq.blockE ?_ | refine WPq.blockO rfl ?_ | refine WPc.seq ?_ | refine WPc.block ?_ | refine WPc.ret ?_ | refine WPc.exit ?_ | refine WPc.skip ?_ | refine WPc.region ?_
   | (refine isCond ?_; first | refine WPc.cT ?_ | refine WPc.cF ?_ | (refine WPc.cQ (fun hc => ?_) (fun hc => ?_) <;> try exact prA))
   | (refine isOp ?_; first | refine WPl.rd ?_ | refine WPl.sk ?_ | refine WPl.rdB ?_)
   | (refine isAl ?_; refine WPl.nw fun g => ?_)
   | (refine isSt ?_; first | refine WPl.st1 ?_ | refine WPl.stA ?_ | refine WPl.stEB ?_ | refine WPl.stRB ?_)
   | (refine WPl.spQ (fun hc => ?_) (fun hc => ?_) <;> try exact prA)
   | fail)
  all_goals try (first | exact WPq.dV | exact WPq.dR | exact WPq.dR2 | exact WPq.dH | exact WPq.dBH | exact WPq.dT)
def h14 : Hd := ⟨true, 17, 0, zero6, zero6, false, 9⟩
theorem h14_err : xwerr h14 ([1, 2] : List UInt8).length = 0 := by decide +kernel
theorem h14_len : (xwL h14 [1, 2]).length = 42 := by decide +kernel
theorem h14_read : sVal (xwL h14 [1, 2]) = .tuple #[ag (hdc ⟨true, 17, 40, zero6, zero6, false, 9⟩), .int .i64 0] := by kernel_rfl
attribute [local irreducible] xwL xread xerr xpkt xwerr
theorem lives14_t : Triple Try.prog 34 #[] [] (RVal (.bool true)) := by
  have hl := h14_len
  have hl' : decide (((xwL h14 [1, 2]).length : Int) = 42) = true := by rw [hl]; simp
  have h00 : decide ((0 : Int) = 0) = true := by simp
  have h1 := fun v => xwrite_t h14 v [1, 2] (by decide)
  rw [h14_err] at h1
  have h2 := fun v => xread_t v (xwL h14 [1, 2]) (by omega)
  rw [h14_read] at h2
  have hz : (true == true && (decide ((((17 : UInt8).toNat : Nat) : Int) = 17) && (decide ((40 : Int) = 40) && (zero6.six == zero6.six && (decide (zero6.b = zero6.b) && (zero6.six == zero6.six && (decide (zero6.b = zero6.b) && (false == false && (decide ((((9 : UInt8).toNat : Nat) : Int) = 9) && true))))))))) = true := by simp
  refine Triple.enter Try.func34 rfl Try.ntmps34 rfl (fun W => ?_)
  dsimp only [argsF, Nat.reduceAdd]
  repeat' (first
   | refine WPl.nil ?_ | refine WPq.then ?_ | refine WPq.thenR ?_ | refine WPq.thenE ?_ | refine WPq.blockN ?_ | refine WPq.blockR ?_ | refine WPq.blockE ?_ | refine WPq.blockO rfl ?_ | refine WPc.seq ?_ | refine WPc.block ?_ | refine WPc.ret ?_ | refine WPc.exit ?_ | refine WPc.skip ?_ | refine WPc.region ?_
   | (refine isReg 3 ?_; refine WPc.drA [([], []), ([0], [18]), ([0, 1], [18, 19]), ([0, 1, 2], [18, 19, 20]), ([0, 1, 2, 3], [18, 19, 20, 21]), ([0, 1, 2, 3, 4], [18, 19, 20, 21, 22]), ([0, 1, 2, 3, 4, 5], [18, 19, 20, 21, 22, 23]), ([0, 1, 2, 3, 4, 5, 6], [18, 19, 20, 21, 22, 23, 24]), ([0, 1, 2, 3, 4, 5, 6, 7], [18, 19, 20, 21, 22, 23, 24, 25]), ([0, 1, 2, 3, 4, 5, 6, 7, 8], [18, 19, 20, 21, 22, 23, 24, 25, 26]), ([0, 1, 2, 3, 4, 5, 6, 7, 8, 9], [18, 19, 20, 21, 22, 23, 24, 25, 26, 27]), ([0, 1, 2, 3, 4, 5, 6, 7, 8, 9, 10], [18, 19, 20, 21, 22, 23, 24, 25, 26, 27, 28]), ([0, 1, 2, 3, 4, 5, 6, 7, 8, 9, 10, 11], [18, 19, 20, 21, 22, 23, 24, 25, 26, 27, 28, 29, 31, 32, 33]), ([0, 1, 2, 3, 4, 5, 6, 7, 8, 9, 10, 11], [18, 19, 20, 21, 22, 23, 24, 25, 26, 27, 28, 29, 30]), ([0, 1, 2, 3, 4, 5, 6, 7, 8, 9, 10, 11, 13], [18, 19, 20, 21, 22, 23, 24, 25, 26, 27, 28, 29, 30, 31]), ([0, 1, 2, 3, 4, 5, 6, 7, 8, 9, 10, 11, 13, 14], [18, 19, 20, 21, 22, 23, 24, 25, 26, 27, 28, 29, 30, 31, 32]), ([0, 1, 2, 3, 4, 5, 6, 7, 8, 9, 10, 11, 12, 13, 14, 15], [18, 19, 20, 21, 22, 23, 24, 25, 26, 27, 28, 29, 30, 31, 32, 33]), ([0, 1, 2, 3, 4, 5, 6, 7, 8, 9, 10, 11, 12, 13, 14, 15, 16], [18, 19, 20, 21, 22, 23, 24, 25, 26, 27, 28, 29, 30, 31, 32, 33, 34]), ([0, 1, 2, 3, 4, 5, 6, 7, 8, 9, 10, 11, 12, 13, 14, 15, 16, 17], [18, 19, 20, 21, 22, 23, 24, 25, 26, 27, 28, 29, 30, 31, 32, 33, 34, 35])] [] (Γx := []) ?_; dsimp only [prev0, List.length_nil, List.length_cons])
   | (refine gAny ?_; first | (refine gGd ?_; refine RGl.skp ?_) | (refine gC 6 ?_; refine RGl.vl (fun e hk => OpT.callN (zero6_t)) ?_) | (refine gC 7 ?_; refine RGl.vl (fun e hk => OpT.callN (zero6_t)) ?_) | (refine gC 31 ?_; refine RGl.vl (fun e hk => OpT.callN (zero6_t)) ?_) | (refine gC 32 ?_; refine RGl.vl (fun e hk => OpT.callN (zero6_t)) ?_) | (refine gC 10 ?_; refine RGl.row2 (fun e hk => OpT.callN (h1 _)) ?_) | (refine gC 15 ?_; refine RGl.vl (fun e hk => OpT.callN (h2 _)) ?_) | (show RGl _ _ _ _ _ _ _ _ (⟨_, .binOp .eql _ _ _ _, _, _, _, _⟩ :: _) _ _; refine RGl.rdX (fun e hk => by (try dsimp only [bndR, ensR, oksR, fcutR, List.append_nil, List.nil_append, List.cons_append, List.append_assoc] at hk ⊢); exact ReadR.binE rfl rfl (BinR.eqlA eqcA) (congrArg Value.bool hz)) ?_) | (show RGl _ _ _ _ _ _ _ _ (⟨_, .binOp .eql _ _ _ _, _, _, _, _⟩ :: _) _ _; refine RGl.rdX (fun e hk => by (try dsimp only [bndR, ensR, oksR, fcutR, List.append_nil, List.nil_append, List.cons_append, List.append_assoc] at hk ⊢); exact ReadR.binE rfl rfl BinR.eql (congrArg Value.bool hl')) ?_) | (show RGl _ _ _ _ _ _ _ _ (⟨_, .binOp .eql _ _ _ _, _, _, _, _⟩ :: _) _ _; refine RGl.rdX (fun e hk => by (try dsimp only [bndR, ensR, oksR, fcutR, List.append_nil, List.nil_append, List.cons_append, List.append_assoc] at hk ⊢); exact ReadR.binE rfl rfl BinR.eql (congrArg Value.bool h00)) ?_) | (refine gOp ?_; first | refine RGl.rdA ?_ | refine RGl.rdX (fun e hk => by (try dsimp only [bndR, ensR, oksR, fcutR, List.append_nil, List.nil_append, List.cons_append, List.append_assoc] at hk ⊢); exact readB) ?_) | (refine RGl.fin (fun e hk => ?_); (try dsimp only [bndA, ensAR, oksA, List.append_nil, List.nil_append, List.cons_append, List.append_assoc] at hk ⊢); (repeat (obtain ⟨hk1, hk⟩ := hk))) | fail)
   | (refine isCond ?_; first | refine WPc.cT ?_ | refine WPc.cF ?_ | (refine WPc.cQ (fun hc => ?_) (fun hc => ?_) <;> try exact prA))
   | (refine isLit ?_; refine WPl.lit fun v hv => ?_)
   | (refine isC 6 ?_; refine WPl.cV (zero6_t) ?_)
   | (refine isC 7 ?_; refine WPl.cV (zero6_t) ?_)
   | (refine isC 31 ?_; refine WPl.cV (zero6_t) ?_)
   | (refine isC 32 ?_; refine WPl.cV (zero6_t) ?_)
   | (refine isC 10 ?_; refine WPl.cR2 (h1 _) fun v hv => ?_)
   | (refine isC 15 ?_; refine WPl.cV (h2 _) ?_)
   | (show WPl _ _ _ _ _ _ _ (⟨_, .binOp .eql _ _ _ _, _, _, _, _⟩ :: _) _; refine WPl.rdX (ReadR.binE rfl rfl (BinR.eqlA eqcA) (congrArg Value.bool hz)) ?_)
   | (refine isOp ?_; first | refine WPl.rd ?_ | refine WPl.sk ?_ | refine WPl.rdB ?_)
   | (refine isAl ?_; refine WPl.nw fun g => ?_)
   | (refine isSt ?_; first | refine WPl.st1 ?_ | refine WPl.stA ?_ | refine WPl.stEB ?_ | refine WPl.stRB ?_)
   | (refine WPl.spQ (fun hc => ?_) (fun hc => ?_) <;> try exact prA)
   | fail)
  all_goals try (first | exact WPq.dV | exact WPq.dR | exact WPq.dR2 | exact WPq.dH | exact WPq.dBH | exact WPq.dT)
end Go.Proofs.Yteofjhjhaaafjaa
