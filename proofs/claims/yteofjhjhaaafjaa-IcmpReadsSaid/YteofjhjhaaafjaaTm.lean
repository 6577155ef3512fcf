/- Layer 24 (tmpl): keys and values: contracts. -/
import Derived.Test.YteofjhjhaaafjaaRc
namespace Go.Proofs.Yteofjhjhaaafjaa
open Go.RowKit
set_option linter.unusedSimpArgs false
set_option linter.unusedVariables false
set_option maxRecDepth 20000
set_option maxHeartbeats 4000000
attribute [local irreducible] WPc WPl WPq ReadR OpT BinR HasS bx rdN rowN Take Takes Prov Triple ResF BuildP Done ag Int.decLt Int.decLe Int.instDecidableEq

def idB (n : Int) : Bool := decide (0 ≤ n) && decide (n ≤ 65535)
def keyOk (s : Int) (a : Adr) (n : Int) : Bool := a.maskOk n && decide (maskB a.bytes n.toNat = a.bytes) && idB s
def keyB (s : Nat) (a : Adr) (n : Nat) : List UInt8 := be s 2 ++ ([if a.six then 6 else 4, UInt8.ofNat n] ++ a.bytes)
def keyL (s : Int) (a : Adr) (n : Int) : List UInt8 := if keyOk s a n then keyB s.toNat a n.toNat else []
theorem keyL_yes {s : Int} {a : Adr} {n : Int} (h : keyOk s a n = true) : keyL s a n = keyB s.toNat a n.toNat := if_pos h
theorem keyL_no {s : Int} {a : Adr} {n : Int} (h : keyOk s a n = false) : keyL s a n = [] := if_neg (by rw [h]; decide)
theorem maskA_ne {a : Adr} {n : Int} (h : a.maskOk n = true) : ((maskA a n).six == a.six && (decide ((maskA a n).b = a.b) && (decide (maskN a n = n) && true))) = decide (maskB a.bytes n.toNat = a.bytes) := by
  have hg : a.good = true := by simp only [Adr.maskOk, Bool.and_eq_true] at h; exact h.1
  simp only [maskA, maskN, h, if_true]
  cases h6 : a.six with
  | true => simp [Adr.masked, Adr.bytes, h6]
  | false =>
    simp only [Adr.good, h6, Bool.false_or, decide_eq_true_eq] at hg
    have : a.b = List.replicate 12 0 ++ seg a.b 12 4 := by
      rw [← hg]
      have hl := a.len
      simp only [seg, List.drop_zero]
      rw [List.take_of_length_le (l := List.drop 12 a.b) (by simp [hl]), List.take_append_drop]
    simp only [Adr.masked, Adr.bytes, h6, Bool.false_eq_true, if_false, decide_true, Bool.true_and, Bool.and_true, BEq.rfl]
    rw [decide_eq_decide]
    constructor
    · intro e
      have e2 := e.trans this
      exact List.append_cancel_left e2
    · intro e; rw [e]; exact this.symm
theorem tid_t (n : Int) : Triple Try.prog 60 #[.int .i64 n] [] (RVal (.bool (idB n))) := by
  refine Triple.enter Try.func60 rfl Try.ntmps60 rfl (fun W => ?_)
  dsimp only [argsF, Nat.reduceAdd]
  repeat' (first
   | refine WPl.nil ?_ | refine WPq.then ?_ | refine WPq.thenR ?_ | refine WPq.thenE ?_ | refine WPq.blockN ?_ | refine WPq.blockR ?_ | refine WPq.blockE ?_ | refine WPq.blockO rfl ?_ | refine WPc.seq ?_ | refine WPc.block ?_ | refine WPc.ret ?_ | refine WPc.exit ?_ | refine WPc.skip ?_ | refine WPc.region ?_
   | (refine isCond ?_; first | refine WPc.cT ?_ | refine WPc.cF ?_ | (refine WPc.cQ (fun hc => ?_) (fun hc => ?_) <;> try exact prA))
   | (refine isOp ?_; first | refine WPl.rd ?_ | refine WPl.sk ?_ | refine WPl.rdB ?_)
   | (refine WPl.spQ (fun hc => ?_) (fun hc => ?_) <;> try exact prA)
   | fail)
  all_goals exact WPq.dV (hc := by simp [resV, idB]; try omega)
theorem rid_t (n : Int) : Triple Try.prog 70 #[.int .i64 n] [] (RVal (.bool (idB n))) := by
  refine Triple.enter Try.func70 rfl Try.ntmps70 rfl (fun W => ?_)
  dsimp only [argsF, Nat.reduceAdd]
  repeat' (first
   | refine WPl.nil ?_ | refine WPq.then ?_ | refine WPq.thenR ?_ | refine WPq.thenE ?_ | refine WPq.blockN ?_ | refine WPq.blockR ?_ | refine WPq.blockE ?_ | refine WPq.blockO rfl ?_ | refine WPc.seq ?_ | refine WPc.block ?_ | refine WPc.ret ?_ | refine WPc.exit ?_ | refine WPc.skip ?_ | refine WPc.region ?_
   | (refine isCond ?_; first | refine WPc.cT ?_ | refine WPc.cF ?_ | (refine WPc.cQ (fun hc => ?_) (fun hc => ?_) <;> try exact prA))
   | (refine isOp ?_; first | refine WPl.rd ?_ | refine WPl.sk ?_ | refine WPl.rdB ?_)
   | (refine WPl.spQ (fun hc => ?_) (fun hc => ?_) <;> try exact prA)
   | fail)
  all_goals exact WPq.dV (hc := by simp [resV, idB]; try omega)
theorem keyB_nbs (m : Nat) (a : Adr) (k : Nat) (b : Int) (hb : b = if a.six then 6 else 4) : [be m 2, nbs [b, (k : Int)], a.bytes].flatten = keyB m a k := by
  subst hb
  simp only [List.flatten_cons, List.flatten_nil, List.append_nil, keyB]
  congr 2
  cases a.six <;> simp [nbs]
theorem key_t (s : Int) (a : Adr) (n : Int) (h1 : -9223372036854775808 ≤ n) (h2 : n ≤ 9223372036854775807) :
    Triple Try.prog 21 #[.int .i64 s, ag (pfc a n)] [] (RRow2 5 1 (keyL s a n).length (u8s (keyL s a n)) (.bool (keyOk s a n))) := by
  have hlen := a.len
  have hbl := a.bytes_le
  have hm := Mask_t a n h1 h2
  cases hok : a.maskOk n with
  | false =>
    have hk : keyOk s a n = false := by simp [keyOk, hok]
    rw [keyL_no hk, hk]
    simp only [maskV, hok] at hm
    refine Triple.enter Try.func21 rfl Try.ntmps21 rfl (fun W => ?_)
    dsimp only [argsF, Nat.reduceAdd]
    refine WPc.nilRow 5 ?_
    repeat' (first
     | refine WPl.nil ?_ | refine WPq.then ?_ | refine WPq.thenR ?_ | refine WPq.thenE ?_ | refine WPq.blockN ?_ | refine WPq.blockR ?_ | refine WPq.blockE ?_ | refine WPq.blockO rfl ?_ | refine WPc.seq ?_ | refine WPc.block ?_ | refine WPc.ret ?_ | refine WPc.exit ?_ | refine WPc.skip ?_ | refine WPc.region ?_
     | (refine isReg 7 ?_; refine WPc.drA [([], [35, 36, 37, 38, 39, 40, 41]), ([0], [32, 35, 36, 37, 38, 39, 40, 41]), ([0, 1], [32, 33, 35, 36, 37, 38, 39, 40, 41]), ([], [32, 33, 34, 36, 37, 38, 40, 41, 42]), ([], [32, 33, 34, 35, 40, 41, 42]), ([4], [32, 33, 34, 35, 36, 40, 41, 42]), ([4, 5], [32, 33, 34, 35, 36, 37, 40, 41, 42]), ([3, 4, 5, 6], [32, 33, 34, 35, 36, 37, 38, 40, 41, 42]), ([], [32, 33, 34, 35, 36, 37, 38, 39]), ([8], [32, 33, 34, 35, 36, 37, 38, 39, 40]), ([0, 1, 2, 8, 9], [32, 33, 34, 35, 36, 37, 38, 39, 40, 41]), ([0, 1, 2, 3, 4, 5, 6, 7, 8, 9, 10], [32, 33, 34, 35, 36, 37, 38, 39, 40, 41, 42]), ([0, 1, 2, 3, 4, 5, 6, 7, 8, 9, 10, 11], [32, 33, 34, 35, 36, 37, 38, 39, 40, 41, 42, 43]), ([0, 1, 2, 3, 4, 5, 6, 7, 8, 9, 10, 11, 12], [32, 33, 34, 35, 36, 37, 38, 39, 40, 41, 42, 43, 44]), ([0, 1, 2, 3, 4, 5, 6, 7, 8, 9, 10, 11, 12, 13], [4, 32, 33, 34, 35, 36, 37, 38, 39, 40, 41, 42, 43, 44])] [] (Γx := []) ?_; dsimp only [prev0, List.length_nil, List.length_cons])
     | (refine gAny ?_; first | (refine gCl ?_; refine RGl.vl (fun e hk => OpT.callN (hm)) ?_) | (refine gOp ?_; first | refine RGl.rdA ?_ | refine RGl.rdX (fun e hk => by (try dsimp only [bndR, ensR, oksR, fcutR, List.append_nil, List.nil_append, List.cons_append, List.append_assoc] at hk ⊢); exact readB) ?_) | (refine gLit ?_; refine RGl.litA ?_) | (refine RGl.fin (fun e hk => ?_); (try dsimp only [bndA, ensAR, oksA, List.append_nil, List.nil_append, List.cons_append, List.append_assoc] at hk ⊢); (repeat (obtain ⟨hk1, hk⟩ := hk))) | fail)
     | (refine isCond ?_; first | refine WPc.cT ?_ | refine WPc.cF ?_ | (refine WPc.cQ (fun hc => ?_) (fun hc => ?_) <;> try exact prA))
     | (refine isCl ?_; refine WPl.cV (hm) ?_)
     | (refine isOp ?_; first | refine WPl.rd ?_ | refine WPl.sk ?_ | refine WPl.rdB ?_)
     | (refine isAl ?_; refine WPl.nw fun g => ?_)
     | (refine isBx ?_; refine WPl.nw fun g => ?_)
     | (refine isSt ?_; first | refine WPl.st1 ?_ | refine WPl.stA ?_ | refine WPl.stEB ?_ | refine WPl.stRB ?_)
     | (refine WPl.spQ (fun hc => ?_) (fun hc => ?_) <;> try exact prA)
     | fail)
    all_goals try (first | exact WPq.dV | exact WPq.dR | exact WPq.dR2 | exact WPq.dH | exact WPq.dBH | exact WPq.dT)
  | true =>
    have hne := maskA_ne hok
    simp only [maskV, hok] at hm
    cases hbm : decide (maskB a.bytes n.toNat = a.bytes) with
    | false =>
      rw [hbm] at hne
      have hk : keyOk s a n = false := by simp only [keyOk, hok, hbm]; rfl
      rw [keyL_no hk, hk]
      refine Triple.enter Try.func21 rfl Try.ntmps21 rfl (fun W => ?_)
      dsimp only [argsF, Nat.reduceAdd]
      refine WPc.nilRow 5 ?_
      repeat' (first
       | refine WPl.nil ?_ | refine WPq.then ?_ | refine WPq.thenR ?_ | refine WPq.thenE ?_ | refine WPq.blockN ?_ | refine WPq.blockR ?_ | refine WPq.blockE ?_ | refine WPq.blockO rfl ?_ | refine WPc.seq ?_ | refine WPc.block ?_ | refine WPc.ret ?_ | refine WPc.exit ?_ | refine WPc.skip ?_ | refine WPc.region ?_
       | (refine isReg 7 ?_; refine WPc.drA [([], [35, 36, 37, 38, 39, 40, 41]), ([0], [32, 35, 36, 37, 38, 39, 40, 41]), ([0, 1], [32, 33, 35, 36, 37, 38, 39, 40, 41]), ([], [32, 33, 34, 36, 37, 38, 40, 41, 42]), ([], [32, 33, 34, 35, 40, 41, 42]), ([4], [32, 33, 34, 35, 36, 40, 41, 42]), ([4, 5], [32, 33, 34, 35, 36, 37, 40, 41, 42]), ([3, 4, 5, 6], [32, 33, 34, 35, 36, 37, 38, 40, 41, 42]), ([], [32, 33, 34, 35, 36, 37, 38, 39]), ([8], [32, 33, 34, 35, 36, 37, 38, 39, 40]), ([0, 1, 2, 8, 9], [32, 33, 34, 35, 36, 37, 38, 39, 40, 41]), ([0, 1, 2, 3, 4, 5, 6, 7, 8, 9, 10], [32, 33, 34, 35, 36, 37, 38, 39, 40, 41, 42]), ([0, 1, 2, 3, 4, 5, 6, 7, 8, 9, 10, 11], [32, 33, 34, 35, 36, 37, 38, 39, 40, 41, 42, 43]), ([0, 1, 2, 3, 4, 5, 6, 7, 8, 9, 10, 11, 12], [32, 33, 34, 35, 36, 37, 38, 39, 40, 41, 42, 43, 44]), ([0, 1, 2, 3, 4, 5, 6, 7, 8, 9, 10, 11, 12, 13], [4, 32, 33, 34, 35, 36, 37, 38, 39, 40, 41, 42, 43, 44])] [] (Γx := []) ?_; dsimp only [prev0, List.length_nil, List.length_cons])
       | (refine gAny ?_; first | (refine gCl ?_; refine RGl.vl (fun e hk => OpT.callN (hm)) ?_) | (show RGl _ _ _ _ _ _ _ _ (⟨_, .binOp .neq _ _ _ _, _, _, _, _⟩ :: _) _ _; refine RGl.rdX (fun e hk => by (try dsimp only [bndR, ensR, oksR, fcutR, List.append_nil, List.nil_append, List.cons_append, List.append_assoc] at hk ⊢); exact ReadR.binE rfl rfl (BinR.neqA eqcA) (congrArg (fun b => Value.bool (!b)) hne)) ?_) | (refine gOp ?_; first | refine RGl.rdA ?_ | refine RGl.rdX (fun e hk => by (try dsimp only [bndR, ensR, oksR, fcutR, List.append_nil, List.nil_append, List.cons_append, List.append_assoc] at hk ⊢); exact readB) ?_) | (refine gLit ?_; refine RGl.litA ?_) | (refine RGl.fin (fun e hk => ?_); (try dsimp only [bndA, ensAR, oksA, List.append_nil, List.nil_append, List.cons_append, List.append_assoc] at hk ⊢); (repeat (obtain ⟨hk1, hk⟩ := hk))) | fail)
       | (refine isCond ?_; first | refine WPc.cT ?_ | refine WPc.cF ?_ | (refine WPc.cQ (fun hc => ?_) (fun hc => ?_) <;> try exact prA))
       | (refine isCl ?_; refine WPl.cV (hm) ?_)
       | (show WPl _ _ _ _ _ _ _ (⟨_, .binOp .neq _ _ _ _, _, _, _, _⟩ :: _) _; refine WPl.rdX (ReadR.binE rfl rfl (BinR.neqA eqcA) (congrArg (fun b => Value.bool (!b)) hne)) ?_)
       | (refine isOp ?_; first | refine WPl.rd ?_ | refine WPl.sk ?_ | refine WPl.rdB ?_)
       | (refine isAl ?_; refine WPl.nw fun g => ?_)
       | (refine isBx ?_; refine WPl.nw fun g => ?_)
       | (refine isSt ?_; first | refine WPl.st1 ?_ | refine WPl.stA ?_ | refine WPl.stEB ?_ | refine WPl.stRB ?_)
       | (refine WPl.spQ (fun hc => ?_) (fun hc => ?_) <;> try exact prA)
       | fail)
      all_goals try (first | exact WPq.dV | exact WPq.dR | exact WPq.dR2 | exact WPq.dH | exact WPq.dBH | exact WPq.dT)
    | true =>
      rw [hbm] at hne
      have hid := tid_t s
      cases hs : idB s with
      | false =>
        rw [hs] at hid
        have hk : keyOk s a n = false := by simp only [keyOk, hok, hbm, hs]; rfl
        rw [keyL_no hk, hk]
        refine Triple.enter Try.func21 rfl Try.ntmps21 rfl (fun W => ?_)
        dsimp only [argsF, Nat.reduceAdd]
        refine WPc.nilRow 5 ?_
        repeat' (first
         | refine WPl.nil ?_ | refine WPq.then ?_ | refine WPq.thenR ?_ | refine WPq.thenE ?_ | refine WPq.blockN ?_ | refine WPq.blockR ?_ | refine WPq.blockE ?_ | refine WPq.blockO rfl ?_ | refine WPc.seq ?_ | refine WPc.block ?_ | refine WPc.ret ?_ | refine WPc.exit ?_ | refine WPc.skip ?_ | refine WPc.region ?_
         | (refine isReg 7 ?_; refine WPc.drA [([], [35, 36, 37, 38, 39, 40, 41]), ([0], [32, 35, 36, 37, 38, 39, 40, 41]), ([0, 1], [32, 33, 35, 36, 37, 38, 39, 40, 41]), ([], [32, 33, 34, 36, 37, 38, 40, 41, 42]), ([], [32, 33, 34, 35, 40, 41, 42]), ([4], [32, 33, 34, 35, 36, 40, 41, 42]), ([4, 5], [32, 33, 34, 35, 36, 37, 40, 41, 42]), ([3, 4, 5, 6], [32, 33, 34, 35, 36, 37, 38, 40, 41, 42]), ([], [32, 33, 34, 35, 36, 37, 38, 39]), ([8], [32, 33, 34, 35, 36, 37, 38, 39, 40]), ([0, 1, 2, 8, 9], [32, 33, 34, 35, 36, 37, 38, 39, 40, 41]), ([0, 1, 2, 3, 4, 5, 6, 7, 8, 9, 10], [32, 33, 34, 35, 36, 37, 38, 39, 40, 41, 42]), ([0, 1, 2, 3, 4, 5, 6, 7, 8, 9, 10, 11], [32, 33, 34, 35, 36, 37, 38, 39, 40, 41, 42, 43]), ([0, 1, 2, 3, 4, 5, 6, 7, 8, 9, 10, 11, 12], [32, 33, 34, 35, 36, 37, 38, 39, 40, 41, 42, 43, 44]), ([0, 1, 2, 3, 4, 5, 6, 7, 8, 9, 10, 11, 12, 13], [4, 32, 33, 34, 35, 36, 37, 38, 39, 40, 41, 42, 43, 44])] [] (Γx := []) ?_; dsimp only [prev0, List.length_nil, List.length_cons])
         | (refine gAny ?_; first | (refine gCl ?_; refine RGl.vl (fun e hk => OpT.callN (hm)) ?_) | (refine gCl ?_; refine RGl.vl (fun e hk => OpT.callN (hid)) ?_) | (show RGl _ _ _ _ _ _ _ _ (⟨_, .binOp .neq _ _ _ _, _, _, _, _⟩ :: _) _ _; refine RGl.rdX (fun e hk => by (try dsimp only [bndR, ensR, oksR, fcutR, List.append_nil, List.nil_append, List.cons_append, List.append_assoc] at hk ⊢); exact ReadR.binE rfl rfl (BinR.neqA eqcA) (congrArg (fun b => Value.bool (!b)) hne)) ?_) | (refine gOp ?_; first | refine RGl.rdA ?_ | refine RGl.rdX (fun e hk => by (try dsimp only [bndR, ensR, oksR, fcutR, List.append_nil, List.nil_append, List.cons_append, List.append_assoc] at hk ⊢); exact readB) ?_) | (refine gLit ?_; refine RGl.litA ?_) | (refine RGl.fin (fun e hk => ?_); (try dsimp only [bndA, ensAR, oksA, List.append_nil, List.nil_append, List.cons_append, List.append_assoc] at hk ⊢); (repeat (obtain ⟨hk1, hk⟩ := hk))) | fail)
         | (refine isCond ?_; first | refine WPc.cT ?_ | refine WPc.cF ?_ | (refine WPc.cQ (fun hc => ?_) (fun hc => ?_) <;> try exact prA))
         | (refine isCl ?_; refine WPl.cV (hm) ?_)
         | (refine isCl ?_; refine WPl.cV (hid) ?_)
         | (show WPl _ _ _ _ _ _ _ (⟨_, .binOp .neq _ _ _ _, _, _, _, _⟩ :: _) _; refine WPl.rdX (ReadR.binE rfl rfl (BinR.neqA eqcA) (congrArg (fun b => Value.bool (!b)) hne)) ?_)
         | (refine isOp ?_; first | refine WPl.rd ?_ | refine WPl.sk ?_ | refine WPl.rdB ?_)
         | (refine isAl ?_; refine WPl.nw fun g => ?_)
         | (refine isBx ?_; refine WPl.nw fun g => ?_)
         | (refine isSt ?_; first | refine WPl.st1 ?_ | refine WPl.stA ?_ | refine WPl.stEB ?_ | refine WPl.stRB ?_)
         | (refine WPl.spQ (fun hc => ?_) (fun hc => ?_) <;> try exact prA)
         | fail)
        all_goals try (first | exact WPq.dV | exact WPq.dR | exact WPq.dR2 | exact WPq.dH | exact WPq.dBH | exact WPq.dT)
      | true =>
        rw [hs] at hid
        have hk : keyOk s a n = true := by simp only [keyOk, hok, hbm, hs]; rfl
        rw [keyL_yes hk, hk]
        simp only [idB, Bool.and_eq_true, decide_eq_true_eq] at hs
        obtain ⟨m, rfl⟩ := Int.eq_ofNat_of_zero_le hs.1
        simp only [Adr.maskOk, Bool.and_eq_true, decide_eq_true_eq] at hok
        obtain ⟨k, rfl⟩ := Int.eq_ofNat_of_zero_le hok.2.1
        have hk128 : k ≤ 128 := by have := hok.2.2; unfold Adr.bits at this; split at this <;> omega
        simp only [Int.toNat_natCast]
        have hbe := be_length m 2
        cases h6 : a.six with
        | true =>
          refine Triple.enter Try.func21 rfl Try.ntmps21 rfl (fun W => ?_)
          dsimp only [argsF, Nat.reduceAdd]
          repeat' (first
           | refine WPl.nil ?_ | refine WPq.then ?_ | refine WPq.thenR ?_ | refine WPq.thenE ?_ | refine WPq.blockN ?_ | refine WPq.blockR ?_ | refine WPq.blockE ?_ | refine WPq.blockO rfl ?_ | refine WPc.seq ?_ | refine WPc.block ?_ | refine WPc.ret ?_ | refine WPc.exit ?_ | refine WPc.skip ?_ | refine WPc.region ?_
           | (refine isReg 7 ?_; refine WPc.drA [([], [35, 36, 37, 38, 39, 40, 41]), ([0], [32, 35, 36, 37, 38, 39, 40, 41]), ([0, 1], [32, 33, 35, 36, 37, 38, 39, 40, 41]), ([], [32, 33, 34, 36, 37, 38, 40, 41, 42]), ([], [32, 33, 34, 35, 40, 41, 42]), ([4], [32, 33, 34, 35, 36, 40, 41, 42]), ([4, 5], [32, 33, 34, 35, 36, 37, 40, 41, 42]), ([3, 4, 5, 6], [32, 33, 34, 35, 36, 37, 38, 40, 41, 42]), ([], [32, 33, 34, 35, 36, 37, 38, 39]), ([8], [32, 33, 34, 35, 36, 37, 38, 39, 40]), ([0, 1, 2, 8, 9], [32, 33, 34, 35, 36, 37, 38, 39, 40, 41]), ([0, 1, 2, 3, 4, 5, 6, 7, 8, 9, 10], [32, 33, 34, 35, 36, 37, 38, 39, 40, 41, 42]), ([0, 1, 2, 3, 4, 5, 6, 7, 8, 9, 10, 11], [32, 33, 34, 35, 36, 37, 38, 39, 40, 41, 42, 43]), ([0, 1, 2, 3, 4, 5, 6, 7, 8, 9, 10, 11, 12], [32, 33, 34, 35, 36, 37, 38, 39, 40, 41, 42, 43, 44]), ([0, 1, 2, 3, 4, 5, 6, 7, 8, 9, 10, 11, 12, 13], [4, 32, 33, 34, 35, 36, 37, 38, 39, 40, 41, 42, 43, 44])] [] (Γx := []) ?_; dsimp only [prev0, List.length_nil, List.length_cons])
           | (refine gAny ?_; first | (refine gCl ?_; refine RGl.vl (fun e hk => OpT.callN (hm)) ?_) | (refine gCl ?_; refine RGl.vl (fun e hk => OpT.callN (hid)) ?_) | (refine gCl ?_; refine RGl.row (Γ1 := fun _ => []) (fun e hk => OpT.callN (put_t _ [] m 2 (by simp) (by omega) (by omega) (by omega))) ?_) | (refine gCl ?_; refine RGl.row (Γ1 := fun _ => []) (fun e hk => OpT.callN (addrBytes_t a)) ?_) | (refine gCl ?_; refine RGl.row (Γ1 := fun _ => []) (fun e hk => OpT.callN (bytesE_t _ [_, _, _] [be m 2, nbs [6, (k : Int)], a.bytes] _ (keyB_nbs m a k _ (by rw [h6]; rfl)) rfl (by simp [nbs]; omega) (by simp))) ?_) | (show RGl _ _ _ _ _ _ _ _ (⟨_, .binOp .neq _ _ _ _, _, _, _, _⟩ :: _) _ _; refine RGl.rdX (fun e hk => by (try dsimp only [bndR, ensR, oksR, fcutR, List.append_nil, List.nil_append, List.cons_append, List.append_assoc] at hk ⊢); exact ReadR.binE rfl rfl (BinR.neqA eqcA) (congrArg (fun b => Value.bool (!b)) hne)) ?_) | (refine gOp ?_; first | refine RGl.rdA ?_ | refine RGl.rdX (fun e hk => by (try dsimp only [bndR, ensR, oksR, fcutR, List.append_nil, List.nil_append, List.cons_append, List.append_assoc] at hk ⊢); exact readB) ?_) | (refine gLit ?_; refine RGl.litA ?_) | (refine RGl.fin (fun e hk => ?_); (try dsimp only [bndA, ensAR, oksA, List.append_nil, List.nil_append, List.cons_append, List.append_assoc] at hk ⊢); (repeat (obtain ⟨hk1, hk⟩ := hk))) | fail)
           | (refine isCond ?_; first | refine WPc.cT ?_ | refine WPc.cF ?_ | (refine WPc.cQ (fun hc => ?_) (fun hc => ?_) <;> try exact prA))
           | (refine isCl ?_; refine WPl.cV (hm) ?_)
           | (refine isCl ?_; refine WPl.cV (hid) ?_)
           | (refine isCl ?_; refine WPl.cR (put_t _ [] m 2 (by simp) (by omega) (by omega) (by omega)) fun v hv => ?_)
           | (refine isCl ?_; refine WPl.cR (addrBytes_t a) fun v hv => ?_)
           | (refine isCl ?_; refine WPl.cR (bytesE_t _ [_, _, _] [be m 2, nbs [6, (k : Int)], a.bytes] _ (keyB_nbs m a k _ (by rw [h6]; rfl)) rfl (by simp [nbs]; omega) (by simp)) fun v hv => ?_)
           | (show WPl _ _ _ _ _ _ _ (⟨_, .binOp .neq _ _ _ _, _, _, _, _⟩ :: _) _; refine WPl.rdX (ReadR.binE rfl rfl (BinR.neqA eqcA) (congrArg (fun b => Value.bool (!b)) hne)) ?_)
           | (refine isOp ?_; first | refine WPl.rd ?_ | refine WPl.sk ?_ | refine WPl.rdB ?_)
           | (refine isAl ?_; refine WPl.nw fun g => ?_)
           | (refine isBx ?_; refine WPl.nw fun g => ?_)
           | (refine isSt ?_; first | refine WPl.st1 ?_ | refine WPl.stA ?_ | refine WPl.stEB ?_ | refine WPl.stRB ?_)
           | (refine WPl.spQ (fun hc => ?_) (fun hc => ?_) <;> try exact prA)
           | fail)
          all_goals try (first | exact WPq.dV | exact WPq.dR | exact WPq.dR2 | exact WPq.dH | exact WPq.dBH | exact WPq.dT)
        | false =>
          refine Triple.enter Try.func21 rfl Try.ntmps21 rfl (fun W => ?_)
          dsimp only [argsF, Nat.reduceAdd]
          repeat' (first
           | refine WPl.nil ?_ | refine WPq.then ?_ | refine WPq.thenR ?_ | refine WPq.thenE ?_ | refine WPq.blockN ?_ | refine WPq.blockR ?_ | refine WPq.blockE ?_ | refine WPq.blockO rfl ?_ | refine WPc.seq ?_ | refine WPc.block ?_ | refine WPc.ret ?_ | refine WPc.exit ?_ | refine WPc.skip ?_ | refine WPc.region ?_
           | (refine isReg 7 ?_; refine WPc.drA [([], [35, 36, 37, 38, 39, 40, 41]), ([0], [32, 35, 36, 37, 38, 39, 40, 41]), ([0, 1], [32, 33, 35, 36, 37, 38, 39, 40, 41]), ([], [32, 33, 34, 36, 37, 38, 40, 41, 42]), ([], [32, 33, 34, 35, 40, 41, 42]), ([4], [32, 33, 34, 35, 36, 40, 41, 42]), ([4, 5], [32, 33, 34, 35, 36, 37, 40, 41, 42]), ([3, 4, 5, 6], [32, 33, 34, 35, 36, 37, 38, 40, 41, 42]), ([], [32, 33, 34, 35, 36, 37, 38, 39]), ([8], [32, 33, 34, 35, 36, 37, 38, 39, 40]), ([0, 1, 2, 8, 9], [32, 33, 34, 35, 36, 37, 38, 39, 40, 41]), ([0, 1, 2, 3, 4, 5, 6, 7, 8, 9, 10], [32, 33, 34, 35, 36, 37, 38, 39, 40, 41, 42]), ([0, 1, 2, 3, 4, 5, 6, 7, 8, 9, 10, 11], [32, 33, 34, 35, 36, 37, 38, 39, 40, 41, 42, 43]), ([0, 1, 2, 3, 4, 5, 6, 7, 8, 9, 10, 11, 12], [32, 33, 34, 35, 36, 37, 38, 39, 40, 41, 42, 43, 44]), ([0, 1, 2, 3, 4, 5, 6, 7, 8, 9, 10, 11, 12, 13], [4, 32, 33, 34, 35, 36, 37, 38, 39, 40, 41, 42, 43, 44])] [] (Γx := []) ?_; dsimp only [prev0, List.length_nil, List.length_cons])
           | (refine gAny ?_; first | (refine gCl ?_; refine RGl.vl (fun e hk => OpT.callN (hm)) ?_) | (refine gCl ?_; refine RGl.vl (fun e hk => OpT.callN (hid)) ?_) | (refine gCl ?_; refine RGl.row (Γ1 := fun _ => []) (fun e hk => OpT.callN (put_t _ [] m 2 (by simp) (by omega) (by omega) (by omega))) ?_) | (refine gCl ?_; refine RGl.row (Γ1 := fun _ => []) (fun e hk => OpT.callN (addrBytes_t a)) ?_) | (refine gCl ?_; refine RGl.row (Γ1 := fun _ => []) (fun e hk => OpT.callN (bytesE_t _ [_, _, _] [be m 2, nbs [4, (k : Int)], a.bytes] _ (keyB_nbs m a k _ (by rw [h6]; rfl)) rfl (by simp [nbs]; omega) (by simp))) ?_) | (show RGl _ _ _ _ _ _ _ _ (⟨_, .binOp .neq _ _ _ _, _, _, _, _⟩ :: _) _ _; refine RGl.rdX (fun e hk => by (try dsimp only [bndR, ensR, oksR, fcutR, List.append_nil, List.nil_append, List.cons_append, List.append_assoc] at hk ⊢); exact ReadR.binE rfl rfl (BinR.neqA eqcA) (congrArg (fun b => Value.bool (!b)) hne)) ?_) | (refine gOp ?_; first | refine RGl.rdA ?_ | refine RGl.rdX (fun e hk => by (try dsimp only [bndR, ensR, oksR, fcutR, List.append_nil, List.nil_append, List.cons_append, List.append_assoc] at hk ⊢); exact readB) ?_) | (refine gLit ?_; refine RGl.litA ?_) | (refine RGl.fin (fun e hk => ?_); (try dsimp only [bndA, ensAR, oksA, List.append_nil, List.nil_append, List.cons_append, List.append_assoc] at hk ⊢); (repeat (obtain ⟨hk1, hk⟩ := hk))) | fail)
           | (refine isCond ?_; first | refine WPc.cT ?_ | refine WPc.cF ?_ | (refine WPc.cQ (fun hc => ?_) (fun hc => ?_) <;> try exact prA))
           | (refine isCl ?_; refine WPl.cV (hm) ?_)
           | (refine isCl ?_; refine WPl.cV (hid) ?_)
           | (refine isCl ?_; refine WPl.cR (put_t _ [] m 2 (by simp) (by omega) (by omega) (by omega)) fun v hv => ?_)
           | (refine isCl ?_; refine WPl.cR (addrBytes_t a) fun v hv => ?_)
           | (refine isCl ?_; refine WPl.cR (bytesE_t _ [_, _, _] [be m 2, nbs [4, (k : Int)], a.bytes] _ (keyB_nbs m a k _ (by rw [h6]; rfl)) rfl (by simp [nbs]; omega) (by simp)) fun v hv => ?_)
           | (show WPl _ _ _ _ _ _ _ (⟨_, .binOp .neq _ _ _ _, _, _, _, _⟩ :: _) _; refine WPl.rdX (ReadR.binE rfl rfl (BinR.neqA eqcA) (congrArg (fun b => Value.bool (!b)) hne)) ?_)
           | (refine isOp ?_; first | refine WPl.rd ?_ | refine WPl.sk ?_ | refine WPl.rdB ?_)
           | (refine isAl ?_; refine WPl.nw fun g => ?_)
           | (refine isBx ?_; refine WPl.nw fun g => ?_)
           | (refine isSt ?_; first | refine WPl.st1 ?_ | refine WPl.stA ?_ | refine WPl.stEB ?_ | refine WPl.stRB ?_)
           | (refine WPl.spQ (fun hc => ?_) (fun hc => ?_) <;> try exact prA)
           | fail)
          all_goals try (first | exact WPq.dV | exact WPq.dR | exact WPq.dR2 | exact WPq.dH | exact WPq.dBH | exact WPq.dT)
end Go.Proofs.Yteofjhjhaaafjaa
