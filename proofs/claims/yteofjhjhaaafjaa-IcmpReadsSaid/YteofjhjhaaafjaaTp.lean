/- Reference of layer 24 (tmpl): contracts. -/
import Derived.Test.YteofjhjhaaafjaaTo
namespace Go.Proofs.Yteofjhjhaaafjaa
open Go.RowKit
set_option linter.unusedSimpArgs false
set_option linter.unusedVariables false
set_option maxRecDepth 20000
set_option maxHeartbeats 4000000
attribute [local irreducible] WPc WPl WPq ReadR OpT BinR HasS bx rdN rowN Take Takes Prov Triple ResF BuildP Done ag Int.decLt Int.decLe Int.instDecidableEq

theorem rtgood_t (s : Int) (a : Adr) (n b : Int) (u : Nat) (h1 : -9223372036854775808 ≤ n) (h2 : n ≤ 9223372036854775807) : Triple Try.prog 32 #[ag (tmc s a n b u)] [] (RVal (.bool (keyOk s a n && idB b))) := by
  have hlen := a.len
  have hm := rmask_t a n h1 h2
  have hs := rid_t s
  have hb := rid_t b
  cases hsb : idB s with
  | false =>
    rw [hsb] at hs
    rw [show (keyOk s a n && idB b) = false by simp [keyOk, hsb]]
    refine Triple.enter Try.func32 rfl Try.ntmps32 rfl (fun W => ?_)
    dsimp only [argsF, Nat.reduceAdd]
    repeat' (first
     | refine WPl.nil ?_ | refine WPq.then ?_ | refine WPq.thenR ?_ | refine WPq.thenE ?_ | refine WPq.blockN ?_ | refine WPq.blockR ?_ | refine WPq.blockE ?_ | refine WPq.blockO rfl ?_ | refine WPc.seq ?_ | refine WPc.block ?_ | refine WPc.ret ?_ | refine WPc.exit ?_ | refine WPc.skip ?_ | refine WPc.region ?_
     | (refine isCond ?_; first | refine WPc.cT ?_ | refine WPc.cF ?_ | (refine WPc.cQ (fun hc => ?_) (fun hc => ?_) <;> try exact prA))
     | (refine isCl ?_; refine WPl.cV (hm) ?_)
     | (refine isCl ?_; refine WPl.cV (hs) ?_)
     | (refine isCl ?_; refine WPl.cV (hb) ?_)
     | (refine isOp ?_; first | refine WPl.rd ?_ | refine WPl.sk ?_ | refine WPl.rdB ?_)
     | (refine isAl ?_; refine WPl.nw fun g => ?_)
     | (refine isBx ?_; refine WPl.nw fun g => ?_)
     | (refine isSt ?_; first | refine WPl.st1 ?_ | refine WPl.stA ?_ | refine WPl.stEB ?_ | refine WPl.stRB ?_)
     | (refine WPl.spQ (fun hc => ?_) (fun hc => ?_) <;> try exact prA)
     | fail)
    all_goals try (first | exact WPq.dV | exact WPq.dR | exact WPq.dR2 | exact WPq.dH | exact WPq.dBH | exact WPq.dT)
  | true =>
    rw [hsb] at hs
    cases hbb : idB b with
    | false =>
      rw [hbb] at hb
      rw [Bool.and_false]
      refine Triple.enter Try.func32 rfl Try.ntmps32 rfl (fun W => ?_)
      dsimp only [argsF, Nat.reduceAdd]
      repeat' (first
       | refine WPl.nil ?_ | refine WPq.then ?_ | refine WPq.thenR ?_ | refine WPq.thenE ?_ | refine WPq.blockN ?_ | refine WPq.blockR ?_ | refine WPq.blockE ?_ | refine WPq.blockO rfl ?_ | refine WPc.seq ?_ | refine WPc.block ?_ | refine WPc.ret ?_ | refine WPc.exit ?_ | refine WPc.skip ?_ | refine WPc.region ?_
       | (refine isCond ?_; first | refine WPc.cT ?_ | refine WPc.cF ?_ | (refine WPc.cQ (fun hc => ?_) (fun hc => ?_) <;> try exact prA))
       | (refine isCl ?_; refine WPl.cV (hm) ?_)
       | (refine isCl ?_; refine WPl.cV (hs) ?_)
       | (refine isCl ?_; refine WPl.cV (hb) ?_)
       | (refine isOp ?_; first | refine WPl.rd ?_ | refine WPl.sk ?_ | refine WPl.rdB ?_)
       | (refine isAl ?_; refine WPl.nw fun g => ?_)
       | (refine isBx ?_; refine WPl.nw fun g => ?_)
       | (refine isSt ?_; first | refine WPl.st1 ?_ | refine WPl.stA ?_ | refine WPl.stEB ?_ | refine WPl.stRB ?_)
       | (refine WPl.spQ (fun hc => ?_) (fun hc => ?_) <;> try exact prA)
       | fail)
      all_goals try (first | exact WPq.dV | exact WPq.dR | exact WPq.dR2 | exact WPq.dH | exact WPq.dBH | exact WPq.dT)
    | true =>
      rw [hbb] at hb
      rw [Bool.and_true]
      cases hok : a.maskOk n with
      | false =>
        rw [show keyOk s a n = false by simp [keyOk, hok]]
        simp only [maskV, hok] at hm
        refine Triple.enter Try.func32 rfl Try.ntmps32 rfl (fun W => ?_)
        dsimp only [argsF, Nat.reduceAdd]
        repeat' (first
         | refine WPl.nil ?_ | refine WPq.then ?_ | refine WPq.thenR ?_ | refine WPq.thenE ?_ | refine WPq.blockN ?_ | refine WPq.blockR ?_ | refine WPq.blockE ?_ | refine WPq.blockO rfl ?_ | refine WPc.seq ?_ | refine WPc.block ?_ | refine WPc.ret ?_ | refine WPc.exit ?_ | refine WPc.skip ?_ | refine WPc.region ?_
         | (refine isCond ?_; first | refine WPc.cT ?_ | refine WPc.cF ?_ | (refine WPc.cQ (fun hc => ?_) (fun hc => ?_) <;> try exact prA))
         | (refine isCl ?_; refine WPl.cV (hm) ?_)
         | (refine isCl ?_; refine WPl.cV (hs) ?_)
         | (refine isCl ?_; refine WPl.cV (hb) ?_)
         | (refine isOp ?_; first | refine WPl.rd ?_ | refine WPl.sk ?_ | refine WPl.rdB ?_)
         | (refine isAl ?_; refine WPl.nw fun g => ?_)
         | (refine isBx ?_; refine WPl.nw fun g => ?_)
         | (refine isSt ?_; first | refine WPl.st1 ?_ | refine WPl.stA ?_ | refine WPl.stEB ?_ | refine WPl.stRB ?_)
         | (refine WPl.spQ (fun hc => ?_) (fun hc => ?_) <;> try exact prA)
         | fail)
        all_goals try (first | exact WPq.dV | exact WPq.dR | exact WPq.dR2 | exact WPq.dH | exact WPq.dBH | exact WPq.dT)
      | true =>
        have hne := maskA_ne hok
        rw [show keyOk s a n = decide (maskB a.bytes n.toNat = a.bytes) by simp [keyOk, hok, hsb]]
        simp only [maskV, hok] at hm
        refine Triple.enter Try.func32 rfl Try.ntmps32 rfl (fun W => ?_)
        dsimp only [argsF, Nat.reduceAdd]
        repeat' (first
         | refine WPl.nil ?_ | refine WPq.then ?_ | refine WPq.thenR ?_ | refine WPq.thenE ?_ | refine WPq.blockN ?_ | refine WPq.blockR ?_ | refine WPq.blockE ?_ | refine WPq.blockO rfl ?_ | refine WPc.seq ?_ | refine WPc.block ?_ | refine WPc.ret ?_ | refine WPc.exit ?_ | refine WPc.skip ?_ | refine WPc.region ?_
         | (refine isCond ?_; first | refine WPc.cT ?_ | refine WPc.cF ?_ | (refine WPc.cQ (fun hc => ?_) (fun hc => ?_) <;> try exact prA))
         | (refine isCl ?_; refine WPl.cV (hm) ?_)
         | (refine isCl ?_; refine WPl.cV (hs) ?_)
         | (refine isCl ?_; refine WPl.cV (hb) ?_)
         | (show WPl _ _ _ _ _ _ _ (⟨_, .binOp .eql _ _ _ _, _, _, _, _⟩ :: _) _; refine WPl.rdX (ReadR.binE rfl rfl (BinR.eqlA eqcA) (congrArg Value.bool hne)) ?_)
         | (refine isOp ?_; first | refine WPl.rd ?_ | refine WPl.sk ?_ | refine WPl.rdB ?_)
         | (refine isAl ?_; refine WPl.nw fun g => ?_)
         | (refine isBx ?_; refine WPl.nw fun g => ?_)
         | (refine isSt ?_; first | refine WPl.st1 ?_ | refine WPl.stA ?_ | refine WPl.stEB ?_ | refine WPl.stRB ?_)
         | (refine WPl.spQ (fun hc => ?_) (fun hc => ?_) <;> try exact prA)
         | fail)
        all_goals try (first | exact WPq.dV | exact WPq.dR | exact WPq.dR2 | exact WPq.dH | exact WPq.dBH | exact WPq.dT)
theorem rkey_t (s : Int) (a : Adr) (n : Int) (h1 : -9223372036854775808 ≤ n) (h2 : n ≤ 9223372036854775807) :
    Triple Try.prog 29 #[.int .i64 s, ag (pfc a n)] [] (ROb (keyL s a n)) := by
  have hlen := a.len
  have hbl := a.bytes_le
  have hg := rtgood_t s a n 0 0 h1 h2
  rw [show idB 0 = true by simp [idB], Bool.and_true] at hg
  cases hk : keyOk s a n with
  | false =>
    rw [hk] at hg
    rw [keyL_no hk, ← nbs_nil]
    refine Triple.enter Try.func29 rfl Try.ntmps29 rfl (fun W => ?_)
    dsimp only [argsF, Nat.reduceAdd]
    repeat' (first
     | refine WPl.nil ?_ | refine WPq.then ?_ | refine WPq.thenR ?_ | refine WPq.thenE ?_ | refine WPq.blockN ?_ | refine WPq.blockR ?_ | refine WPq.blockE ?_ | refine WPq.blockO rfl ?_ | refine WPc.seq ?_ | refine WPc.block ?_ | refine WPc.ret ?_ | refine WPc.exit ?_ | refine WPc.skip ?_ | refine WPc.region ?_
     | (refine isReg 6 ?_; refine WPc.drA [([], [18, 19, 20, 21, 22, 24, 25]), ([0], [15, 18, 19, 20, 21, 22, 24, 25]), ([0, 1], [15, 16, 18, 19, 20, 21, 22, 24, 25]), ([], [15, 16, 17, 19, 20, 21, 24, 25]), ([], [15, 16, 17, 18, 24, 25]), ([4], [15, 16, 17, 18, 19, 24, 25]), ([4, 5], [15, 16, 17, 18, 19, 20, 24, 25]), ([3, 4, 5, 6], [15, 16, 17, 18, 19, 20, 21, 24, 25]), ([0, 1, 2, 3, 4, 5, 6, 7], [15, 16, 17, 18, 19, 20, 21, 22, 24, 25]), ([], [15, 16, 17, 18, 19, 20, 21, 22, 23]), ([9], [15, 16, 17, 18, 19, 20, 21, 22, 23, 24]), ([0, 1, 2, 3, 4, 5, 6, 7, 8, 9, 10], [15, 16, 17, 18, 19, 20, 21, 22, 23, 24, 25]), ([0, 1, 2, 3, 4, 5, 6, 7, 8, 9, 10, 11], [15, 16, 17, 18, 19, 20, 21, 22, 23, 24, 25, 26]), ([0, 1, 2, 3, 4, 5, 6, 7, 8, 9, 10, 11, 12], [15, 16, 17, 18, 19, 20, 21, 22, 23, 24, 25, 26, 27])] [(2, 8), (8, 12), (8, 11)] (Γx := []) ?_; dsimp only [prev0, List.length_nil, List.length_cons])
     | (refine gAny ?_; first | (refine gCl ?_; refine RGl.vl (fun e hk => OpT.callN (hg)) ?_) | (refine gOp ?_; first | refine RGl.rdA ?_ | refine RGl.rdX (fun e hk => by (try dsimp only [bndR, ensR, oksR, fcutR, List.append_nil, List.nil_append, List.cons_append, List.append_assoc] at hk ⊢); exact readB) ?_) | (refine gLit ?_; refine RGl.litA ?_) | (refine gApp ?_; refine RGl.appA ?_) | (refine RGl.fin (fun e hk => ?_); (try dsimp only [bndA, ensAR, oksA, List.append_nil, List.nil_append, List.cons_append, List.append_assoc] at hk ⊢); (repeat (obtain ⟨hk1, hk⟩ := hk))) | fail)
     | (refine isCond ?_; first | refine WPc.cT ?_ | refine WPc.cF ?_ | (refine WPc.cQ (fun hc => ?_) (fun hc => ?_) <;> try exact prA))
     | (refine isCl ?_; refine WPl.cV (hg) ?_)
     | (refine isLit ?_; refine WPl.lit fun v hv => ?_)
     | (refine isOp ?_; first | refine WPl.rd ?_ | refine WPl.sk ?_ | refine WPl.rdB ?_)
     | (refine isBx ?_; refine WPl.nw fun g => ?_)
     | (refine WPl.spQ (fun hc => ?_) (fun hc => ?_) <;> try exact prA)
     | fail)
    all_goals try (first | exact WPq.dV | exact WPq.dR | exact WPq.dR2 | exact WPq.dH | exact WPq.dBH | exact WPq.dT)
  | true =>
    rw [hk] at hg
    rw [keyL_yes hk]
    simp only [keyOk, Bool.and_eq_true] at hk
    obtain ⟨m, rfl, hm⟩ := idB_nat hk.2
    have hok := hk.1.1
    simp only [Adr.maskOk, Bool.and_eq_true, decide_eq_true_eq] at hok
    obtain ⟨k, rfl⟩ := Int.eq_ofNat_of_zero_le hok.2.1
    have hk128 : k ≤ 128 := by have := hok.2.2; unfold Adr.bits at this; split at this <;> omega
    simp only [Int.toNat_natCast]
    have hbe := be_length m 2
    cases h6 : a.six with
    | true =>
      rw [← keyB_nbs m a k 6 (by rw [h6]; rfl)]
      simp only [List.flatten_cons, List.flatten_nil, List.append_nil]
      rw [← List.append_assoc]
      refine Triple.enter Try.func29 rfl Try.ntmps29 rfl (fun W => ?_)
      dsimp only [argsF, Nat.reduceAdd]
      repeat' (first
       | refine WPl.nil ?_ | refine WPq.then ?_ | refine WPq.thenR ?_ | refine WPq.thenE ?_ | refine WPq.blockN ?_ | refine WPq.blockR ?_ | refine WPq.blockE ?_ | refine WPq.blockO rfl ?_ | refine WPc.seq ?_ | refine WPc.block ?_ | refine WPc.ret ?_ | refine WPc.exit ?_ | refine WPc.skip ?_ | refine WPc.region ?_
       | (refine isReg 6 ?_; refine WPc.drA [([], [18, 19, 20, 21, 22, 24, 25]), ([0], [15, 18, 19, 20, 21, 22, 24, 25]), ([0, 1], [15, 16, 18, 19, 20, 21, 22, 24, 25]), ([], [15, 16, 17, 19, 20, 21, 24, 25]), ([], [15, 16, 17, 18, 24, 25]), ([4], [15, 16, 17, 18, 19, 24, 25]), ([4, 5], [15, 16, 17, 18, 19, 20, 24, 25]), ([3, 4, 5, 6], [15, 16, 17, 18, 19, 20, 21, 24, 25]), ([0, 1, 2, 3, 4, 5, 6, 7], [15, 16, 17, 18, 19, 20, 21, 22, 24, 25]), ([], [15, 16, 17, 18, 19, 20, 21, 22, 23]), ([9], [15, 16, 17, 18, 19, 20, 21, 22, 23, 24]), ([0, 1, 2, 3, 4, 5, 6, 7, 8, 9, 10], [15, 16, 17, 18, 19, 20, 21, 22, 23, 24, 25]), ([0, 1, 2, 3, 4, 5, 6, 7, 8, 9, 10, 11], [15, 16, 17, 18, 19, 20, 21, 22, 23, 24, 25, 26]), ([0, 1, 2, 3, 4, 5, 6, 7, 8, 9, 10, 11, 12], [15, 16, 17, 18, 19, 20, 21, 22, 23, 24, 25, 26, 27])] [(2, 8), (8, 12), (8, 11)] (Γx := []) ?_; dsimp only [prev0, List.length_nil, List.length_cons])
       | (refine gAny ?_; first | (refine gCl ?_; refine RGl.vl (fun e hk => OpT.callN (hg)) ?_) | (refine gCl ?_; refine RGl.row (Γ1 := fun _ => []) (fun e hk => OpT.callN (rnum_t m 2 (by omega) (by omega))) ?_) | (refine gCl ?_; refine RGl.row (Γ1 := fun _ => []) (fun e hk => OpT.callN (rbytes_t a)) ?_) | (refine gOp ?_; first | refine RGl.rdA ?_ | refine RGl.rdX (fun e hk => by (try dsimp only [bndR, ensR, oksR, fcutR, List.append_nil, List.nil_append, List.cons_append, List.append_assoc] at hk ⊢); exact readB) ?_) | (refine gLit ?_; refine RGl.litA ?_) | (refine gApp ?_; refine RGl.appA ?_) | (refine RGl.fin (fun e hk => ?_); (try dsimp only [bndA, ensAR, oksA, List.append_nil, List.nil_append, List.cons_append, List.append_assoc] at hk ⊢); (repeat (obtain ⟨hk1, hk⟩ := hk))) | fail)
       | (refine isCond ?_; first | refine WPc.cT ?_ | refine WPc.cF ?_ | (refine WPc.cQ (fun hc => ?_) (fun hc => ?_) <;> try exact prA))
       | (refine isCl ?_; refine WPl.cV (hg) ?_)
       | (refine isLit ?_; refine WPl.lit fun v hv => ?_)
       | (refine isCl ?_; refine WPl.cR (rnum_t m 2 (by omega) (by omega)) fun v hv => ?_)
       | (refine isCl ?_; refine WPl.cR (rbytes_t a) fun v hv => ?_)
       | (refine isOp ?_; first | refine WPl.rd ?_ | refine WPl.sk ?_ | refine WPl.rdB ?_)
       | (refine isBx ?_; refine WPl.nw fun g => ?_)
       | (refine WPl.spQ (fun hc => ?_) (fun hc => ?_) <;> try exact prA)
       | fail)
      all_goals try (first | exact WPq.dV | exact WPq.dR | exact WPq.dR2 | exact WPq.dH | exact WPq.dBH | exact WPq.dT)
    | false =>
      rw [← keyB_nbs m a k 4 (by rw [h6]; rfl)]
      simp only [List.flatten_cons, List.flatten_nil, List.append_nil]
      rw [← List.append_assoc]
      refine Triple.enter Try.func29 rfl Try.ntmps29 rfl (fun W => ?_)
      dsimp only [argsF, Nat.reduceAdd]
      repeat' (first
       | refine WPl.nil ?_ | refine WPq.then ?_ | refine WPq.thenR ?_ | refine WPq.thenE ?_ | refine WPq.blockN ?_ | refine WPq.blockR ?_ | refine WPq.blockE ?_ | refine WPq.blockO rfl ?_ | refine WPc.seq ?_ | refine WPc.block ?_ | refine WPc.ret ?_ | refine WPc.exit ?_ | refine WPc.skip ?_ | refine WPc.region ?_
       | (refine isReg 6 ?_; refine WPc.drA [([], [18, 19, 20, 21, 22, 24, 25]), ([0], [15, 18, 19, 20, 21, 22, 24, 25]), ([0, 1], [15, 16, 18, 19, 20, 21, 22, 24, 25]), ([], [15, 16, 17, 19, 20, 21, 24, 25]), ([], [15, 16, 17, 18, 24, 25]), ([4], [15, 16, 17, 18, 19, 24, 25]), ([4, 5], [15, 16, 17, 18, 19, 20, 24, 25]), ([3, 4, 5, 6], [15, 16, 17, 18, 19, 20, 21, 24, 25]), ([0, 1, 2, 3, 4, 5, 6, 7], [15, 16, 17, 18, 19, 20, 21, 22, 24, 25]), ([], [15, 16, 17, 18, 19, 20, 21, 22, 23]), ([9], [15, 16, 17, 18, 19, 20, 21, 22, 23, 24]), ([0, 1, 2, 3, 4, 5, 6, 7, 8, 9, 10], [15, 16, 17, 18, 19, 20, 21, 22, 23, 24, 25]), ([0, 1, 2, 3, 4, 5, 6, 7, 8, 9, 10, 11], [15, 16, 17, 18, 19, 20, 21, 22, 23, 24, 25, 26]), ([0, 1, 2, 3, 4, 5, 6, 7, 8, 9, 10, 11, 12], [15, 16, 17, 18, 19, 20, 21, 22, 23, 24, 25, 26, 27])] [(2, 8), (8, 12), (8, 11)] (Γx := []) ?_; dsimp only [prev0, List.length_nil, List.length_cons])
       | (refine gAny ?_; first | (refine gCl ?_; refine RGl.vl (fun e hk => OpT.callN (hg)) ?_) | (refine gCl ?_; refine RGl.row (Γ1 := fun _ => []) (fun e hk => OpT.callN (rnum_t m 2 (by omega) (by omega))) ?_) | (refine gCl ?_; refine RGl.row (Γ1 := fun _ => []) (fun e hk => OpT.callN (rbytes_t a)) ?_) | (refine gOp ?_; first | refine RGl.rdA ?_ | refine RGl.rdX (fun e hk => by (try dsimp only [bndR, ensR, oksR, fcutR, List.append_nil, List.nil_append, List.cons_append, List.append_assoc] at hk ⊢); exact readB) ?_) | (refine gLit ?_; refine RGl.litA ?_) | (refine gApp ?_; refine RGl.appA ?_) | (refine RGl.fin (fun e hk => ?_); (try dsimp only [bndA, ensAR, oksA, List.append_nil, List.nil_append, List.cons_append, List.append_assoc] at hk ⊢); (repeat (obtain ⟨hk1, hk⟩ := hk))) | fail)
       | (refine isCond ?_; first | refine WPc.cT ?_ | refine WPc.cF ?_ | (refine WPc.cQ (fun hc => ?_) (fun hc => ?_) <;> try exact prA))
       | (refine isCl ?_; refine WPl.cV (hg) ?_)
       | (refine isLit ?_; refine WPl.lit fun v hv => ?_)
       | (refine isCl ?_; refine WPl.cR (rnum_t m 2 (by omega) (by omega)) fun v hv => ?_)
       | (refine isCl ?_; refine WPl.cR (rbytes_t a) fun v hv => ?_)
       | (refine isOp ?_; first | refine WPl.rd ?_ | refine WPl.sk ?_ | refine WPl.rdB ?_)
       | (refine isBx ?_; refine WPl.nw fun g => ?_)
       | (refine WPl.spQ (fun hc => ?_) (fun hc => ?_) <;> try exact prA)
       | fail)
      all_goals try (first | exact WPq.dV | exact WPq.dR | exact WPq.dR2 | exact WPq.dH | exact WPq.dBH | exact WPq.dT)
theorem rval_t (b : Int) (u : Nat) (hu : u < 18446744073709551616) : Triple Try.prog 30 #[.int .i64 b, .int .u64 (u : Int)] [] (ROb (valL b u)) := by
  have hid := rid_t b
  cases hb : idB b with
  | false =>
    rw [hb] at hid
    rw [show valL b u = nbs [] by simp [valL, hb, nbs_nil]]
    refine Triple.enter Try.func30 rfl Try.ntmps30 rfl (fun W => ?_)
    dsimp only [argsF, Nat.reduceAdd]
    repeat' (first
     | refine WPl.nil ?_ | refine WPq.then ?_ | refine WPq.thenR ?_ | refine WPq.thenE ?_ | refine WPq.blockN ?_ | refine WPq.blockR ?_ | refine WPq.blockE ?_ | refine WPq.blockO rfl ?_ | refine WPc.seq ?_ | refine WPc.block ?_ | refine WPc.ret ?_ | refine WPc.exit ?_ | refine WPc.skip ?_ | refine WPc.region ?_
     | (refine isCond ?_; first | refine WPc.cT ?_ | refine WPc.cF ?_ | (refine WPc.cQ (fun hc => ?_) (fun hc => ?_) <;> try exact prA))
     | (refine isCl ?_; refine WPl.cV (hid) ?_)
     | (refine isLit ?_; refine WPl.lit fun v hv => ?_)
     | (refine isOp ?_; first | refine WPl.rd ?_ | refine WPl.sk ?_ | refine WPl.rdB ?_)
     | (refine WPl.spQ (fun hc => ?_) (fun hc => ?_) <;> try exact prA)
     | fail)
    all_goals try (first | exact WPq.dV | exact WPq.dR | exact WPq.dR2 | exact WPq.dH | exact WPq.dBH | exact WPq.dT)
  | true =>
    rw [hb] at hid
    rw [show valL b u = be b.toNat 2 ++ be u 8 by simp [valL, hb]]
    obtain ⟨m, rfl, hm⟩ := idB_nat hb
    simp only [Int.toNat_natCast]
    have hbl := be_length m 2
    refine Triple.enter Try.func30 rfl Try.ntmps30 rfl (fun W => ?_)
    dsimp only [argsF, Nat.reduceAdd]
    repeat' (first
     | refine WPl.nil ?_ | refine WPq.then ?_ | refine WPq.thenR ?_ | refine WPq.thenE ?_ | refine WPq.blockN ?_ | refine WPq.blockR ?_ | refine WPq.blockE ?_ | refine WPq.blockO rfl ?_ | refine WPc.seq ?_ | refine WPc.block ?_ | refine WPc.ret ?_ | refine WPc.exit ?_ | refine WPc.skip ?_ | refine WPc.region ?_
     | (refine isCond ?_; first | refine WPc.cT ?_ | refine WPc.cF ?_ | (refine WPc.cQ (fun hc => ?_) (fun hc => ?_) <;> try exact prA))
     | (refine isCl ?_; refine WPl.cV (hid) ?_)
     | (refine isCl ?_; refine WPl.cR (rnum_t m 2 (by omega) (by omega)) fun v hv => ?_)
     | (refine isCl ?_; refine WPl.cR (rput_t _ (be m 2) u 8 hu (by omega) (by omega)) fun v hv => ?_)
     | (refine isOp ?_; first | refine WPl.rd ?_ | refine WPl.sk ?_ | refine WPl.rdB ?_)
     | (refine WPl.spQ (fun hc => ?_) (fun hc => ?_) <;> try exact prA)
     | fail)
    all_goals try (first | exact WPq.dV | exact WPq.dR | exact WPq.dR2 | exact WPq.dH | exact WPq.dBH | exact WPq.dT)
theorem over_snoc (l : List UInt8) (k : Nat) (new : List UInt8) (c : UInt8) (h : k + new.length < l.length) : over l k (new ++ [c]) = (over l k new).set (k + new.length) c := by
  unfold over
  rw [List.set_append_right _ _ (by simp; omega), List.length_take, Nat.min_eq_left (by omega), Nat.add_sub_cancel_left, List.set_append_right _ _ (by simp), Nat.sub_self, List.append_assoc]
  congr 2
  rw [List.drop_eq_getElem_cons h]
  simp [Nat.add_assoc]
theorem seg_snoc {l : List UInt8} {k n : Nat} (h : k + n < l.length) : seg l k (n + 1) = seg l k n ++ [l.getD (k + n) 0] := by
  unfold seg
  rw [List.take_add_one]
  congr 1
  simp [List.getElem?_drop, List.getElem?_eq_getElem h]
theorem tAddr_b {key : List UInt8} (h : key.length = 8 ∨ key.length = 20) : (tAddr key).six = decide (key.length = 20) ∧ (tAddr key).b = over (List.replicate 16 0) (20 - key.length) (seg key 4 (key.length - 4)) := by
  unfold tAddr
  rcases h with h | h
  · rw [dif_neg (by omega), dif_pos h, h]
    exact ⟨rfl, rfl⟩
  · rw [dif_pos h, h]
    refine ⟨rfl, ?_⟩
    have : (seg key 4 16).length = 16 := seg_length (by omega)
    simp [over, Adr.of6, this]
theorem rof_t (u1 u2 : Value) (key v : List UInt8) (hk : key.length ≤ 1000000) (hv : v.length ≤ 1000000) : Triple Try.prog 27 #[u1, u2] [rb u1 key, rb u2 v] (RVal (tVal key v)) := by
  cases ht : tLen key v with
  | false =>
    rw [tVal_no (by simp [tOk, ht])]
    have ht : v.length ≠ 10 ∨ key.length ≠ 8 ∧ key.length ≠ 20 := by simp [tLen] at ht; omega
    refine Triple.enter Try.func27 rfl Try.ntmps27 rfl (fun W => ?_)
    dsimp only [argsF, Nat.reduceAdd]
    repeat' (first
     | refine WPl.nil ?_ | refine WPq.then ?_ | refine WPq.thenR ?_ | refine WPq.thenE ?_ | refine WPq.blockN ?_ | refine WPq.blockR ?_ | refine WPq.blockE ?_ | refine WPq.blockO rfl ?_ | refine WPc.seq ?_ | refine WPc.block ?_ | refine WPc.ret ?_ | refine WPc.exit ?_ | refine WPc.skip ?_ | refine WPc.region ?_
     | (refine isReg 9 ?_; refine WPc.drA [([], [64, 65, 68, 69]), ([0], [62, 64, 65, 68, 69]), ([], [62, 63, 68, 69]), ([2], [62, 63, 64, 68, 69]), ([0, 1, 2, 3], [62, 63, 64, 65, 68, 69]), ([0, 1, 2, 3, 4], [62, 63, 64, 65, 66, 68, 69]), ([], [62, 63, 64, 65, 66, 67]), ([6], [62, 63, 64, 65, 66, 67, 68]), ([0, 1, 2, 3, 4, 5, 6, 7], [62, 63, 64, 65, 66, 67, 68, 69])] [] (Γx := []) ?_; dsimp only [prev0, List.length_nil, List.length_cons])
     | (refine gAny ?_; first | (refine gOp ?_; first | refine RGl.rdA ?_ | refine RGl.rdX (fun e hk => by (try dsimp only [bndR, ensR, oksR, fcutR, List.append_nil, List.nil_append, List.cons_append, List.append_assoc] at hk ⊢); exact readB) ?_) | (refine RGl.fin (fun e hk => ?_); (try dsimp only [bndA, ensAR, oksA, List.append_nil, List.nil_append, List.cons_append, List.append_assoc] at hk ⊢); (repeat (obtain ⟨hk1, hk⟩ := hk))) | fail)
     | (refine isCond ?_; first | refine WPc.cT ?_ | refine WPc.cF ?_ | (refine WPc.cQ (fun hc => ?_) (fun hc => ?_) <;> try exact prA))
     | (refine isOp ?_; first | refine WPl.rd ?_ | refine WPl.sk ?_ | refine WPl.rdB ?_)
     | (refine isAl ?_; refine WPl.nw fun g => ?_)
     | (refine isSt ?_; first | refine WPl.st1 ?_ | refine WPl.stA ?_ | refine WPl.stEB ?_ | refine WPl.stRB ?_)
     | (refine WPl.spQ (fun hc => ?_) (fun hc => ?_) <;> try exact prA)
     | fail)
    all_goals try (first | exact WPq.dV | exact WPq.dR | exact WPq.dR2 | exact WPq.dH | exact WPq.dBH | exact WPq.dT)
  | true =>
    have hl : v.length = 10 ∧ (key.length = 8 ∨ key.length = 20) := by simp [tLen] at ht; omega
    obtain ⟨h10, hkl⟩ := hl
    obtain ⟨a6, ab⟩ := tAddr_b hkl
    have hb3 := (key.getD 3 0).toNat_lt
    have hv1 := val2_lt (l := key) (k := 0)
    have hv2 := val2_lt (l := v) (k := 0)
    have hv3 := val8_lt (l := v) (k := 2)
    have hkt := rkey_t (val (seg key 0 2)) (tAddr key) (key.getD 3 0).toNat (by omega) (by omega)
    rw [show keyL (val (seg key 0 2)) (tAddr key) (key.getD 3 0).toNat = tKey key from rfl] at hkt
    refine Triple.enter Try.func27 rfl Try.ntmps27 rfl (fun W => ?_)
    dsimp only [argsF, Nat.reduceAdd]
    repeat' (first
     | refine WPl.nil ?_ | refine WPq.then ?_ | refine WPq.thenR ?_ | refine WPq.thenE ?_ | refine WPq.blockN ?_ | refine WPq.blockR ?_ | refine WPq.blockE ?_ | refine WPq.blockO rfl ?_ | refine WPc.seq ?_ | refine WPc.block ?_ | refine WPc.ret ?_ | refine WPc.exit ?_ | refine WPc.skip ?_ | refine WPc.region ?_
     | (refine isReg 9 ?_; refine WPc.drA [([], [64, 65, 68, 69]), ([0], [62, 64, 65, 68, 69]), ([], [62, 63, 68, 69]), ([2], [62, 63, 64, 68, 69]), ([0, 1, 2, 3], [62, 63, 64, 65, 68, 69]), ([0, 1, 2, 3, 4], [62, 63, 64, 65, 66, 68, 69]), ([], [62, 63, 64, 65, 66, 67]), ([6], [62, 63, 64, 65, 66, 67, 68]), ([0, 1, 2, 3, 4, 5, 6, 7], [62, 63, 64, 65, 66, 67, 68, 69])] [] (Γx := []) ?_; dsimp only [prev0, List.length_nil, List.length_cons])
     | (refine gAny ?_; first | (refine gCl ?_; refine RGl.vl (fun e hk => OpT.callN (rget_t u1 key 0 2 (by omega) (by omega) (by omega))) ?_) | (refine gCl ?_; refine RGl.vl (fun e hk => OpT.callN (rget_t u2 v 0 2 (by omega) (by omega) (by omega))) ?_) | (refine gCl ?_; refine RGl.vl (fun e hk => OpT.callN (rget_t u2 v 2 8 (by omega) (by omega) (by omega))) ?_) | (refine gOp ?_; first | refine RGl.rdA ?_ | refine RGl.rdX (fun e hk => by (try dsimp only [bndR, ensR, oksR, fcutR, List.append_nil, List.nil_append, List.cons_append, List.append_assoc] at hk ⊢); exact readB) ?_) | (refine RGl.fin (fun e hk => ?_); (try dsimp only [bndA, ensAR, oksA, List.append_nil, List.nil_append, List.cons_append, List.append_assoc] at hk ⊢); (repeat (obtain ⟨hk1, hk⟩ := hk))) | fail)
     | (refine isCond ?_; first | refine WPc.cT ?_ | refine WPc.cF ?_ | (refine WPc.cQ (fun hc => ?_) (fun hc => ?_) <;> try exact prA))
     | (refine isD 4 ?_; first | (refine isAl ?_; refine WPl.nw fun gq => ?_) | (refine isBx ?_; refine WPl.nw fun gq => ?_))
     | (refine isCl ?_; refine WPl.cV (rget_t u1 key 0 2 (by omega) (by omega) (by omega)) ?_)
     | (refine isCl ?_; refine WPl.cV (rget_t u2 v 0 2 (by omega) (by omega) (by omega)) ?_)
     | (refine isCl ?_; refine WPl.cV (rget_t u2 v 2 8 (by omega) (by omega) (by omega)) ?_)
     | (refine isOp ?_; first | refine WPl.rd ?_ | refine WPl.sk ?_ | refine WPl.rdB ?_)
     | (refine isAl ?_; refine WPl.nw fun g => ?_)
     | (refine isSt ?_; first | refine WPl.st1 ?_ | refine WPl.stA ?_ | refine WPl.stEB ?_ | refine WPl.stRB ?_)
     | (refine WPl.spQ (fun hc => ?_) (fun hc => ?_) <;> try exact prA)
     | fail)
    all_goals
      first | refine WPc.loop (σ := Nat × List UInt8) (fun p => 4 ≤ p.1 ∧ p.1 ≤ key.length ∧ p.2 = over (List.replicate 16 0) (20 - key.length) (seg key 4 (p.1 - 4))) (fun p => [bx g 29 [(1, [.int .i64 (val (seg key 0 2))]), (1, [.bool (decide ((key.length : Int) = 20))]), (16, u8s p.2), (1, [.int .i64 (key.getD 3 0).toNat]), (1, [.int .i64 (val (seg v 0 2))]), (1, [.int .u64 (val (seg v 2 8))])], bx gq 29 [(1, [.int .i64 0]), (1, [.bool false]), (16, u8s (List.replicate 16 0)), (1, [.int .i64 0]), (1, [.int .i64 0]), (1, [.int .u64 0])], rb u1 key, rb u2 v]) (fun p => [(0, u1), (1, u2), (4, .pointer (some ⟨gq, 0, none⟩)), (6, .pointer (some ⟨g, 0, none⟩)), (7, .int .i64 p.1)]) (fun p => key.length - p.1) ((4, List.replicate 16 0)) ?_ takesA frsA (fun st km hx hk => ?_)
      · exact ⟨by omega, by show 4 ≤ _; omega, by simp [seg, over]⟩
      obtain ⟨i, c⟩ := st
      dsimp only at hx hk ⊢
      obtain ⟨h4, hi, hc0⟩ := hx
      have hcl : c.length = 16 := by rw [hc0, over_length] <;> simp [seg_len]; omega
      by_cases hlt : i < key.length
      · skip
        repeat' (first
         | refine WPl.nil ?_ | refine WPq.then ?_ | refine WPq.thenR ?_ | refine WPq.thenE ?_ | refine WPq.blockN ?_ | refine WPq.blockR ?_ | refine WPq.blockE ?_ | refine WPq.blockO rfl ?_ | refine WPc.seq ?_ | refine WPc.block ?_ | refine WPc.ret ?_ | refine WPc.exit ?_ | refine WPc.skip ?_ | refine WPc.region ?_
         | (refine isReg 9 ?_; refine WPc.drA [([], [64, 65, 68, 69]), ([0], [62, 64, 65, 68, 69]), ([], [62, 63, 68, 69]), ([2], [62, 63, 64, 68, 69]), ([0, 1, 2, 3], [62, 63, 64, 65, 68, 69]), ([0, 1, 2, 3, 4], [62, 63, 64, 65, 66, 68, 69]), ([], [62, 63, 64, 65, 66, 67]), ([6], [62, 63, 64, 65, 66, 67, 68]), ([0, 1, 2, 3, 4, 5, 6, 7], [62, 63, 64, 65, 66, 67, 68, 69])] [] (Γx := []) ?_; dsimp only [prev0, List.length_nil, List.length_cons])
         | (refine gAny ?_; first | (refine gOp ?_; first | refine RGl.rdA ?_ | refine RGl.rdX (fun e hk => by (try dsimp only [bndR, ensR, oksR, fcutR, List.append_nil, List.nil_append, List.cons_append, List.append_assoc] at hk ⊢); exact readB) ?_) | (refine RGl.fin (fun e hk => ?_); (try dsimp only [bndA, ensAR, oksA, List.append_nil, List.nil_append, List.cons_append, List.append_assoc] at hk ⊢); (repeat (obtain ⟨hk1, hk⟩ := hk))) | fail)
         | (refine isCond ?_; first | refine WPc.cT ?_ | refine WPc.cF ?_ | (refine WPc.cQ (fun hc => ?_) (fun hc => ?_) <;> try exact prA))
         | (refine isOp ?_; first | refine WPl.rd ?_ | refine WPl.sk ?_ | refine WPl.rdB ?_)
         | (refine isAl ?_; refine WPl.nw fun g => ?_)
         | (refine isSt ?_; first | refine WPl.st1 ?_ | refine WPl.stA ?_ | refine WPl.stEB ?_ | refine WPl.stRB ?_)
         | (refine WPl.spQ (fun hc => ?_) (fun hc => ?_) <;> try exact prA)
         | fail)
        exact WPq.rnd (i + 1, c.set (16 - (key.length : Int) + (i : Int)).toNat (key.getD i 0)) ⟨by show 4 ≤ i + 1; omega, by show i + 1 ≤ _; omega, by
          show _ = over _ _ (seg key 4 (i + 1 - 4))
          have e := seg_snoc (l := key) (k := 4) (n := i - 4) (by omega)
          have hs : (seg key 4 (i - 4)).length = i - 4 := seg_length (by omega)
          rw [show i + 1 - 4 = i - 4 + 1 by omega, e, over_snoc _ _ _ _ (by simp; omega), ← hc0, hs, show 4 + (i - 4) = i by omega, show 20 - key.length + (i - 4) = (16 - (key.length : Int) + (i : Int)).toNat by omega]⟩ (by show _ - (i + 1) < km; omega)
      · obtain rfl : i = key.length := by omega
        rw [show decide ((key.length : Int) = 20) = (tAddr key).six by rw [a6]; exact decide_eq_decide.2 (by omega), hc0, ← ab]
        by_cases he : tKey key = key
        · rw [tVal_yes (by rw [tOk, ht, Bool.true_and]; exact decide_eq_true he)]
          repeat' (first
           | refine WPl.nil ?_ | refine WPq.then ?_ | refine WPq.thenR ?_ | refine WPq.thenE ?_ | refine WPq.blockN ?_ | refine WPq.blockR ?_ | refine WPq.blockE ?_ | refine WPq.blockO rfl ?_ | refine WPc.seq ?_ | refine WPc.block ?_ | refine WPc.ret ?_ | refine WPc.exit ?_ | refine WPc.skip ?_ | refine WPc.region ?_
           | (refine isReg 9 ?_; refine WPc.drA [([], [64, 65, 68, 69]), ([0], [62, 64, 65, 68, 69]), ([], [62, 63, 68, 69]), ([2], [62, 63, 64, 68, 69]), ([0, 1, 2, 3], [62, 63, 64, 65, 68, 69]), ([0, 1, 2, 3, 4], [62, 63, 64, 65, 66, 68, 69]), ([], [62, 63, 64, 65, 66, 67]), ([6], [62, 63, 64, 65, 66, 67, 68]), ([0, 1, 2, 3, 4, 5, 6, 7], [62, 63, 64, 65, 66, 67, 68, 69])] [] (Γx := []) ?_; dsimp only [prev0, List.length_nil, List.length_cons])
           | (refine gAny ?_; first | (refine gCl ?_; refine RGl.row (Γ1 := fun _ => []) (fun e hk => OpT.callN (hkt)) ?_) | (refine gOp ?_; first | refine RGl.rdA ?_ | refine RGl.rdX (fun e hk => by (try dsimp only [bndR, ensR, oksR, fcutR, List.append_nil, List.nil_append, List.cons_append, List.append_assoc] at hk ⊢); exact readB) ?_) | (refine RGl.fin (fun e hk => ?_); (try dsimp only [bndA, ensAR, oksA, List.append_nil, List.nil_append, List.cons_append, List.append_assoc] at hk ⊢); (repeat (obtain ⟨hk1, hk⟩ := hk))) | fail)
           | (refine isCond ?_; first | refine WPc.cT ?_ | refine WPc.cF ?_ | (refine WPc.cQ (fun hc => ?_) (fun hc => ?_) <;> try exact prA))
           | (refine isCl ?_; refine WPl.cR (hkt) fun v hv => ?_)
           | (refine isOp ?_; first | refine WPl.rd ?_ | refine WPl.sk ?_ | refine WPl.rdB ?_)
           | (refine isAl ?_; refine WPl.nw fun g => ?_)
           | (refine isSt ?_; first | refine WPl.st1 ?_ | refine WPl.stA ?_ | refine WPl.stEB ?_ | refine WPl.stRB ?_)
           | (refine WPl.spQ (fun hc => ?_) (fun hc => ?_) <;> try exact prA)
           | fail)
          all_goals try (first | exact WPq.dV | exact WPq.dR | exact WPq.dR2 | exact WPq.dH | exact WPq.dBH | exact WPq.dT)
        · rw [tVal_no (by rw [tOk, ht, Bool.true_and]; exact decide_eq_false he)]
          repeat' (first
           | refine WPl.nil ?_ | refine WPq.then ?_ | refine WPq.thenR ?_ | refine WPq.thenE ?_ | refine WPq.blockN ?_ | refine WPq.blockR ?_ | refine WPq.blockE ?_ | refine WPq.blockO rfl ?_ | refine WPc.seq ?_ | refine WPc.block ?_ | refine WPc.ret ?_ | refine WPc.exit ?_ | refine WPc.skip ?_ | refine WPc.region ?_
           | (refine isReg 9 ?_; refine WPc.drA [([], [64, 65, 68, 69]), ([0], [62, 64, 65, 68, 69]), ([], [62, 63, 68, 69]), ([2], [62, 63, 64, 68, 69]), ([0, 1, 2, 3], [62, 63, 64, 65, 68, 69]), ([0, 1, 2, 3, 4], [62, 63, 64, 65, 66, 68, 69]), ([], [62, 63, 64, 65, 66, 67]), ([6], [62, 63, 64, 65, 66, 67, 68]), ([0, 1, 2, 3, 4, 5, 6, 7], [62, 63, 64, 65, 66, 67, 68, 69])] [] (Γx := []) ?_; dsimp only [prev0, List.length_nil, List.length_cons])
           | (refine gAny ?_; first | (refine gCl ?_; refine RGl.row (Γ1 := fun _ => []) (fun e hk => OpT.callN (hkt)) ?_) | (refine gOp ?_; first | refine RGl.rdA ?_ | refine RGl.rdX (fun e hk => by (try dsimp only [bndR, ensR, oksR, fcutR, List.append_nil, List.nil_append, List.cons_append, List.append_assoc] at hk ⊢); exact readB) ?_) | (refine RGl.fin (fun e hk => ?_); (try dsimp only [bndA, ensAR, oksA, List.append_nil, List.nil_append, List.cons_append, List.append_assoc] at hk ⊢); (repeat (obtain ⟨hk1, hk⟩ := hk))) | fail)
           | (refine isCond ?_; first | refine WPc.cT ?_ | refine WPc.cF ?_ | (refine WPc.cQ (fun hc => ?_) (fun hc => ?_) <;> try exact prA))
           | (refine isCl ?_; refine WPl.cR (hkt) fun v hv => ?_)
           | (refine isOp ?_; first | refine WPl.rd ?_ | refine WPl.sk ?_ | refine WPl.rdB ?_)
           | (refine isAl ?_; refine WPl.nw fun g => ?_)
           | (refine isSt ?_; first | refine WPl.st1 ?_ | refine WPl.stA ?_ | refine WPl.stEB ?_ | refine WPl.stRB ?_)
           | (refine WPl.spQ (fun hc => ?_) (fun hc => ?_) <;> try exact prA)
           | fail)
          all_goals try (first | exact WPq.dV | exact WPq.dR | exact WPq.dR2 | exact WPq.dH | exact WPq.dBH | exact WPq.dT)
end Go.Proofs.Yteofjhjhaaafjaa
