/- Layer 23 (flows): flows in order. -/
import Derived.Test.YtncgponcedkihaaFe
import Derived.Test.YtncgponcedkihaaKb
import Derived.Test.YtncgponcedkihaaSp
namespace Go.Proofs.Ytncgponcedkihaa
open Go.RowKit
set_option linter.unusedSimpArgs false
set_option linter.unusedVariables false
set_option maxRecDepth 20000
set_option maxHeartbeats 4000000
attribute [local irreducible] WPc WPl WPq ReadR OpT BinR HasS bx rdN rowN Take Takes Prov Triple ResF BuildP Done ag Int.decLt Int.decLe Int.instDecidableEq
open Go.Lib (compareInt compareBytes)
theorem ad_eqb (a b : Adr) : (a.six == b.six && (decide (a.b = b.b) && true)) = decide (a = b) := by
  rw [Bool.eq_iff_iff]
  simp only [Bool.and_true, Bool.and_eq_true, beq_iff_eq, decide_eq_true_eq]
  constructor
  · rintro ⟨h1, h2⟩; exact Adr.ext h1 h2
  · rintro rfl; exact ⟨rfl, rfl⟩
theorem BinR.adN {a b : Adr} : BinR Try.prog .neq 32 (ag (adc a)) (ag (adc b)) (.bool (!decide (a = b))) := by
  have l1 := a.len
  have l2 := b.len
  rw [← ad_eqb]
  exact BinR.neqA eqcA
def flC : Fl → Fl → Int := lexC (fun a b => compareInt (a.proto.toNat : Int) (b.proto.toNat : Int)) (lexC (fun a b => adrC a.src b.src) (lexC (fun a b => adrC a.dst b.dst) (lexC (fun a b => compareInt (a.sp : Int) (b.sp : Int)) (fun a b => compareInt (a.dp : Int) (b.dp : Int)))))
theorem TC.fl : TC flC := TC.lex (TC.int.pull fun a : Fl => (a.proto.toNat : Int)) (TC.lex (TC.adr.pull Fl.src) (TC.lex (TC.adr.pull Fl.dst) (TC.lex (TC.int.pull fun a : Fl => (a.sp : Int)) (TC.int.pull fun a : Fl => (a.dp : Int)))))
theorem ci_zero {a b : Int} : compareInt a b = 0 ↔ a = b := by unfold compareInt; (repeat' split) <;> omega
theorem ci_lt {a b : Int} : compareInt a b < 0 ↔ a < b := by unfold compareInt; (repeat' split) <;> omega
theorem adr_refl {a : Adr} : adrC a a = 0 := by
  have := TC.adr.flip a a
  omega
theorem lexC_zero {α : Type} {f g : α → α → Int} {x y : α} (h : f x y = 0) : lexC f g x y = g x y := by unfold lexC; rw [if_neg (by rw [h]; simp)]
theorem lexC_ne {α : Type} {f g : α → α → Int} {x y : α} (h : f x y ≠ 0) : lexC f g x y = f x y := by unfold lexC; rw [if_pos h]
def flLt (a b : Fl) : Bool := decide (flC a b < 0)
theorem adr_ne {a b : Adr} (h : a ≠ b) : adrC a b ≠ 0 := fun e => h (adr_zero e)
theorem adrLt_d {a b : Adr} : adrLt a b = decide (adrC a b < 0) := by rw [Bool.eq_iff_iff, adrLt_iff, decide_eq_true_eq]
theorem flLt1 {a b : Fl} (h : a.proto ≠ b.proto) : flLt a b = decide ((a.proto.toNat : Int) < (b.proto.toNat : Int)) := by
  have h1 : (a.proto.toNat : Int) ≠ (b.proto.toNat : Int) := fun e => h (UInt8.toNat_inj.1 (by omega))
  unfold flLt flC
  rw [lexC_ne (by rw [Ne, ci_zero]; exact h1)]
  exact decide_eq_decide.2 ci_lt
theorem flLt2 {a b : Fl} (h : a.proto = b.proto) (h2 : a.src ≠ b.src) : flLt a b = adrLt a.src b.src := by
  unfold flLt flC
  rw [lexC_zero (by rw [ci_zero, h]), lexC_ne (x := a) (y := b) (f := fun a b : Fl => adrC a.src b.src) (adr_ne h2), adrLt_d]
theorem flLt3 {a b : Fl} (h : a.proto = b.proto) (h2 : a.src = b.src) (h3 : a.dst ≠ b.dst) : flLt a b = adrLt a.dst b.dst := by
  unfold flLt flC
  rw [lexC_zero (by rw [ci_zero, h]), lexC_zero (by rw [h2]; exact adr_refl), lexC_ne (x := a) (y := b) (f := fun a b : Fl => adrC a.dst b.dst) (adr_ne h3), adrLt_d]
theorem flLt4 {a b : Fl} (h : a.proto = b.proto) (h2 : a.src = b.src) (h3 : a.dst = b.dst) (h4 : (a.sp : Int) ≠ (b.sp : Int)) : flLt a b = decide ((a.sp : Int) < (b.sp : Int)) := by
  unfold flLt flC
  rw [lexC_zero (by rw [ci_zero, h]), lexC_zero (by rw [h2]; exact adr_refl), lexC_zero (by rw [h3]; exact adr_refl), lexC_ne (by rw [Ne, ci_zero]; exact h4)]
  exact decide_eq_decide.2 ci_lt
theorem flLt5 {a b : Fl} (h : a.proto = b.proto) (h2 : a.src = b.src) (h3 : a.dst = b.dst) (h4 : (a.sp : Int) = (b.sp : Int)) : flLt a b = decide ((a.dp : Int) < (b.dp : Int)) := by
  unfold flLt flC
  rw [lexC_zero (by rw [ci_zero, h]), lexC_zero (by rw [h2]; exact adr_refl), lexC_zero (by rw [h3]; exact adr_refl), lexC_zero (by rw [ci_zero, h4])]
  exact decide_eq_decide.2 ci_lt
theorem fl_zero {a b : Fl} (h : flC a b = 0) : a = b := by
  by_cases h1 : a.proto = b.proto
  · by_cases h2 : a.src = b.src
    · by_cases h3 : a.dst = b.dst
      · unfold flC at h
        rw [lexC_zero (by rw [ci_zero, h1]), lexC_zero (by rw [h2]; exact adr_refl), lexC_zero (by rw [h3]; exact adr_refl)] at h
        by_cases h4 : (a.sp : Int) = (b.sp : Int)
        · rw [lexC_zero (by rw [ci_zero, h4]), ci_zero] at h
          obtain ⟨a1, a2, a3, a4, a5⟩ := a
          obtain ⟨b1, b2, b3, b4, b5⟩ := b
          dsimp only at *
          have e1 : a3 = b3 := by omega
          have e2 : a4 = b4 := by omega
          subst h1; subst h2; subst h3; subst e1; subst e2; rfl
        · rw [lexC_ne (by rw [Ne, ci_zero]; exact h4), ci_zero] at h
          exact absurd h h4
      · unfold flC at h
        rw [lexC_zero (by rw [ci_zero, h1]), lexC_zero (by rw [h2]; exact adr_refl), lexC_ne (x := a) (y := b) (f := fun a b : Fl => adrC a.dst b.dst) (adr_ne h3)] at h
        exact absurd h (adr_ne h3)
    · unfold flC at h
      rw [lexC_zero (by rw [ci_zero, h1]), lexC_ne (x := a) (y := b) (f := fun a b : Fl => adrC a.src b.src) (adr_ne h2)] at h
      exact absurd h (adr_ne h2)
  · have h1' : (a.proto.toNat : Int) ≠ (b.proto.toNat : Int) := fun e => h1 (UInt8.toNat_inj.1 (by omega))
    unfold flC at h
    rw [lexC_ne (by rw [Ne, ci_zero]; exact h1'), ci_zero] at h
    exact absurd h h1'
theorem fless_t (a b : Fl) : Triple Try.prog 72 #[ag (flc a), ag (flc b)] [] (RVal (.bool (flLt a b))) := by
  have l1 := a.src.len
  have l2 := a.dst.len
  have l3 := b.src.len
  have l4 := b.dst.len
  have c1 := less_t a.src b.src
  have c2 := less_t a.dst b.dst
  by_cases h1 : a.proto = b.proto
  · have e1 : (!decide ((a.proto.toNat : Int) = (b.proto.toNat : Int))) = false := by rw [h1]; simp
    by_cases h2 : a.src = b.src
    · have e2 : (!decide (a.src = b.src)) = false := by simp [h2]
      by_cases h3 : a.dst = b.dst
      · have e3 : (!decide (a.dst = b.dst)) = false := by simp [h3]
        by_cases h4 : (a.sp : Int) = (b.sp : Int)
        · rw [flLt5 h1 h2 h3 h4]
          have e4 : (!decide ((a.sp : Int) = (b.sp : Int))) = false := by rw [h4]; simp
          refine Triple.enter Try.func72 rfl Try.ntmps72 rfl (fun W => ?_)
          dsimp only [argsF, Nat.reduceAdd]
          repeat' (first
           | refine WPl.nil ?_ | refine WPq.then ?_ | refine WPq.thenR ?_ | refine WPq.thenE ?_ | refine WPq.blockN ?_ | refine WPq.blockR ?_ | refine WPq.blockE ?_ | refine WPq.blockO rfl ?_ | refine WPc.seq ?_ | refine WPc.block ?_ | refine WPc.ret ?_ | refine WPc.exit ?_ | refine WPc.skip ?_ | refine WPc.region ?_
           | (refine isCond ?_; first | refine WPc.cT ?_ | refine WPc.cF ?_ | (refine WPc.cQ (fun hc => ?_) (fun hc => ?_) <;> try exact prA))
           | (refine isD 10 ?_; refine WPl.rdX (ReadR.binE rfl rfl BinR.neq (congrArg Value.bool e1)) ?_)
           | (refine isD 21 ?_; refine WPl.rdX (ReadR.binE rfl rfl BinR.adN (congrArg Value.bool e2)) ?_)
           | (refine isD 32 ?_; refine WPl.rdX (ReadR.binE rfl rfl BinR.adN (congrArg Value.bool e3)) ?_)
           | (refine isD 43 ?_; refine WPl.rdX (ReadR.binE rfl rfl BinR.neq (congrArg Value.bool e4)) ?_)
           | (refine isOp ?_; first | refine WPl.rd ?_ | refine WPl.sk ?_ | refine WPl.rdB ?_)
           | (refine isBx ?_; refine WPl.nw fun g => ?_)
           | (show WPl _ _ _ _ _ _ _ (⟨_, .indexAddr _ _ _, _, _, _, _⟩ :: _) _; refine WPl.rdX (ReadR.indexE rfl rfl hasA (by first | assumption | omega)) ?_)
           | (show WPl _ _ _ _ _ _ _ (⟨_, .fieldAddr _ _ _, _, _, _, _⟩ :: _) _; refine WPl.rdX (ReadR.fieldE rfl hasA (by first | assumption | omega)) ?_)
           | (show WPl _ _ _ _ _ _ _ (⟨_, .load _ _, _, _, _, _⟩ :: _) _; first | refine WPl.rdX (ReadR.loadE rfl hasA (by assumption)) ?_ | refine WPl.rdX (ReadR.loadES (by assumption) (by first | assumption | omega) rfl hasA) ?_)
           | (show WPl _ _ _ _ _ _ _ (⟨_, .slice _ _ _ _ _, _, _, _, _⟩ :: _) _; first | refine WPl.rdX (ReadR.sliceH rfl rfl hasA (by omega)) ?_ | refine WPl.rdX (ReadR.sliceL rfl rfl hasA (by omega)) ?_ | refine WPl.rdX (ReadR.sliceLH rfl rfl rfl hasA (by omega) (by omega)) ?_)
           | (refine WPl.spQ (fun hc => ?_) (fun hc => ?_) <;> try exact prA)
           | fail)
          exact WPq.dV
        · rw [flLt4 h1 h2 h3 h4]
          have e4 : (!decide ((a.sp : Int) = (b.sp : Int))) = true := by simpa using h4
          refine Triple.enter Try.func72 rfl Try.ntmps72 rfl (fun W => ?_)
          dsimp only [argsF, Nat.reduceAdd]
          repeat' (first
           | refine WPl.nil ?_ | refine WPq.then ?_ | refine WPq.thenR ?_ | refine WPq.thenE ?_ | refine WPq.blockN ?_ | refine WPq.blockR ?_ | refine WPq.blockE ?_ | refine WPq.blockO rfl ?_ | refine WPc.seq ?_ | refine WPc.block ?_ | refine WPc.ret ?_ | refine WPc.exit ?_ | refine WPc.skip ?_ | refine WPc.region ?_
           | (refine isCond ?_; first | refine WPc.cT ?_ | refine WPc.cF ?_ | (refine WPc.cQ (fun hc => ?_) (fun hc => ?_) <;> try exact prA))
           | (refine isD 10 ?_; refine WPl.rdX (ReadR.binE rfl rfl BinR.neq (congrArg Value.bool e1)) ?_)
           | (refine isD 21 ?_; refine WPl.rdX (ReadR.binE rfl rfl BinR.adN (congrArg Value.bool e2)) ?_)
           | (refine isD 32 ?_; refine WPl.rdX (ReadR.binE rfl rfl BinR.adN (congrArg Value.bool e3)) ?_)
           | (refine isD 43 ?_; refine WPl.rdX (ReadR.binE rfl rfl BinR.neq (congrArg Value.bool e4)) ?_)
           | (refine isOp ?_; first | refine WPl.rd ?_ | refine WPl.sk ?_ | refine WPl.rdB ?_)
           | (refine isBx ?_; refine WPl.nw fun g => ?_)
           | (show WPl _ _ _ _ _ _ _ (⟨_, .indexAddr _ _ _, _, _, _, _⟩ :: _) _; refine WPl.rdX (ReadR.indexE rfl rfl hasA (by first | assumption | omega)) ?_)
           | (show WPl _ _ _ _ _ _ _ (⟨_, .fieldAddr _ _ _, _, _, _, _⟩ :: _) _; refine WPl.rdX (ReadR.fieldE rfl hasA (by first | assumption | omega)) ?_)
           | (show WPl _ _ _ _ _ _ _ (⟨_, .load _ _, _, _, _, _⟩ :: _) _; first | refine WPl.rdX (ReadR.loadE rfl hasA (by assumption)) ?_ | refine WPl.rdX (ReadR.loadES (by assumption) (by first | assumption | omega) rfl hasA) ?_)
           | (show WPl _ _ _ _ _ _ _ (⟨_, .slice _ _ _ _ _, _, _, _, _⟩ :: _) _; first | refine WPl.rdX (ReadR.sliceH rfl rfl hasA (by omega)) ?_ | refine WPl.rdX (ReadR.sliceL rfl rfl hasA (by omega)) ?_ | refine WPl.rdX (ReadR.sliceLH rfl rfl rfl hasA (by omega) (by omega)) ?_)
           | (refine WPl.spQ (fun hc => ?_) (fun hc => ?_) <;> try exact prA)
           | fail)
          exact WPq.dV
      · rw [flLt3 h1 h2 h3]
        have e3 : (!decide (a.dst = b.dst)) = true := by simp [h3]
        refine Triple.enter Try.func72 rfl Try.ntmps72 rfl (fun W => ?_)
        dsimp only [argsF, Nat.reduceAdd]
        repeat' (first
         | refine WPl.nil ?_ | refine WPq.then ?_ | refine WPq.thenR ?_ | refine WPq.thenE ?_ | refine WPq.blockN ?_ | refine WPq.blockR ?_ | refine WPq.blockE ?_ | refine WPq.blockO rfl ?_ | refine WPc.seq ?_ | refine WPc.block ?_ | refine WPc.ret ?_ | refine WPc.exit ?_ | refine WPc.skip ?_ | refine WPc.region ?_
         | (refine isCond ?_; first | refine WPc.cT ?_ | refine WPc.cF ?_ | (refine WPc.cQ (fun hc => ?_) (fun hc => ?_) <;> try exact prA))
         | (refine isD 10 ?_; refine WPl.rdX (ReadR.binE rfl rfl BinR.neq (congrArg Value.bool e1)) ?_)
         | (refine isD 21 ?_; refine WPl.rdX (ReadR.binE rfl rfl BinR.adN (congrArg Value.bool e2)) ?_)
         | (refine isD 32 ?_; refine WPl.rdX (ReadR.binE rfl rfl BinR.adN (congrArg Value.bool e3)) ?_)
         | (refine isC 37 ?_; refine WPl.cV (c2) ?_)
         | (refine isOp ?_; first | refine WPl.rd ?_ | refine WPl.sk ?_ | refine WPl.rdB ?_)
         | (refine isBx ?_; refine WPl.nw fun g => ?_)
         | (show WPl _ _ _ _ _ _ _ (⟨_, .indexAddr _ _ _, _, _, _, _⟩ :: _) _; refine WPl.rdX (ReadR.indexE rfl rfl hasA (by first | assumption | omega)) ?_)
         | (show WPl _ _ _ _ _ _ _ (⟨_, .fieldAddr _ _ _, _, _, _, _⟩ :: _) _; refine WPl.rdX (ReadR.fieldE rfl hasA (by first | assumption | omega)) ?_)
         | (show WPl _ _ _ _ _ _ _ (⟨_, .load _ _, _, _, _, _⟩ :: _) _; first | refine WPl.rdX (ReadR.loadE rfl hasA (by assumption)) ?_ | refine WPl.rdX (ReadR.loadES (by assumption) (by first | assumption | omega) rfl hasA) ?_)
         | (show WPl _ _ _ _ _ _ _ (⟨_, .slice _ _ _ _ _, _, _, _, _⟩ :: _) _; first | refine WPl.rdX (ReadR.sliceH rfl rfl hasA (by omega)) ?_ | refine WPl.rdX (ReadR.sliceL rfl rfl hasA (by omega)) ?_ | refine WPl.rdX (ReadR.sliceLH rfl rfl rfl hasA (by omega) (by omega)) ?_)
         | (refine WPl.spQ (fun hc => ?_) (fun hc => ?_) <;> try exact prA)
         | fail)
        exact WPq.dV
    · rw [flLt2 h1 h2]
      have e2 : (!decide (a.src = b.src)) = true := by simp [h2]
      refine Triple.enter Try.func72 rfl Try.ntmps72 rfl (fun W => ?_)
      dsimp only [argsF, Nat.reduceAdd]
      repeat' (first
       | refine WPl.nil ?_ | refine WPq.then ?_ | refine WPq.thenR ?_ | refine WPq.thenE ?_ | refine WPq.blockN ?_ | refine WPq.blockR ?_ | refine WPq.blockE ?_ | refine WPq.blockO rfl ?_ | refine WPc.seq ?_ | refine WPc.block ?_ | refine WPc.ret ?_ | refine WPc.exit ?_ | refine WPc.skip ?_ | refine WPc.region ?_
       | (refine isCond ?_; first | refine WPc.cT ?_ | refine WPc.cF ?_ | (refine WPc.cQ (fun hc => ?_) (fun hc => ?_) <;> try exact prA))
       | (refine isD 10 ?_; refine WPl.rdX (ReadR.binE rfl rfl BinR.neq (congrArg Value.bool e1)) ?_)
       | (refine isD 21 ?_; refine WPl.rdX (ReadR.binE rfl rfl BinR.adN (congrArg Value.bool e2)) ?_)
       | (refine isC 26 ?_; refine WPl.cV (c1) ?_)
       | (refine isOp ?_; first | refine WPl.rd ?_ | refine WPl.sk ?_ | refine WPl.rdB ?_)
       | (refine isBx ?_; refine WPl.nw fun g => ?_)
       | (show WPl _ _ _ _ _ _ _ (⟨_, .indexAddr _ _ _, _, _, _, _⟩ :: _) _; refine WPl.rdX (ReadR.indexE rfl rfl hasA (by first | assumption | omega)) ?_)
       | (show WPl _ _ _ _ _ _ _ (⟨_, .fieldAddr _ _ _, _, _, _, _⟩ :: _) _; refine WPl.rdX (ReadR.fieldE rfl hasA (by first | assumption | omega)) ?_)
       | (show WPl _ _ _ _ _ _ _ (⟨_, .load _ _, _, _, _, _⟩ :: _) _; first | refine WPl.rdX (ReadR.loadE rfl hasA (by assumption)) ?_ | refine WPl.rdX (ReadR.loadES (by assumption) (by first | assumption | omega) rfl hasA) ?_)
       | (show WPl _ _ _ _ _ _ _ (⟨_, .slice _ _ _ _ _, _, _, _, _⟩ :: _) _; first | refine WPl.rdX (ReadR.sliceH rfl rfl hasA (by omega)) ?_ | refine WPl.rdX (ReadR.sliceL rfl rfl hasA (by omega)) ?_ | refine WPl.rdX (ReadR.sliceLH rfl rfl rfl hasA (by omega) (by omega)) ?_)
       | (refine WPl.spQ (fun hc => ?_) (fun hc => ?_) <;> try exact prA)
       | fail)
      exact WPq.dV
  · rw [flLt1 h1]
    have h1' : (a.proto.toNat : Int) ≠ (b.proto.toNat : Int) := fun e => h1 (UInt8.toNat_inj.1 (by omega))
    have e1 : (!decide ((a.proto.toNat : Int) = (b.proto.toNat : Int))) = true := by simpa using h1'
    refine Triple.enter Try.func72 rfl Try.ntmps72 rfl (fun W => ?_)
    dsimp only [argsF, Nat.reduceAdd]
    repeat' (first
     | refine WPl.nil ?_ | refine WPq.then ?_ | refine WPq.thenR ?_ | refine WPq.thenE ?_ | refine WPq.blockN ?_ | refine WPq.blockR ?_ | refine WPq.blockE ?_ | refine WPq.blockO rfl ?_ | refine WPc.seq ?_ | refine WPc.block ?_ | refine WPc.ret ?_ | refine WPc.exit ?_ | refine WPc.skip ?_ | refine WPc.region ?_
     | (refine isCond ?_; first | refine WPc.cT ?_ | refine WPc.cF ?_ | (refine WPc.cQ (fun hc => ?_) (fun hc => ?_) <;> try exact prA))
     | (refine isD 10 ?_; refine WPl.rdX (ReadR.binE rfl rfl BinR.neq (congrArg Value.bool e1)) ?_)
     | (refine isOp ?_; first | refine WPl.rd ?_ | refine WPl.sk ?_ | refine WPl.rdB ?_)
     | (refine isBx ?_; refine WPl.nw fun g => ?_)
     | (show WPl _ _ _ _ _ _ _ (⟨_, .indexAddr _ _ _, _, _, _, _⟩ :: _) _; refine WPl.rdX (ReadR.indexE rfl rfl hasA (by first | assumption | omega)) ?_)
     | (show WPl _ _ _ _ _ _ _ (⟨_, .fieldAddr _ _ _, _, _, _, _⟩ :: _) _; refine WPl.rdX (ReadR.fieldE rfl hasA (by first | assumption | omega)) ?_)
     | (show WPl _ _ _ _ _ _ _ (⟨_, .load _ _, _, _, _, _⟩ :: _) _; first | refine WPl.rdX (ReadR.loadE rfl hasA (by assumption)) ?_ | refine WPl.rdX (ReadR.loadES (by assumption) (by first | assumption | omega) rfl hasA) ?_)
     | (show WPl _ _ _ _ _ _ _ (⟨_, .slice _ _ _ _ _, _, _, _, _⟩ :: _) _; first | refine WPl.rdX (ReadR.sliceH rfl rfl hasA (by omega)) ?_ | refine WPl.rdX (ReadR.sliceL rfl rfl hasA (by omega)) ?_ | refine WPl.rdX (ReadR.sliceLH rfl rfl rfl hasA (by omega) (by omega)) ?_)
     | (refine WPl.spQ (fun hc => ?_) (fun hc => ?_) <;> try exact prA)
     | fail)
    exact WPq.dV
end Go.Proofs.Ytncgponcedkihaa
