/- Layer 3 (dev): contracts: Write. -/
import Derived.Test.YtepmikgjnmjheaaDx
namespace Go.Proofs.Ytepmikgjnmjheaa
open Go.RowKit
set_option linter.unusedSimpArgs false
set_option linter.unusedVariables false
set_option maxRecDepth 20000
set_option maxHeartbeats 4000000
attribute [local irreducible] WPc WPl WPq ReadR OpT BinR HasS bx rdN rowN Take Takes Prov Triple ResF BuildP Done ag Int.decLt Int.decLe Int.instDecidableEq
attribute [local irreducible] mp rmp rg rgo bag vrow secs mput mget mfind mdel
section
variable (gV mD : Nat) (vd : Value) (fu : List Int) (cn : Int) (ls : List Sec) (es : List (Int × Vs))
theorem writeN_t (i : Int) (bv : Value) :
    Triple Try.prog 13 #[.pointer none, .int .i64 i, bv] [] (RVal (.int .i64 1)) := by
  have c1 := hasN_t i
  refine Triple.enter Try.func13 rfl Try.ntmps13 rfl (fun W => ?_)
  dsimp only [argsF, Nat.reduceAdd]
  repeat' (first
   | refine WPl.nil ?_ | refine WPq.then ?_ | refine WPq.thenR ?_ | refine WPq.thenE ?_ | refine WPq.blockN ?_ | refine WPq.blockR ?_ | refine WPq.blockE ?_ | refine WPq.blockO rfl ?_ | refine WPc.seq ?_ | refine WPc.block ?_ | refine WPc.ret ?_ | refine WPc.exit ?_ | refine WPc.skip ?_ | refine WPc.region ?_
   | (refine isReg 5 ?_; refine WPc.drA [([], [26, 27, 28, 29, 30, 31, 32, 33, 34, 35, 36, 37]), ([0], [22, 26, 27, 28, 29, 30, 31, 32, 33, 34, 35, 36, 37]), ([0, 1], [22, 23, 26, 27, 28, 29, 30, 31, 32, 33, 34, 35, 36, 37]), ([0, 1, 2], [22, 23, 24, 26, 27, 28, 29, 30, 31, 32, 33, 34, 35, 36, 37]), ([], [22, 23, 24, 25, 27, 28, 29, 30, 31, 32, 33, 34, 35, 36, 37]), ([], [22, 23, 24, 25, 26, 31, 33, 34, 35, 36]), ([5], [22, 23, 24, 25, 26, 27, 31, 33, 34, 35, 36]), ([5, 6], [22, 23, 24, 25, 26, 27, 28, 31, 33, 34, 35, 36]), ([5, 6, 7], [22, 23, 24, 25, 26, 27, 28, 29, 31, 33, 34, 35, 36]), ([], [22, 23, 24, 25, 26, 27, 28, 29, 30, 33, 34, 35, 36]), ([5, 6, 7, 8, 9], [22, 23, 24, 25, 26, 27, 28, 29, 30, 31, 33, 34, 35, 36]), ([], [22, 23, 24, 25, 26, 27, 28, 29, 30, 31, 32]), ([11], [22, 23, 24, 25, 26, 27, 28, 29, 30, 31, 32, 33]), ([11, 12], [22, 23, 24, 25, 26, 27, 28, 29, 30, 31, 32, 33, 34]), ([11, 12, 13], [22, 23, 24, 25, 26, 27, 28, 29, 30, 31, 32, 33, 34, 35]), ([5, 6, 7, 8, 9, 10, 11, 12, 13, 14], [22, 23, 24, 25, 26, 27, 28, 29, 30, 31, 32, 33, 34, 35, 36]), ([0, 1, 2, 3, 4, 5, 6, 7, 8, 9, 10, 11, 12, 13, 14, 15], [22, 23, 24, 25, 26, 27, 28, 29, 30, 31, 32, 33, 34, 35, 36, 37])] [] (Γx := []) ?_; dsimp only [prev0, List.length_nil, List.length_cons])
   | (refine gAny ?_; first | (refine gOp ?_; first | refine RGl.rdA ?_ | refine RGl.rdX (fun e hk => by (try dsimp only [bndR, ensR, oksR, fcutR, List.append_nil, List.nil_append, List.cons_append, List.append_assoc] at hk ⊢); exact readB) ?_) | (refine gLit ?_; refine RGl.litA ?_) | (refine gApp ?_; refine RGl.appA ?_) | (refine RGl.fin (fun e hk => ?_); (try dsimp only [bndA, ensAR, oksA, List.append_nil, List.nil_append, List.cons_append, List.append_assoc] at hk ⊢); (repeat (obtain ⟨hk1, hk⟩ := hk))) | fail)
   | (refine isCond ?_; first | refine WPc.cT ?_ | refine WPc.cF ?_ | (refine WPc.cQ (fun hc => ?_) (fun hc => ?_) <;> try exact prA))
   | (refine isC 10 ?_; refine WPl.cV c1 ?_ (hΔ := provsG))
   | (refine isOp ?_; first | refine WPl.rd ?_ | refine WPl.sk ?_ | refine WPl.rdB ?_)
   | (refine isSt ?_; first | refine WPl.st1 ?_ | refine WPl.stA ?_ | refine WPl.stEB ?_ | refine WPl.stRB ?_)
   | (show WPl _ _ _ _ _ _ _ (⟨_, .indexAddr _ _ _, _, _, _, _⟩ :: _) _; refine WPl.rdX (ReadR.indexE rfl rfl hasA (by first | assumption | omega)) ?_)
   | (show WPl _ _ _ _ _ _ _ (⟨_, .fieldAddr _ _ _, _, _, _, _⟩ :: _) _; refine WPl.rdX (ReadR.fieldE rfl hasA (by first | assumption | omega)) ?_)
   | (show WPl _ _ _ _ _ _ _ (⟨_, .load _ _, _, _, _, _⟩ :: _) _; first | refine WPl.rdX (ReadR.loadE rfl hasA (by assumption)) ?_ | refine WPl.rdX (ReadR.loadES (by assumption) (by first | assumption | omega) rfl hasA) ?_)
   | (show WPl _ _ _ _ _ _ _ (⟨_, .slice _ _ _ _ _, _, _, _, _⟩ :: _) _; first | refine WPl.rdX (ReadR.sliceH rfl rfl hasA (by omega)) ?_ | refine WPl.rdX (ReadR.sliceL rfl rfl hasA (by omega)) ?_ | refine WPl.rdX (ReadR.sliceLH rfl rfl rfl hasA (by omega) (by omega)) ?_)
   | (refine WPl.spQ (fun hc => ?_) (fun hc => ?_) <;> try exact prA)
   | fail)
  all_goals exact WPq.dV
theorem writeNo_t (i : Int) (bv : Value) (l : List UInt8) (hi : i < 0 ∨ (ls.length : Int) ≤ i ∨ l.length ≠ 256) (hn : ls.length ≤ 1000000) (hl : l.length ≤ 1000000) :
    Triple Try.prog 13 #[hD gV, .int .i64 i, bv] [rbx gV 79 (dvc fu vd mD cn), rdN vd ls.length (secs ls), rb bv l] (RVal (.int .i64 1)) := by
  have c1 := has_t gV mD vd fu cn i ls hn
  by_cases h : 0 ≤ i ∧ i < (ls.length : Int)
  · rw [show (decide (0 ≤ i) && decide (i < (ls.length : Int))) = true by simp; omega] at c1
    have hl2 : ¬ (l.length : Int) = 256 := by omega
    refine Triple.enter Try.func13 rfl Try.ntmps13 rfl (fun W => ?_)
    dsimp only [argsF, Nat.reduceAdd]
    repeat' (first
     | refine WPl.nil ?_ | refine WPq.then ?_ | refine WPq.thenR ?_ | refine WPq.thenE ?_ | refine WPq.blockN ?_ | refine WPq.blockR ?_ | refine WPq.blockE ?_ | refine WPq.blockO rfl ?_ | refine WPc.seq ?_ | refine WPc.block ?_ | refine WPc.ret ?_ | refine WPc.exit ?_ | refine WPc.skip ?_ | refine WPc.region ?_
     | (refine isReg 5 ?_; refine WPc.drA [([], [26, 27, 28, 29, 30, 31, 32, 33, 34, 35, 36, 37]), ([0], [22, 26, 27, 28, 29, 30, 31, 32, 33, 34, 35, 36, 37]), ([0, 1], [22, 23, 26, 27, 28, 29, 30, 31, 32, 33, 34, 35, 36, 37]), ([0, 1, 2], [22, 23, 24, 26, 27, 28, 29, 30, 31, 32, 33, 34, 35, 36, 37]), ([], [22, 23, 24, 25, 27, 28, 29, 30, 31, 32, 33, 34, 35, 36, 37]), ([], [22, 23, 24, 25, 26, 31, 33, 34, 35, 36]), ([5], [22, 23, 24, 25, 26, 27, 31, 33, 34, 35, 36]), ([5, 6], [22, 23, 24, 25, 26, 27, 28, 31, 33, 34, 35, 36]), ([5, 6, 7], [22, 23, 24, 25, 26, 27, 28, 29, 31, 33, 34, 35, 36]), ([], [22, 23, 24, 25, 26, 27, 28, 29, 30, 33, 34, 35, 36]), ([5, 6, 7, 8, 9], [22, 23, 24, 25, 26, 27, 28, 29, 30, 31, 33, 34, 35, 36]), ([], [22, 23, 24, 25, 26, 27, 28, 29, 30, 31, 32]), ([11], [22, 23, 24, 25, 26, 27, 28, 29, 30, 31, 32, 33]), ([11, 12], [22, 23, 24, 25, 26, 27, 28, 29, 30, 31, 32, 33, 34]), ([11, 12, 13], [22, 23, 24, 25, 26, 27, 28, 29, 30, 31, 32, 33, 34, 35]), ([5, 6, 7, 8, 9, 10, 11, 12, 13, 14], [22, 23, 24, 25, 26, 27, 28, 29, 30, 31, 32, 33, 34, 35, 36]), ([0, 1, 2, 3, 4, 5, 6, 7, 8, 9, 10, 11, 12, 13, 14, 15], [22, 23, 24, 25, 26, 27, 28, 29, 30, 31, 32, 33, 34, 35, 36, 37])] [] (Γx := []) ?_; dsimp only [prev0, List.length_nil, List.length_cons])
     | (refine gAny ?_; first | (refine gOp ?_; first | refine RGl.rdA ?_ | refine RGl.rdX (fun e hk => by (try dsimp only [bndR, ensR, oksR, fcutR, List.append_nil, List.nil_append, List.cons_append, List.append_assoc] at hk ⊢); exact readB) ?_) | (refine gLit ?_; refine RGl.litA ?_) | (refine gApp ?_; refine RGl.appA ?_) | (refine RGl.fin (fun e hk => ?_); (try dsimp only [bndA, ensAR, oksA, List.append_nil, List.nil_append, List.cons_append, List.append_assoc] at hk ⊢); (repeat (obtain ⟨hk1, hk⟩ := hk))) | fail)
     | (refine isCond ?_; first | refine WPc.cT ?_ | refine WPc.cF ?_ | (refine WPc.cQ (fun hc => ?_) (fun hc => ?_) <;> try first | exact prA | (exfalso; first | omega)))
     | (refine isC 10 ?_; refine WPl.cV c1 ?_ (hΔ := provsG))
     | (refine isOp ?_; first | refine WPl.rd ?_ | refine WPl.sk ?_ | refine WPl.rdB ?_)
     | (refine isSt ?_; first | refine WPl.st1 ?_ | refine WPl.stA ?_ | refine WPl.stEB ?_ | refine WPl.stRB ?_)
     | (show WPl _ _ _ _ _ _ _ (⟨_, .indexAddr _ _ _, _, _, _, _⟩ :: _) _; refine WPl.rdX (ReadR.indexE rfl rfl hasA (by first | assumption | omega)) ?_)
     | (show WPl _ _ _ _ _ _ _ (⟨_, .fieldAddr _ _ _, _, _, _, _⟩ :: _) _; refine WPl.rdX (ReadR.fieldE rfl hasA (by first | assumption | omega)) ?_)
     | (show WPl _ _ _ _ _ _ _ (⟨_, .load _ _, _, _, _, _⟩ :: _) _; first | refine WPl.rdX (ReadR.loadE rfl hasA (by assumption)) ?_ | refine WPl.rdX (ReadR.loadES (by assumption) (by first | assumption | omega) rfl hasA) ?_)
     | (show WPl _ _ _ _ _ _ _ (⟨_, .slice _ _ _ _ _, _, _, _, _⟩ :: _) _; first | refine WPl.rdX (ReadR.sliceH rfl rfl hasA (by omega)) ?_ | refine WPl.rdX (ReadR.sliceL rfl rfl hasA (by omega)) ?_ | refine WPl.rdX (ReadR.sliceLH rfl rfl rfl hasA (by omega) (by omega)) ?_)
     | (refine WPl.spQ (fun hc => ?_) (fun hc => ?_) <;> try first | exact prA | (exfalso; first | omega))
     | fail)
    all_goals exact WPq.dV
  · rw [show (decide (0 ≤ i) && decide (i < (ls.length : Int))) = false by simp; omega] at c1
    refine Triple.enter Try.func13 rfl Try.ntmps13 rfl (fun W => ?_)
    dsimp only [argsF, Nat.reduceAdd]
    repeat' (first
     | refine WPl.nil ?_ | refine WPq.then ?_ | refine WPq.thenR ?_ | refine WPq.thenE ?_ | refine WPq.blockN ?_ | refine WPq.blockR ?_ | refine WPq.blockE ?_ | refine WPq.blockO rfl ?_ | refine WPc.seq ?_ | refine WPc.block ?_ | refine WPc.ret ?_ | refine WPc.exit ?_ | refine WPc.skip ?_ | refine WPc.region ?_
     | (refine isReg 5 ?_; refine WPc.drA [([], [26, 27, 28, 29, 30, 31, 32, 33, 34, 35, 36, 37]), ([0], [22, 26, 27, 28, 29, 30, 31, 32, 33, 34, 35, 36, 37]), ([0, 1], [22, 23, 26, 27, 28, 29, 30, 31, 32, 33, 34, 35, 36, 37]), ([0, 1, 2], [22, 23, 24, 26, 27, 28, 29, 30, 31, 32, 33, 34, 35, 36, 37]), ([], [22, 23, 24, 25, 27, 28, 29, 30, 31, 32, 33, 34, 35, 36, 37]), ([], [22, 23, 24, 25, 26, 31, 33, 34, 35, 36]), ([5], [22, 23, 24, 25, 26, 27, 31, 33, 34, 35, 36]), ([5, 6], [22, 23, 24, 25, 26, 27, 28, 31, 33, 34, 35, 36]), ([5, 6, 7], [22, 23, 24, 25, 26, 27, 28, 29, 31, 33, 34, 35, 36]), ([], [22, 23, 24, 25, 26, 27, 28, 29, 30, 33, 34, 35, 36]), ([5, 6, 7, 8, 9], [22, 23, 24, 25, 26, 27, 28, 29, 30, 31, 33, 34, 35, 36]), ([], [22, 23, 24, 25, 26, 27, 28, 29, 30, 31, 32]), ([11], [22, 23, 24, 25, 26, 27, 28, 29, 30, 31, 32, 33]), ([11, 12], [22, 23, 24, 25, 26, 27, 28, 29, 30, 31, 32, 33, 34]), ([11, 12, 13], [22, 23, 24, 25, 26, 27, 28, 29, 30, 31, 32, 33, 34, 35]), ([5, 6, 7, 8, 9, 10, 11, 12, 13, 14], [22, 23, 24, 25, 26, 27, 28, 29, 30, 31, 32, 33, 34, 35, 36]), ([0, 1, 2, 3, 4, 5, 6, 7, 8, 9, 10, 11, 12, 13, 14, 15], [22, 23, 24, 25, 26, 27, 28, 29, 30, 31, 32, 33, 34, 35, 36, 37])] [] (Γx := []) ?_; dsimp only [prev0, List.length_nil, List.length_cons])
     | (refine gAny ?_; first | (refine gOp ?_; first | refine RGl.rdA ?_ | refine RGl.rdX (fun e hk => by (try dsimp only [bndR, ensR, oksR, fcutR, List.append_nil, List.nil_append, List.cons_append, List.append_assoc] at hk ⊢); exact readB) ?_) | (refine gLit ?_; refine RGl.litA ?_) | (refine gApp ?_; refine RGl.appA ?_) | (refine RGl.fin (fun e hk => ?_); (try dsimp only [bndA, ensAR, oksA, List.append_nil, List.nil_append, List.cons_append, List.append_assoc] at hk ⊢); (repeat (obtain ⟨hk1, hk⟩ := hk))) | fail)
     | (refine isCond ?_; first | refine WPc.cT ?_ | refine WPc.cF ?_ | (refine WPc.cQ (fun hc => ?_) (fun hc => ?_) <;> try exact prA))
     | (refine isC 10 ?_; refine WPl.cV c1 ?_ (hΔ := provsG))
     | (refine isOp ?_; first | refine WPl.rd ?_ | refine WPl.sk ?_ | refine WPl.rdB ?_)
     | (refine isSt ?_; first | refine WPl.st1 ?_ | refine WPl.stA ?_ | refine WPl.stEB ?_ | refine WPl.stRB ?_)
     | (show WPl _ _ _ _ _ _ _ (⟨_, .indexAddr _ _ _, _, _, _, _⟩ :: _) _; refine WPl.rdX (ReadR.indexE rfl rfl hasA (by first | assumption | omega)) ?_)
     | (show WPl _ _ _ _ _ _ _ (⟨_, .fieldAddr _ _ _, _, _, _, _⟩ :: _) _; refine WPl.rdX (ReadR.fieldE rfl hasA (by first | assumption | omega)) ?_)
     | (show WPl _ _ _ _ _ _ _ (⟨_, .load _ _, _, _, _, _⟩ :: _) _; first | refine WPl.rdX (ReadR.loadE rfl hasA (by assumption)) ?_ | refine WPl.rdX (ReadR.loadES (by assumption) (by first | assumption | omega) rfl hasA) ?_)
     | (show WPl _ _ _ _ _ _ _ (⟨_, .slice _ _ _ _ _, _, _, _, _⟩ :: _) _; first | refine WPl.rdX (ReadR.sliceH rfl rfl hasA (by omega)) ?_ | refine WPl.rdX (ReadR.sliceL rfl rfl hasA (by omega)) ?_ | refine WPl.rdX (ReadR.sliceLH rfl rfl rfl hasA (by omega) (by omega)) ?_)
     | (refine WPl.spQ (fun hc => ?_) (fun hc => ?_) <;> try exact prA)
     | fail)
    all_goals exact WPq.dV
def RWrite (gV mD : Nat) (vd : Value) (fu : List Int) (ls : List Sec) (es : List (Int × Vs)) (cn : Int) (j : Nat) (ws : List Sec) : Value → List Asn → Prop := fun v Γ => ∃ wv, v = .int .i64 0 ∧ Γ = [bx gV 79 (dvc fu vd mD cn), rowN 81 256 vd ls.length (secs ls), mp secM mD (mput es (j : Int) ⟨wv, ws⟩), bag (mput es (j : Int) ⟨wv, ws⟩)]
theorem writeF_t (j : Nat) (bv : Value) (l : List UInt8) (hj : j < ls.length) (hl : l.length = 256) (hn : ls.length ≤ 1000000) (h4 : fu.length = 4) (ha : fu[2]? = some 0) :
    Triple Try.prog 13 #[hD gV, .int .i64 (j : Int), bv] [(bx gV 79 (dvc fu vd mD cn)), (rowN 81 256 vd (List.length ls) (secs ls)), rb bv l] (RTurns (.int .i64 3) [(bx gV 79 (dvc (fburn fu 2 0) vd mD cn)), (rowN 81 256 vd (List.length ls) (secs ls))]) := by
  have c1 := has_t gV mD vd fu cn (j : Int) ls hn
  rw [show (decide (0 ≤ (j : Int)) && decide ((j : Int) < (ls.length : Int))) = true by simp; omega] at c1
  have c2 := burns_t gV mD vd fu cn 2 0 h4 (by omega) ha (by omega) (by omega)
  rw [show decide ((0 : Int) = 0) = true by simp] at c2
  have hl2 : (l.length : Int) = 256 := by omega
  refine Triple.enter Try.func13 rfl Try.ntmps13 rfl (fun W => ?_)
  dsimp only [argsF, Nat.reduceAdd]
  repeat' (first
   | refine WPl.nil ?_ | refine WPq.then ?_ | refine WPq.thenR ?_ | refine WPq.thenE ?_ | refine WPq.blockN ?_ | refine WPq.blockR ?_ | refine WPq.blockE ?_ | refine WPq.blockO rfl ?_ | refine WPc.seq ?_ | refine WPc.block ?_ | refine WPc.ret ?_ | refine WPc.exit ?_ | refine WPc.skip ?_ | refine WPc.region ?_
   | (refine isReg 5 ?_; refine WPc.drA [([], [26, 27, 28, 29, 30, 31, 32, 33, 34, 35, 36, 37]), ([0], [22, 26, 27, 28, 29, 30, 31, 32, 33, 34, 35, 36, 37]), ([0, 1], [22, 23, 26, 27, 28, 29, 30, 31, 32, 33, 34, 35, 36, 37]), ([0, 1, 2], [22, 23, 24, 26, 27, 28, 29, 30, 31, 32, 33, 34, 35, 36, 37]), ([], [22, 23, 24, 25, 27, 28, 29, 30, 31, 32, 33, 34, 35, 36, 37]), ([], [22, 23, 24, 25, 26, 31, 33, 34, 35, 36]), ([5], [22, 23, 24, 25, 26, 27, 31, 33, 34, 35, 36]), ([5, 6], [22, 23, 24, 25, 26, 27, 28, 31, 33, 34, 35, 36]), ([5, 6, 7], [22, 23, 24, 25, 26, 27, 28, 29, 31, 33, 34, 35, 36]), ([], [22, 23, 24, 25, 26, 27, 28, 29, 30, 33, 34, 35, 36]), ([5, 6, 7, 8, 9], [22, 23, 24, 25, 26, 27, 28, 29, 30, 31, 33, 34, 35, 36]), ([], [22, 23, 24, 25, 26, 27, 28, 29, 30, 31, 32]), ([11], [22, 23, 24, 25, 26, 27, 28, 29, 30, 31, 32, 33]), ([11, 12], [22, 23, 24, 25, 26, 27, 28, 29, 30, 31, 32, 33, 34]), ([11, 12, 13], [22, 23, 24, 25, 26, 27, 28, 29, 30, 31, 32, 33, 34, 35]), ([5, 6, 7, 8, 9, 10, 11, 12, 13, 14], [22, 23, 24, 25, 26, 27, 28, 29, 30, 31, 32, 33, 34, 35, 36]), ([0, 1, 2, 3, 4, 5, 6, 7, 8, 9, 10, 11, 12, 13, 14, 15], [22, 23, 24, 25, 26, 27, 28, 29, 30, 31, 32, 33, 34, 35, 36, 37])] [] (Γx := []) ?_; dsimp only [prev0, List.length_nil, List.length_cons])
   | (refine gAny ?_; first | (refine gC 21 ?_; refine RGl.turns (fun e hk => by (try dsimp only [bndR, ensR, oksR, fcutR, List.append_nil, List.nil_append, List.cons_append, List.append_assoc] at hk ⊢); exact OpT.callTs (c2)) ?_) | (refine gOp ?_; first | refine RGl.rdA ?_ | refine RGl.rdX (fun e hk => by (try dsimp only [bndR, ensR, oksR, fcutR, List.append_nil, List.nil_append, List.cons_append, List.append_assoc] at hk ⊢); exact readB) ?_) | (refine gLit ?_; refine RGl.litA ?_) | (refine gApp ?_; refine RGl.appA ?_) | (refine RGl.fin (fun e hk => ?_); (try dsimp only [bndA, ensAR, oksA, List.append_nil, List.nil_append, List.cons_append, List.append_assoc] at hk ⊢); (repeat (obtain ⟨hk1, hk⟩ := hk))) | fail)
   | (refine isCond ?_; first | refine WPc.cT ?_ | refine WPc.cF ?_ | (refine WPc.cQ (fun hc => ?_) (fun hc => ?_) <;> try first | exact prA | (exfalso; first | omega)))
   | (refine isC 10 ?_; refine WPl.cV c1 ?_ (hΔ := provsG))
   | (refine isC 21 ?_; refine WPl.cTs (c2) ?_; (try dsimp only [putF, List.cons_append, List.nil_append]))
   | (refine isOp ?_; first | refine WPl.rd ?_ | refine WPl.sk ?_ | refine WPl.rdB ?_)
   | (refine isSt ?_; first | refine WPl.st1 ?_ | refine WPl.stA ?_ | refine WPl.stEB ?_ | refine WPl.stRB ?_)
   | (show WPl _ _ _ _ _ _ _ (⟨_, .indexAddr _ _ _, _, _, _, _⟩ :: _) _; refine WPl.rdX (ReadR.indexE rfl rfl hasA (by first | assumption | omega)) ?_)
   | (show WPl _ _ _ _ _ _ _ (⟨_, .fieldAddr _ _ _, _, _, _, _⟩ :: _) _; refine WPl.rdX (ReadR.fieldE rfl hasA (by first | assumption | omega)) ?_)
   | (show WPl _ _ _ _ _ _ _ (⟨_, .load _ _, _, _, _, _⟩ :: _) _; first | refine WPl.rdX (ReadR.loadE rfl hasA (by assumption)) ?_ | refine WPl.rdX (ReadR.loadES (by assumption) (by first | assumption | omega) rfl hasA) ?_)
   | (show WPl _ _ _ _ _ _ _ (⟨_, .slice _ _ _ _ _, _, _, _, _⟩ :: _) _; first | refine WPl.rdX (ReadR.sliceH rfl rfl hasA (by omega)) ?_ | refine WPl.rdX (ReadR.sliceL rfl rfl hasA (by omega)) ?_ | refine WPl.rdX (ReadR.sliceLH rfl rfl rfl hasA (by omega) (by omega)) ?_)
   | (refine WPl.spQ (fun hc => ?_) (fun hc => ?_) <;> try first | exact prA | (exfalso; first | omega))
   | fail)
  all_goals exact WPq.dTs
theorem write_t (j : Nat) (a : Int) (bv : Value) (s : Sec) (hj : j < ls.length) (hn : ls.length ≤ 1000000) (h4 : fu.length = 4) (ha : fu[2]? = some a) (hlo : -1 ≤ a) (hhi : a ≤ 9223372036854775807) (h0 : a ≠ 0) (hcn : 0 ≤ cn ∧ cn ≤ 1000000) (hlw : (mget secM es (j : Int)).ws.length ≤ 100000) :
    Triple Try.prog 13 #[hD gV, .int .i64 (j : Int), bv] [(bx gV 79 (dvc fu vd mD cn)), (rowN 81 256 vd (List.length ls) (secs ls)), mp secM mD es, bag es, rb bv s.b] (RWrite gV mD vd (fburn fu 2 a) ls es (cn + 1) j ((mget secM es (j : Int)).ws ++ [s])) := by
  have c1 := has_t gV mD vd fu cn (j : Int) ls hn
  rw [show (decide (0 ≤ (j : Int)) && decide ((j : Int) < (ls.length : Int))) = true by simp; omega] at c1
  have c2 := burns_t gV mD vd fu cn 2 a h4 (by omega) ha hlo hhi
  rw [show decide (a = 0) = false by simpa using h0] at c2
  have hin : in64 (j : Int) := by unfold in64; omega
  have hwf : secM.wf (j : Int) := hin
  have hsb := s.len
  have hl2 : (s.b.length : Int) = 256 := by omega
  obtain ⟨y, hy⟩ : ∃ y, y = mget secM es (j : Int) := ⟨_, rfl⟩
  have hc0 : secM.vc (mget secM es (j : Int)) = y.v := by rw [← hy]; rfl
  rw [← hy] at hlw ⊢
  have hfk : FOk [(256, u8s s.b)] := secC_ok s
  have hone : ∀ u ∈ u8s s.b, u.oneCell' = true := u8s_one _
  refine Triple.enter Try.func13 rfl Try.ntmps13 rfl (fun W => ?_)
  dsimp only [argsF, Nat.reduceAdd]
  refine WPc.vsOut (j : Int) ?_
  rw [← hy]
  repeat' (first
   | refine WPl.nil ?_ | refine WPq.then ?_ | refine WPq.thenR ?_ | refine WPq.thenE ?_ | refine WPq.blockN ?_ | refine WPq.blockR ?_ | refine WPq.blockE ?_ | refine WPq.blockO rfl ?_ | refine WPc.seq ?_ | refine WPc.block ?_ | refine WPc.ret ?_ | refine WPc.exit ?_ | refine WPc.skip ?_ | refine WPc.region ?_
   | (refine isReg 5 ?_; refine WPc.drA [([17, 18], [26, 27, 28, 29, 30, 31, 32, 33, 34, 35, 36, 37]), ([0, 17, 18], [22, 26, 27, 28, 29, 30, 31, 32, 33, 34, 35, 36, 37]), ([0, 1, 17, 18], [22, 23, 26, 27, 28, 29, 30, 31, 32, 33, 34, 35, 36, 37]), ([0, 1, 2, 17, 18], [22, 23, 24, 26, 27, 28, 29, 30, 31, 32, 33, 34, 35, 36, 37]), ([17, 18], [22, 23, 24, 25, 27, 28, 29, 30, 31, 32, 33, 34, 35, 36, 37]), ([17, 18], [22, 23, 24, 25, 26, 31, 33, 34, 35, 36]), ([5, 17, 18], [22, 23, 24, 25, 26, 27, 31, 33, 34, 35, 36]), ([5, 6, 17, 18], [22, 23, 24, 25, 26, 27, 28, 31, 33, 34, 35, 36]), ([5, 6, 7, 17, 18], [22, 23, 24, 25, 26, 27, 28, 29, 31, 33, 34, 35, 36]), ([17, 18], [22, 23, 24, 25, 26, 27, 28, 29, 30, 33, 34, 35, 36]), ([5, 6, 7, 8, 9, 17, 18], [22, 23, 24, 25, 26, 27, 28, 29, 30, 31, 33, 34, 35, 36]), ([17, 18], [22, 23, 24, 25, 26, 27, 28, 29, 30, 31, 32]), ([11, 17, 18], [22, 23, 24, 25, 26, 27, 28, 29, 30, 31, 32, 33]), ([11, 12, 17, 18], [22, 23, 24, 25, 26, 27, 28, 29, 30, 31, 32, 33, 34]), ([11, 12, 13, 17, 18], [22, 23, 24, 25, 26, 27, 28, 29, 30, 31, 32, 33, 34, 35]), ([5, 6, 7, 8, 9, 10, 11, 12, 13, 14, 17, 18], [22, 23, 24, 25, 26, 27, 28, 29, 30, 31, 32, 33, 34, 35, 36]), ([0, 1, 2, 3, 4, 5, 6, 7, 8, 9, 10, 11, 12, 13, 14, 15, 17, 18], [22, 23, 24, 25, 26, 27, 28, 29, 30, 31, 32, 33, 34, 35, 36, 37])] [(17, 15), (18, 16), (17, 5), (17, 6), (17, 7), (17, 8), (17, 9), (17, 10), (17, 11), (17, 12), (17, 13), (17, 14), (18, 0), (18, 1), (18, 2), (18, 3), (18, 4), (18, 5), (18, 6), (18, 7), (18, 8), (18, 9), (18, 10), (18, 11), (18, 12), (18, 13), (18, 14), (18, 15)] (Γx := [rowN 81 256 y.v y.ws.length (secs y.ws), mp secM mD es]) (hox := ownsA) ?_; dsimp only [prev0, List.length_nil, List.length_cons])
   | (refine gAny ?_; first | (refine gC 21 ?_; refine RGl.turns (fun e hk => by (try dsimp only [bndR, ensR, oksR, fcutR, List.append_nil, List.nil_append, List.cons_append, List.append_assoc] at hk ⊢); exact OpT.callTs (c2)) ?_) | (refine gD 36 ?_; refine RGl.row (Γ1 := fun _ => []) (fun e hk => by (try dsimp only [bndR, ensR, oksR, fcutR, List.append_nil, List.nil_append, List.cons_append, List.append_assoc] at hk ⊢); exact OpT.buildS1 (ds := [(256, u8s s.b)]) rfl hfk (by first | assumption | rfl) rfl) ?_) | (refine gD 37 ?_; refine RGl.row (Γ1 := fun e => [rowN 81 256 y.v y.ws.length (secs y.ws)]) (m := fun _ => y.ws.length + 1) (xs := fun _ => secs y.ws ++ u8s s.b) (fun e hk => by (try dsimp only [bndR, ensR, oksR, fcutR, List.append_nil, List.nil_append, List.cons_append, List.append_assoc] at hk ⊢); exact OpT.appendN (m := y.ws.length) (m2 := 1) (xs := secs y.ws) (ys := u8s s.b) rfl rfl takesA (hasA) (by rw [u8s_length, hsb]) hone (by omega)) ?_) | (refine gD 32 ?_; refine RGl.rdX (fun e hk => by (try dsimp only [bndR, ensR, oksR, fcutR, List.append_nil, List.nil_append, List.cons_append, List.append_assoc] at hk ⊢); exact ReadR.look hwf rfl rfl memA hc0) ?_) | (refine gD 34 ?_; refine RGl.rdX (fun e hk => by (try dsimp only [bndR, ensR, oksR, fcutR, List.append_nil, List.nil_append, List.cons_append, List.append_assoc] at hk ⊢); exact ReadR.toArr rfl hasA (by omega) (by omega)) ?_) | (refine gD 35 ?_; refine RGl.rdX (fun e hk => by (try dsimp only [bndR, ensR, oksR, fcutR, List.append_nil, List.nil_append, List.cons_append, List.append_assoc] at hk ⊢); exact ReadR.loadEA0 rfl hasA hsb) ?_) | (refine gOp ?_; (show RGl _ _ _ _ _ _ _ _ (⟨_, .mapUpdate _ _ _ _, _, _, _, _⟩ :: _) _ _; refine RGl.turn (fun e hk => by (try dsimp only [bndR, ensR, oksR, fcutR, List.append_nil, List.nil_append, List.cons_append, List.append_assoc] at hk ⊢); exact OpT.mput (M := secM) (k := (j : Int)) (v := Vs.mk (e 15).1 (y.ws ++ [s])) hwf rfl rfl rfl takesA) ?_)) | (refine gOp ?_; first | refine RGl.rdA ?_ | refine RGl.rdX (fun e hk => by (try dsimp only [bndR, ensR, oksR, fcutR, List.append_nil, List.nil_append, List.cons_append, List.append_assoc] at hk ⊢); exact readB) ?_) | (refine gLit ?_; refine RGl.litA ?_) | (refine gApp ?_; refine RGl.appA ?_) | (refine RGl.fin (fun e hk => ?_); (try dsimp only [bndA, ensAR, oksA, List.append_nil, List.nil_append, List.cons_append, List.append_assoc] at hk ⊢); (repeat (obtain ⟨hk1, hk⟩ := hk))) | fail)
   | (refine isCond ?_; first | refine WPc.cT ?_ | refine WPc.cF ?_ | (refine WPc.cQ (fun hc => ?_) (fun hc => ?_) <;> try first | exact prA | (exfalso; first | omega)))
   | (refine isC 10 ?_; refine WPl.cV c1 ?_ (hΔ := provsG))
   | (refine isC 21 ?_; refine WPl.cTs (c2) ?_; (try dsimp only [putF, List.cons_append, List.nil_append]))
   | (refine isOp ?_; first | refine WPl.rd ?_ | refine WPl.sk ?_ | refine WPl.rdB ?_)
   | (refine isSt ?_; first | refine WPl.st1 ?_ | refine WPl.stA ?_ | refine WPl.stEB ?_ | refine WPl.stRB ?_)
   | (show WPl _ _ _ _ _ _ _ (⟨_, .indexAddr _ _ _, _, _, _, _⟩ :: _) _; refine WPl.rdX (ReadR.indexE rfl rfl hasA (by first | assumption | omega)) ?_)
   | (show WPl _ _ _ _ _ _ _ (⟨_, .fieldAddr _ _ _, _, _, _, _⟩ :: _) _; refine WPl.rdX (ReadR.fieldE rfl hasA (by first | assumption | omega)) ?_)
   | (show WPl _ _ _ _ _ _ _ (⟨_, .load _ _, _, _, _, _⟩ :: _) _; first | refine WPl.rdX (ReadR.loadE rfl hasA (by assumption)) ?_ | refine WPl.rdX (ReadR.loadES (by assumption) (by first | assumption | omega) rfl hasA) ?_)
   | (show WPl _ _ _ _ _ _ _ (⟨_, .slice _ _ _ _ _, _, _, _, _⟩ :: _) _; first | refine WPl.rdX (ReadR.sliceH rfl rfl hasA (by omega)) ?_ | refine WPl.rdX (ReadR.sliceL rfl rfl hasA (by omega)) ?_ | refine WPl.rdX (ReadR.sliceLH rfl rfl rfl hasA (by omega) (by omega)) ?_)
   | (refine WPl.spQ (fun hc => ?_) (fun hc => ?_) <;> try first | exact prA | (exfalso; first | omega))
   | fail)
  have hrow : rowN 81 256 (e 15).1 (Vs.mk (e 15).1 (y.ws ++ [s])).ws.length (secs (Vs.mk (e 15).1 (y.ws ++ [s])).ws) = rowN 81 256 (e 15).1 (y.ws.length + 1) (secs y.ws ++ u8s s.b) := by
    show rowN 81 256 (e 15).1 (y.ws ++ [s]).length (secs (y.ws ++ [s])) = _
    rw [secs_app, secs_1, List.length_append]; rfl
  refine WPq.vsIn (j : Int) ⟨(e 15).1, y.ws ++ [s]⟩ (by rw [hrow]; exact takesA) ?_
  exact WPq.dX (ho := ownsV) (vs := [.int .i64 0]) [bx gV 79 (dvc (fburn fu 2 a) vd mD (cn + 1)), rowN 81 256 vd ls.length (secs ls), mp secM mD (mput es (j : Int) ⟨(e 15).1, y.ws ++ [s]⟩), bag (mput es (j : Int) ⟨(e 15).1, y.ws ++ [s]⟩)] ⟨(e 15).1, rfl, rfl⟩
end
end Go.Proofs.Ytepmikgjnmjheaa
