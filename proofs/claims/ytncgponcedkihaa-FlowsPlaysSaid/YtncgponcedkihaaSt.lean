/- slices.Sort at ints, laid at this program. -/
import Derived.Test.YtncgponcedkihaaSf
import Derived.Test.YtncgponcedkihaaSl
namespace Go.Proofs.Ytncgponcedkihaa
open Go.RowKit
set_option linter.unusedSimpArgs false
set_option linter.unusedVariables false
set_option maxRecDepth 20000
set_option maxHeartbeats 4000000
attribute [local irreducible] WPc WPl WPq ReadR OpT BinR HasS bx rdN rowN Take Takes Prov Triple ResF BuildP Done ag Int.decLt Int.decLe Int.instDecidableEq
theorem bitsLen_t (n : Nat) (hn : n ≤ 18446744073709551615) : Triple Try.prog 90 #[.int .u64 (n : Int)] [] (RVal (.int .i64 (Lib.bitLen n : Nat))) := by
  unfold Triple
  intro w hw ha
  have h := Any.bits_Len Try.bitsLen (n : Int) w (by omega) (by omega)
  rw [Int.toNat_natCast] at h
  refine Calls.mono h ?_
  rintro e w' ⟨rfl, rfl⟩
  exact ⟨_, _, rfl, ⟨rfl, rfl⟩, .nil (Mod.refl _ _)⟩
theorem insSort0_t : Triple Try.prog 114 #[.slice none 0 0, .int .i64 0, .int .i64 0] [] (RVal (resV [])) := by
  refine Triple.enter Try.func114 rfl Try.ntmps114 rfl (fun W => ?_)
  dsimp only [argsF, Nat.reduceAdd]
  repeat' (first
   | refine WPl.nil ?_ | refine WPq.then ?_ | refine WPq.thenR ?_ | refine WPq.thenE ?_ | refine WPq.blockN ?_ | refine WPq.blockR ?_ | refine WPq.blockE ?_ | refine WPq.blockO rfl ?_ | refine WPc.seq ?_ | refine WPc.block ?_ | refine WPc.ret ?_ | refine WPc.exit ?_ | refine WPc.skip ?_ | refine WPc.region ?_
   | (refine isReg 4 ?_; refine WPc.drA [([], [17]), ([], [16]), ([0, 1], [16, 17]), ([0, 1, 2], [16, 17, 18]), ([0, 1, 2, 3], [16, 17, 18, 19, 21, 24, 25, 26, 27, 28]), ([0, 1, 2, 3], [16, 17, 18, 19, 20, 24, 25, 26, 27, 28]), ([0, 1, 2, 3, 4, 5], [16, 17, 18, 19, 20, 21, 24, 25, 26, 27, 28]), ([0, 1, 2, 3, 4, 5, 6], [16, 17, 18, 19, 20, 21, 22, 24, 25, 26, 27, 28]), ([0, 1, 2, 3], [16, 17, 18, 19, 20, 21, 22, 23, 25, 26]), ([0, 1, 2, 3], [16, 17, 18, 19, 20, 21, 22, 23, 24]), ([0, 1, 2, 3, 9], [16, 17, 18, 19, 20, 21, 22, 23, 24, 25]), ([0, 1, 2, 3, 8, 9, 10], [16, 17, 18, 19, 20, 21, 22, 23, 24, 25, 26]), ([0, 1, 2, 3, 8, 9, 10, 11], [16, 17, 18, 19, 20, 21, 22, 23, 24, 25, 26, 27]), ([0, 1, 2, 3, 4, 5, 6, 7, 8, 9, 10, 11, 12], [16, 17, 18, 19, 20, 21, 22, 23, 24, 25, 26, 27, 28]), ([0, 1, 2, 3, 4, 5, 6, 7, 8, 9, 10, 11, 12, 13], [16, 17, 18, 19, 20, 21, 22, 23, 24, 25, 26, 27, 28, 29])] [] (Γx := []) ?_; dsimp only [prev0, List.length_nil, List.length_cons])
   | (refine isReg 6 ?_; refine WPc.drA [([], [34, 35, 36, 37, 38, 39, 40, 41, 42, 43, 44, 45, 46]), ([], [33, 35, 36, 37, 38, 39, 40, 41, 42, 43, 44, 45, 46]), ([], [33, 34, 36, 37, 38, 39, 40, 41, 42, 43, 44, 45, 46, 47]), ([], [33, 34, 35, 38, 39, 40, 41, 42, 43, 44, 45, 46, 47]), ([3], [33, 34, 35, 36, 38, 39, 40, 41, 42, 43, 44, 45, 46, 47]), ([], [33, 34, 35, 36, 37, 39, 40, 43, 44, 45, 46]), ([], [33, 34, 35, 36, 37, 38, 43, 44, 45, 46]), ([6], [33, 34, 35, 36, 37, 38, 39, 43, 44, 45, 46]), ([5, 6, 7], [33, 34, 35, 36, 37, 38, 39, 40, 43, 44, 45, 46]), ([5, 6, 7, 8], [33, 34, 35, 36, 37, 38, 39, 40, 41, 43, 44, 45, 46]), ([], [33, 34, 35, 36, 37, 38, 39, 40, 41, 42, 44]), ([], [33, 34, 35, 36, 37, 38, 39, 40, 41, 42, 43]), ([10, 11], [33, 34, 35, 36, 37, 38, 39, 40, 41, 42, 43, 44]), ([10, 11, 12], [33, 34, 35, 36, 37, 38, 39, 40, 41, 42, 43, 44, 45]), ([0, 1, 5, 6, 7, 8, 9, 10, 11, 12, 13], [33, 34, 35, 36, 37, 38, 39, 40, 41, 42, 43, 44, 45, 46]), ([0, 1, 5, 6, 7, 8, 9, 10, 11, 12, 13, 14], [33, 34, 35, 36, 37, 38, 39, 40, 41, 42, 43, 44, 45, 46, 47]), ([0, 1, 2, 3, 4, 5, 6, 7, 8, 9, 10, 11, 12, 13, 14, 15], [33, 34, 35, 36, 37, 38, 39, 40, 41, 42, 43, 44, 45, 46, 47]), ([0, 1, 2, 3, 4, 5, 6, 7, 8, 9, 10, 11, 12, 13, 14, 15, 16], [33, 34, 35, 36, 37, 38, 39, 40, 41, 42, 43, 44, 45, 46, 47, 48])] [] (Γx := []) ?_; dsimp only [prev0, List.length_nil, List.length_cons])
   | (refine gAny ?_; first | (refine gGd ?_; refine RGl.skp ?_) | (refine gOp ?_; first | refine RGl.rdA ?_ | refine RGl.rdX (fun e hk => by (try dsimp only [bndR, ensR, oksR, fcutR, List.append_nil, List.nil_append, List.cons_append, List.append_assoc] at hk ⊢); exact readB) ?_) | (refine gSt ?_; refine RGl.stA ?_) | (refine RGl.fin (fun e hk => ?_); (try dsimp only [bndA, ensAR, oksA, List.append_nil, List.nil_append, List.cons_append, List.append_assoc] at hk ⊢); (repeat (obtain ⟨hk1, hk⟩ := hk))) | fail)
   | (refine isCond ?_; first | refine WPc.cT ?_ | refine WPc.cF ?_ | (refine WPc.cQ (fun hc => ?_) (fun hc => ?_) <;> try exact prA))
   | (refine isOp ?_; first | refine WPl.rd ?_ | refine WPl.sk ?_ | refine WPl.rdB ?_)
   | (refine isSt ?_; first | refine WPl.st1 ?_ | refine WPl.stA ?_ | refine WPl.stEB ?_ | refine WPl.stRB ?_)
   | (show WPl _ _ _ _ _ _ _ (⟨_, .indexAddr _ _ _, _, _, _, _⟩ :: _) _; refine WPl.rdX (ReadR.indexE rfl rfl hasA (by first | assumption | omega)) ?_)
   | (show WPl _ _ _ _ _ _ _ (⟨_, .fieldAddr _ _ _, _, _, _, _⟩ :: _) _; refine WPl.rdX (ReadR.fieldE rfl hasA (by first | assumption | omega)) ?_)
   | (show WPl _ _ _ _ _ _ _ (⟨_, .load _ _, _, _, _, _⟩ :: _) _; first | refine WPl.rdX (ReadR.loadE rfl hasA (by assumption)) ?_ | refine WPl.rdX (ReadR.loadES (by assumption) (by first | assumption | omega) rfl hasA) ?_)
   | (show WPl _ _ _ _ _ _ _ (⟨_, .slice _ _ _ _ _, _, _, _, _⟩ :: _) _; first | refine WPl.rdX (ReadR.sliceH rfl rfl hasA (by omega)) ?_ | refine WPl.rdX (ReadR.sliceL rfl rfl hasA (by omega)) ?_ | refine WPl.rdX (ReadR.sliceLH rfl rfl rfl hasA (by omega) (by omega)) ?_)
   | (refine WPl.spQ (fun hc => ?_) (fun hc => ?_) <;> try exact prA)
   | fail)
  first | refine WPc.loop (σ := Unit) (fun st => True) (fun st => []) (fun st => [(0, .slice none 0 0), (1, .int .i64 0), (2, .int .i64 0), (6, .int .i64 1)]) (fun st => 0) (()) ?_ takesA frsA (fun st km hx hk => ?_)
  · trivial
  repeat' (first
   | refine WPl.nil ?_ | refine WPq.then ?_ | refine WPq.thenR ?_ | refine WPq.thenE ?_ | refine WPq.blockN ?_ | refine WPq.blockR ?_ | refine WPq.blockE ?_ | refine WPq.blockO rfl ?_ | refine WPc.seq ?_ | refine WPc.block ?_ | refine WPc.ret ?_ | refine WPc.exit ?_ | refine WPc.skip ?_ | refine WPc.region ?_
   | (refine isReg 4 ?_; refine WPc.drA [([], [17]), ([], [16]), ([0, 1], [16, 17]), ([0, 1, 2], [16, 17, 18]), ([0, 1, 2, 3], [16, 17, 18, 19, 21, 24, 25, 26, 27, 28]), ([0, 1, 2, 3], [16, 17, 18, 19, 20, 24, 25, 26, 27, 28]), ([0, 1, 2, 3, 4, 5], [16, 17, 18, 19, 20, 21, 24, 25, 26, 27, 28]), ([0, 1, 2, 3, 4, 5, 6], [16, 17, 18, 19, 20, 21, 22, 24, 25, 26, 27, 28]), ([0, 1, 2, 3], [16, 17, 18, 19, 20, 21, 22, 23, 25, 26]), ([0, 1, 2, 3], [16, 17, 18, 19, 20, 21, 22, 23, 24]), ([0, 1, 2, 3, 9], [16, 17, 18, 19, 20, 21, 22, 23, 24, 25]), ([0, 1, 2, 3, 8, 9, 10], [16, 17, 18, 19, 20, 21, 22, 23, 24, 25, 26]), ([0, 1, 2, 3, 8, 9, 10, 11], [16, 17, 18, 19, 20, 21, 22, 23, 24, 25, 26, 27]), ([0, 1, 2, 3, 4, 5, 6, 7, 8, 9, 10, 11, 12], [16, 17, 18, 19, 20, 21, 22, 23, 24, 25, 26, 27, 28]), ([0, 1, 2, 3, 4, 5, 6, 7, 8, 9, 10, 11, 12, 13], [16, 17, 18, 19, 20, 21, 22, 23, 24, 25, 26, 27, 28, 29])] [] (Γx := []) ?_; dsimp only [prev0, List.length_nil, List.length_cons])
   | (refine isReg 6 ?_; refine WPc.drA [([], [34, 35, 36, 37, 38, 39, 40, 41, 42, 43, 44, 45, 46]), ([], [33, 35, 36, 37, 38, 39, 40, 41, 42, 43, 44, 45, 46]), ([], [33, 34, 36, 37, 38, 39, 40, 41, 42, 43, 44, 45, 46, 47]), ([], [33, 34, 35, 38, 39, 40, 41, 42, 43, 44, 45, 46, 47]), ([3], [33, 34, 35, 36, 38, 39, 40, 41, 42, 43, 44, 45, 46, 47]), ([], [33, 34, 35, 36, 37, 39, 40, 43, 44, 45, 46]), ([], [33, 34, 35, 36, 37, 38, 43, 44, 45, 46]), ([6], [33, 34, 35, 36, 37, 38, 39, 43, 44, 45, 46]), ([5, 6, 7], [33, 34, 35, 36, 37, 38, 39, 40, 43, 44, 45, 46]), ([5, 6, 7, 8], [33, 34, 35, 36, 37, 38, 39, 40, 41, 43, 44, 45, 46]), ([], [33, 34, 35, 36, 37, 38, 39, 40, 41, 42, 44]), ([], [33, 34, 35, 36, 37, 38, 39, 40, 41, 42, 43]), ([10, 11], [33, 34, 35, 36, 37, 38, 39, 40, 41, 42, 43, 44]), ([10, 11, 12], [33, 34, 35, 36, 37, 38, 39, 40, 41, 42, 43, 44, 45]), ([0, 1, 5, 6, 7, 8, 9, 10, 11, 12, 13], [33, 34, 35, 36, 37, 38, 39, 40, 41, 42, 43, 44, 45, 46]), ([0, 1, 5, 6, 7, 8, 9, 10, 11, 12, 13, 14], [33, 34, 35, 36, 37, 38, 39, 40, 41, 42, 43, 44, 45, 46, 47]), ([0, 1, 2, 3, 4, 5, 6, 7, 8, 9, 10, 11, 12, 13, 14, 15], [33, 34, 35, 36, 37, 38, 39, 40, 41, 42, 43, 44, 45, 46, 47]), ([0, 1, 2, 3, 4, 5, 6, 7, 8, 9, 10, 11, 12, 13, 14, 15, 16], [33, 34, 35, 36, 37, 38, 39, 40, 41, 42, 43, 44, 45, 46, 47, 48])] [] (Γx := []) ?_; dsimp only [prev0, List.length_nil, List.length_cons])
   | (refine gAny ?_; first | (refine gGd ?_; refine RGl.skp ?_) | (refine gOp ?_; first | refine RGl.rdA ?_ | refine RGl.rdX (fun e hk => by (try dsimp only [bndR, ensR, oksR, fcutR, List.append_nil, List.nil_append, List.cons_append, List.append_assoc] at hk ⊢); exact readB) ?_) | (refine gSt ?_; refine RGl.stA ?_) | (refine RGl.fin (fun e hk => ?_); (try dsimp only [bndA, ensAR, oksA, List.append_nil, List.nil_append, List.cons_append, List.append_assoc] at hk ⊢); (repeat (obtain ⟨hk1, hk⟩ := hk))) | fail)
   | (refine isCond ?_; first | refine WPc.cT ?_ | refine WPc.cF ?_ | (refine WPc.cQ (fun hc => ?_) (fun hc => ?_) <;> try exact prA))
   | (refine isOp ?_; first | refine WPl.rd ?_ | refine WPl.sk ?_ | refine WPl.rdB ?_)
   | (refine isSt ?_; first | refine WPl.st1 ?_ | refine WPl.stA ?_ | refine WPl.stEB ?_ | refine WPl.stRB ?_)
   | (show WPl _ _ _ _ _ _ _ (⟨_, .indexAddr _ _ _, _, _, _, _⟩ :: _) _; refine WPl.rdX (ReadR.indexE rfl rfl hasA (by first | assumption | omega)) ?_)
   | (show WPl _ _ _ _ _ _ _ (⟨_, .fieldAddr _ _ _, _, _, _, _⟩ :: _) _; refine WPl.rdX (ReadR.fieldE rfl hasA (by first | assumption | omega)) ?_)
   | (show WPl _ _ _ _ _ _ _ (⟨_, .load _ _, _, _, _, _⟩ :: _) _; first | refine WPl.rdX (ReadR.loadE rfl hasA (by assumption)) ?_ | refine WPl.rdX (ReadR.loadES (by assumption) (by first | assumption | omega) rfl hasA) ?_)
   | (show WPl _ _ _ _ _ _ _ (⟨_, .slice _ _ _ _ _, _, _, _, _⟩ :: _) _; first | refine WPl.rdX (ReadR.sliceH rfl rfl hasA (by omega)) ?_ | refine WPl.rdX (ReadR.sliceL rfl rfl hasA (by omega)) ?_ | refine WPl.rdX (ReadR.sliceLH rfl rfl rfl hasA (by omega) (by omega)) ?_)
   | (refine WPl.spQ (fun hc => ?_) (fun hc => ?_) <;> try exact prA)
   | fail)
  all_goals try (first | exact WPq.dTp | exact WPq.dTs | exact WPq.dV | exact WPq.dR | exact WPq.dR2 | exact WPq.dH | exact WPq.dBH | exact WPq.dT)
theorem pdq0_t (k : Int) : Triple Try.prog 99 #[.slice none 0 0, .int .i64 0, .int .i64 0, .int .i64 k] [] (RVal (resV [])) := by
  have c1 := insSort0_t
  refine Triple.enter Try.func99 rfl Try.ntmps99 rfl (fun W => ?_)
  dsimp only [argsF, Nat.reduceAdd]
  repeat' (first
   | refine WPl.nil ?_ | refine WPq.then ?_ | refine WPq.thenR ?_ | refine WPq.thenE ?_ | refine WPq.blockN ?_ | refine WPq.blockR ?_ | refine WPq.blockE ?_ | refine WPq.blockO rfl ?_ | refine WPc.seq ?_ | refine WPc.block ?_ | refine WPc.ret ?_ | refine WPc.exit ?_ | refine WPc.skip ?_ | refine WPc.region ?_
   | (refine isReg 17 ?_; refine WPc.drA [([], []), ([0], [73]), ([0, 1], [73, 74]), ([0, 1, 2], [73, 74, 75, 77, 78, 81, 82, 83, 84]), ([0, 1, 2], [73, 74, 75, 76, 81, 82, 83, 84]), ([0, 1, 2, 4], [73, 74, 75, 76, 77, 81, 82, 83, 84]), ([0, 1, 2, 3, 4, 5], [73, 74, 75, 76, 77, 78, 81, 82, 83, 84]), ([0, 1, 2, 3, 4, 5, 6], [73, 74, 75, 76, 77, 78, 79, 81, 82, 83, 84]), ([0, 1, 2], [73, 74, 75, 76, 77, 78, 79, 80, 82]), ([0, 1, 2], [73, 74, 75, 76, 77, 78, 79, 80, 81]), ([0, 1, 2, 8, 9], [73, 74, 75, 76, 77, 78, 79, 80, 81, 82]), ([0, 1, 2, 8, 9, 10], [73, 74, 75, 76, 77, 78, 79, 80, 81, 82, 83]), ([0, 1, 2, 3, 4, 5, 6, 7, 8, 9, 10, 11], [73, 74, 75, 76, 77, 78, 79, 80, 81, 82, 83, 84]), ([0, 1, 2, 3, 4, 5, 6, 7, 8, 9, 10, 11, 12], [73, 74, 75, 76, 77, 78, 79, 80, 81, 82, 83, 84, 85]), ([0, 1, 2, 3, 4, 5, 6, 7, 8, 9, 10, 11, 12, 13], [73, 74, 75, 76, 77, 78, 79, 80, 81, 82, 83, 84, 85, 86])] [] (Γx := []) ?_; dsimp only [prev0, List.length_nil, List.length_cons])
   | (refine gAny ?_; first | (refine gGd ?_; refine RGl.skp ?_) | (refine gOp ?_; first | refine RGl.rdA ?_ | refine RGl.rdX (fun e hk => by (try dsimp only [bndR, ensR, oksR, fcutR, List.append_nil, List.nil_append, List.cons_append, List.append_assoc] at hk ⊢); exact readB) ?_) | (refine RGl.fin (fun e hk => ?_); (try dsimp only [bndA, ensAR, oksA, List.append_nil, List.nil_append, List.cons_append, List.append_assoc] at hk ⊢); (repeat (obtain ⟨hk1, hk⟩ := hk))) | fail)
   | (refine isCond ?_; first | refine WPc.cT ?_ | refine WPc.cF ?_ | (refine WPc.cQ (fun hc => ?_) (fun hc => ?_) <;> try exact prA))
   | (refine isOp ?_; first | refine WPl.rd ?_ | refine WPl.sk ?_ | refine WPl.rdB ?_)
   | (show WPl _ _ _ _ _ _ _ (⟨_, .indexAddr _ _ _, _, _, _, _⟩ :: _) _; refine WPl.rdX (ReadR.indexE rfl rfl hasA (by first | assumption | omega)) ?_)
   | (show WPl _ _ _ _ _ _ _ (⟨_, .fieldAddr _ _ _, _, _, _, _⟩ :: _) _; refine WPl.rdX (ReadR.fieldE rfl hasA (by first | assumption | omega)) ?_)
   | (show WPl _ _ _ _ _ _ _ (⟨_, .load _ _, _, _, _, _⟩ :: _) _; first | refine WPl.rdX (ReadR.loadE rfl hasA (by assumption)) ?_ | refine WPl.rdX (ReadR.loadES (by assumption) (by first | assumption | omega) rfl hasA) ?_)
   | (show WPl _ _ _ _ _ _ _ (⟨_, .slice _ _ _ _ _, _, _, _, _⟩ :: _) _; first | refine WPl.rdX (ReadR.sliceH rfl rfl hasA (by omega)) ?_ | refine WPl.rdX (ReadR.sliceL rfl rfl hasA (by omega)) ?_ | refine WPl.rdX (ReadR.sliceLH rfl rfl rfl hasA (by omega) (by omega)) ?_)
   | (refine WPl.spQ (fun hc => ?_) (fun hc => ?_) <;> try exact prA)
   | fail)
  first | refine WPc.loop (σ := Unit) (fun st => True) (fun st => []) (fun st => [(0, .slice none 0 0), (1, .int .i64 0), (2, .int .i64 0)]) (fun st => 0) (()) ?_ takesA frsA (fun st km hx hk => ?_)
  · trivial
  repeat' (first
   | refine WPl.nil ?_ | refine WPq.then ?_ | refine WPq.thenR ?_ | refine WPq.thenE ?_ | refine WPq.blockN ?_ | refine WPq.blockR ?_ | refine WPq.blockE ?_ | refine WPq.blockO rfl ?_ | refine WPc.seq ?_ | refine WPc.block ?_ | refine WPc.ret ?_ | refine WPc.exit ?_ | refine WPc.skip ?_ | refine WPc.region ?_
   | (refine isReg 17 ?_; refine WPc.drA [([], []), ([0], [73]), ([0, 1], [73, 74]), ([0, 1, 2], [73, 74, 75, 77, 78, 81, 82, 83, 84]), ([0, 1, 2], [73, 74, 75, 76, 81, 82, 83, 84]), ([0, 1, 2, 4], [73, 74, 75, 76, 77, 81, 82, 83, 84]), ([0, 1, 2, 3, 4, 5], [73, 74, 75, 76, 77, 78, 81, 82, 83, 84]), ([0, 1, 2, 3, 4, 5, 6], [73, 74, 75, 76, 77, 78, 79, 81, 82, 83, 84]), ([0, 1, 2], [73, 74, 75, 76, 77, 78, 79, 80, 82]), ([0, 1, 2], [73, 74, 75, 76, 77, 78, 79, 80, 81]), ([0, 1, 2, 8, 9], [73, 74, 75, 76, 77, 78, 79, 80, 81, 82]), ([0, 1, 2, 8, 9, 10], [73, 74, 75, 76, 77, 78, 79, 80, 81, 82, 83]), ([0, 1, 2, 3, 4, 5, 6, 7, 8, 9, 10, 11], [73, 74, 75, 76, 77, 78, 79, 80, 81, 82, 83, 84]), ([0, 1, 2, 3, 4, 5, 6, 7, 8, 9, 10, 11, 12], [73, 74, 75, 76, 77, 78, 79, 80, 81, 82, 83, 84, 85]), ([0, 1, 2, 3, 4, 5, 6, 7, 8, 9, 10, 11, 12, 13], [73, 74, 75, 76, 77, 78, 79, 80, 81, 82, 83, 84, 85, 86])] [] (Γx := []) ?_; dsimp only [prev0, List.length_nil, List.length_cons])
   | (refine gAny ?_; first | (refine gGd ?_; refine RGl.skp ?_) | (refine gC 27 ?_; refine RGl.vl (fun e hk => OpT.callN (c1)) ?_) | (refine gOp ?_; first | refine RGl.rdA ?_ | refine RGl.rdX (fun e hk => by (try dsimp only [bndR, ensR, oksR, fcutR, List.append_nil, List.nil_append, List.cons_append, List.append_assoc] at hk ⊢); exact readB) ?_) | (refine RGl.fin (fun e hk => ?_); (try dsimp only [bndA, ensAR, oksA, List.append_nil, List.nil_append, List.cons_append, List.append_assoc] at hk ⊢); (repeat (obtain ⟨hk1, hk⟩ := hk))) | fail)
   | (refine isCond ?_; first | refine WPc.cT ?_ | refine WPc.cF ?_ | (refine WPc.cQ (fun hc => ?_) (fun hc => ?_) <;> try exact prA))
   | (refine isC 27 ?_; refine WPl.cV (c1) ?_)
   | (refine isOp ?_; first | refine WPl.rd ?_ | refine WPl.sk ?_ | refine WPl.rdB ?_)
   | (show WPl _ _ _ _ _ _ _ (⟨_, .indexAddr _ _ _, _, _, _, _⟩ :: _) _; refine WPl.rdX (ReadR.indexE rfl rfl hasA (by first | assumption | omega)) ?_)
   | (show WPl _ _ _ _ _ _ _ (⟨_, .fieldAddr _ _ _, _, _, _, _⟩ :: _) _; refine WPl.rdX (ReadR.fieldE rfl hasA (by first | assumption | omega)) ?_)
   | (show WPl _ _ _ _ _ _ _ (⟨_, .load _ _, _, _, _, _⟩ :: _) _; first | refine WPl.rdX (ReadR.loadE rfl hasA (by assumption)) ?_ | refine WPl.rdX (ReadR.loadES (by assumption) (by first | assumption | omega) rfl hasA) ?_)
   | (show WPl _ _ _ _ _ _ _ (⟨_, .slice _ _ _ _ _, _, _, _, _⟩ :: _) _; first | refine WPl.rdX (ReadR.sliceH rfl rfl hasA (by omega)) ?_ | refine WPl.rdX (ReadR.sliceL rfl rfl hasA (by omega)) ?_ | refine WPl.rdX (ReadR.sliceLH rfl rfl rfl hasA (by omega) (by omega)) ?_)
   | (refine WPl.spQ (fun hc => ?_) (fun hc => ?_) <;> try exact prA)
   | fail)
  all_goals try (first | exact WPq.dTp | exact WPq.dTs | exact WPq.dV | exact WPq.dR | exact WPq.dR2 | exact WPq.dH | exact WPq.dBH | exact WPq.dT)
theorem sort0_t : Triple Try.prog 84 #[.slice none 0 0] [] (RVal (resV [])) := by
  have c1 := bitsLen_t 0 (by omega)
  have c2 := pdq0_t (Lib.bitLen 0 : Nat)
  refine Triple.enter Try.func84 rfl Try.ntmps84 rfl (fun W => ?_)
  dsimp only [argsF, Nat.reduceAdd]
  repeat' (first
   | refine WPl.nil ?_ | refine WPq.then ?_ | refine WPq.thenR ?_ | refine WPq.thenE ?_ | refine WPq.blockN ?_ | refine WPq.blockR ?_ | refine WPq.blockE ?_ | refine WPq.blockO rfl ?_ | refine WPc.seq ?_ | refine WPc.block ?_ | refine WPc.ret ?_ | refine WPc.exit ?_ | refine WPc.skip ?_ | refine WPc.region ?_
   | (refine isCond ?_; first | refine WPc.cT ?_ | refine WPc.cF ?_ | (refine WPc.cQ (fun hc => ?_) (fun hc => ?_) <;> try exact prA))
   | (refine isC 9 ?_; refine WPl.cV (c1) ?_)
   | (refine isC 10 ?_; refine WPl.cV (c2) ?_)
   | (refine isOp ?_; first | refine WPl.rd ?_ | refine WPl.sk ?_ | refine WPl.rdB ?_)
   | (show WPl _ _ _ _ _ _ _ (⟨_, .indexAddr _ _ _, _, _, _, _⟩ :: _) _; refine WPl.rdX (ReadR.indexE rfl rfl hasA (by first | assumption | omega)) ?_)
   | (show WPl _ _ _ _ _ _ _ (⟨_, .fieldAddr _ _ _, _, _, _, _⟩ :: _) _; refine WPl.rdX (ReadR.fieldE rfl hasA (by first | assumption | omega)) ?_)
   | (show WPl _ _ _ _ _ _ _ (⟨_, .load _ _, _, _, _, _⟩ :: _) _; first | refine WPl.rdX (ReadR.loadE rfl hasA (by assumption)) ?_ | refine WPl.rdX (ReadR.loadES (by assumption) (by first | assumption | omega) rfl hasA) ?_)
   | (show WPl _ _ _ _ _ _ _ (⟨_, .slice _ _ _ _ _, _, _, _, _⟩ :: _) _; first | refine WPl.rdX (ReadR.sliceH rfl rfl hasA (by omega)) ?_ | refine WPl.rdX (ReadR.sliceL rfl rfl hasA (by omega)) ?_ | refine WPl.rdX (ReadR.sliceLH rfl rfl rfl hasA (by omega) (by omega)) ?_)
   | (refine WPl.spQ (fun hc => ?_) (fun hc => ?_) <;> try exact prA)
   | fail)
  all_goals try (first | exact WPq.dTp | exact WPq.dTs | exact WPq.dV | exact WPq.dR | exact WPq.dR2 | exact WPq.dH | exact WPq.dBH | exact WPq.dT)
theorem sortInts_t (v : Value) (l : List Int) (hl : l.length < 4611686018427387904) :
    Triple Try.prog 84 #[v] [rowN 3 1 v l.length (intsV l)] (RTurns (.tuple #[]) [rowN 3 1 v l.length (intsV (l.mergeSort fun x y => decide (x ≤ y)))]) :=
  sortI_t Try.sortI sort0_t v l hl
end Go.Proofs.Ytncgponcedkihaa
