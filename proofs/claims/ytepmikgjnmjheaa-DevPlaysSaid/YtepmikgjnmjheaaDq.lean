/- Layer 3 (dev): contracts: Crash. -/
import Derived.Test.YtepmikgjnmjheaaDz
namespace Go.Proofs.Ytepmikgjnmjheaa
open Go.RowKit
set_option linter.unusedSimpArgs false
set_option linter.unusedVariables false
set_option maxRecDepth 20000
set_option maxHeartbeats 4000000
attribute [local irreducible] WPc WPl WPq ReadR OpT BinR HasS bx rdN rowN Take Takes Prov Triple ResF BuildP Done ag Int.decLt Int.decLe Int.instDecidableEq
attribute [local irreducible] mp rmp rg rgo bag vrow secs mput mget mfind mdel intsV skeys
def crash1 (es : List (Int × Vs)) (l : List Int) (cur : List Sec) (k : Nat) (i : Int) : List Sec :=
  match l[k]? with
  | none => cur
  | some a => if a ≤ 0 then cur else cur.set i.toNat ((mget secM es i).ws.getD ((min a (mget secM es i).ws.length).toNat - 1) (secF 0))
def crashT (es : List (Int × Vs)) (l keys : List Int) : Nat → List Sec → List Sec
  | 0, ls => ls
  | k + 1, ls => crash1 es l (crashT es l keys k ls) k (keys.getD k 0)
theorem crash1_len {es : List (Int × Vs)} {l : List Int} {cur : List Sec} {k : Nat} {i : Int} : (crash1 es l cur k i).length = cur.length := by
  unfold crash1
  cases l[k]? with
  | none => rfl
  | some a => dsimp only; split <;> simp
theorem crashT_len {es : List (Int × Vs)} {l keys : List Int} {k : Nat} {ls : List Sec} : (crashT es l keys k ls).length = ls.length := by
  induction k with
  | zero => rfl
  | succ k ih => show (crash1 es l (crashT es l keys k ls) k (keys.getD k 0)).length = _; rw [crash1_len, ih]
theorem skeys_len {es : List (Int × Vs)} : (skeys es).length = es.length := by unfold skeys; rw [List.length_mergeSort, List.length_map]
theorem skeys_mem {es : List (Int × Vs)} {i : Int} (h : i ∈ skeys es) : ∃ y ∈ es, y.1 = i := by
  unfold skeys at h
  rw [List.mem_mergeSort] at h
  obtain ⟨y, hy, h⟩ := List.mem_map.1 h
  exact ⟨y, hy, h⟩
section
variable (gV mD : Nat) (vd : Value) (fu : List Int) (cn : Int) (ls : List Sec) (es : List (Int × Vs))
theorem crashN_t (lv : Value) :
    Triple Try.prog 17 #[.pointer none, lv] [] (RVal (resV [])) := by
  refine Triple.enter Try.func17 rfl Try.ntmps17 rfl (fun W => ?_)
  dsimp only [argsF, Nat.reduceAdd]
  repeat' (first
   | refine WPl.nil ?_ | refine WPq.then ?_ | refine WPq.thenR ?_ | refine WPq.thenE ?_ | refine WPq.blockN ?_ | refine WPq.blockR ?_ | refine WPq.blockE ?_ | refine WPq.blockO rfl ?_ | refine WPc.seq ?_ | refine WPc.block ?_ | refine WPc.ret ?_ | refine WPc.exit ?_ | refine WPc.skip ?_ | refine WPc.region ?_
   | (refine isReg 6 ?_; refine WPc.drA [([], [38, 39, 40, 41, 42, 43, 44, 45, 46, 47, 48, 49]), ([0], [34, 38, 39, 40, 41, 42, 43, 44, 45, 46, 47, 48, 49]), ([0, 1], [34, 35, 38, 39, 40, 41, 42, 43, 44, 45, 46, 47, 48, 49]), ([0, 1, 2], [34, 35, 36, 38, 39, 40, 41, 42, 43, 44, 45, 46, 47, 48, 49]), ([], [34, 35, 36, 37, 39, 40, 41, 42, 43, 44, 45, 46, 47, 48, 49]), ([], [34, 35, 36, 37, 38, 40, 41, 42, 43, 44, 45, 46, 47]), ([], [34, 35, 36, 37, 38, 39, 41, 44, 45]), ([], [34, 35, 36, 37, 38, 39, 40, 44, 45]), ([6, 7], [34, 35, 36, 37, 38, 39, 40, 41, 44, 45]), ([6, 7, 8], [34, 35, 36, 37, 38, 39, 40, 41, 42, 44, 45]), ([], [34, 35, 36, 37, 38, 39, 40, 41, 42, 43]), ([10], [34, 35, 36, 37, 38, 39, 40, 41, 42, 43, 44]), ([6, 7, 8, 9, 10, 11], [34, 35, 36, 37, 38, 39, 40, 41, 42, 43, 44, 45]), ([6, 7, 8, 9, 10, 11, 12], [34, 35, 36, 37, 38, 39, 40, 41, 42, 43, 44, 45, 46]), ([5, 6, 7, 8, 9, 10, 11, 12, 13], [34, 35, 36, 37, 38, 39, 40, 41, 42, 43, 44, 45, 46, 47]), ([5, 6, 7, 8, 9, 10, 11, 12, 13, 14], [34, 35, 36, 37, 38, 39, 40, 41, 42, 43, 44, 45, 46, 47, 48]), ([0, 1, 2, 3, 4, 5, 6, 7, 8, 9, 10, 11, 12, 13, 14, 15], [34, 35, 36, 37, 38, 39, 40, 41, 42, 43, 44, 45, 46, 47, 48, 49]), ([0, 1, 2, 3, 4, 5, 6, 7, 8, 9, 10, 11, 12, 13, 14, 15, 16], [34, 35, 36, 37, 38, 39, 40, 41, 42, 43, 44, 45, 46, 47, 48, 49, 50])] [] (Γx := []) ?_; dsimp only [prev0, List.length_nil, List.length_cons])
   | (refine gAny ?_; first | (refine gD 8 ?_; refine RGl.rdX (fun e hk => by (try dsimp only [bndR, ensR, oksR, fcutR, List.append_nil, List.nil_append, List.cons_append, List.append_assoc] at hk ⊢); exact readP) ?_) | (refine gOp ?_; first | refine RGl.rdA ?_ | refine RGl.rdX (fun e hk => by (try dsimp only [bndR, ensR, oksR, fcutR, List.append_nil, List.nil_append, List.cons_append, List.append_assoc] at hk ⊢); exact readB) ?_) | (refine gSt ?_; refine RGl.stA ?_) | (refine RGl.fin (fun e hk => ?_); (try dsimp only [bndA, ensAR, oksA, List.append_nil, List.nil_append, List.cons_append, List.append_assoc] at hk ⊢); (repeat (obtain ⟨hk1, hk⟩ := hk))) | fail)
   | (refine isCond ?_; first | refine WPc.cT ?_ | refine WPc.cF ?_ | (refine WPc.cQ (fun hc => ?_) (fun hc => ?_) <;> try exact prA))
   | (refine isD 8 ?_; refine WPl.rdX (readP) ?_)
   | (refine isOp ?_; first | refine WPl.rd ?_ | refine WPl.sk ?_ | refine WPl.rdB ?_)
   | (refine isSt ?_; first | refine WPl.st1 ?_ | refine WPl.stA ?_ | refine WPl.stEB ?_ | refine WPl.stRB ?_)
   | (show WPl _ _ _ _ _ _ _ (⟨_, .indexAddr _ _ _, _, _, _, _⟩ :: _) _; refine WPl.rdX (ReadR.indexE rfl rfl hasA (by first | assumption | omega)) ?_)
   | (show WPl _ _ _ _ _ _ _ (⟨_, .fieldAddr _ _ _, _, _, _, _⟩ :: _) _; refine WPl.rdX (ReadR.fieldE rfl hasA (by first | assumption | omega)) ?_)
   | (show WPl _ _ _ _ _ _ _ (⟨_, .load _ _, _, _, _, _⟩ :: _) _; first | refine WPl.rdX (ReadR.loadE rfl hasA (by assumption)) ?_ | refine WPl.rdX (ReadR.loadES (by assumption) (by first | assumption | omega) rfl hasA) ?_)
   | (show WPl _ _ _ _ _ _ _ (⟨_, .slice _ _ _ _ _, _, _, _, _⟩ :: _) _; first | refine WPl.rdX (ReadR.sliceH rfl rfl hasA (by omega)) ?_ | refine WPl.rdX (ReadR.sliceL rfl rfl hasA (by omega)) ?_ | refine WPl.rdX (ReadR.sliceLH rfl rfl rfl hasA (by omega) (by omega)) ?_)
   | (refine WPl.spQ (fun hc => ?_) (fun hc => ?_) <;> try exact prA)
   | fail)
  all_goals exact WPq.dV
theorem waitingN_t :
    Triple Try.prog 19 #[.pointer none] [] (RVal (.slice none 0 0)) := by
  refine Triple.enter Try.func19 rfl Try.ntmps19 rfl (fun W => ?_)
  dsimp only [argsF, Nat.reduceAdd]
  repeat' (first
   | refine WPl.nil ?_ | refine WPq.then ?_ | refine WPq.thenR ?_ | refine WPq.thenE ?_ | refine WPq.blockN ?_ | refine WPq.blockR ?_ | refine WPq.blockE ?_ | refine WPq.blockO rfl ?_ | refine WPc.seq ?_ | refine WPc.block ?_ | refine WPc.ret ?_ | refine WPc.exit ?_ | refine WPc.skip ?_ | refine WPc.region ?_
   | (refine isCond ?_; first | refine WPc.cT ?_ | refine WPc.cF ?_ | (refine WPc.cQ (fun hc => ?_) (fun hc => ?_) <;> try exact prA))
   | (refine isD 4 ?_; refine WPl.rdX (readP) ?_)
   | (refine isOp ?_; first | refine WPl.rd ?_ | refine WPl.sk ?_ | refine WPl.rdB ?_)
   | (show WPl _ _ _ _ _ _ _ (⟨_, .indexAddr _ _ _, _, _, _, _⟩ :: _) _; refine WPl.rdX (ReadR.indexE rfl rfl hasA (by first | assumption | omega)) ?_)
   | (show WPl _ _ _ _ _ _ _ (⟨_, .fieldAddr _ _ _, _, _, _, _⟩ :: _) _; refine WPl.rdX (ReadR.fieldE rfl hasA (by first | assumption | omega)) ?_)
   | (show WPl _ _ _ _ _ _ _ (⟨_, .load _ _, _, _, _, _⟩ :: _) _; first | refine WPl.rdX (ReadR.loadE rfl hasA (by assumption)) ?_ | refine WPl.rdX (ReadR.loadES (by assumption) (by first | assumption | omega) rfl hasA) ?_)
   | (show WPl _ _ _ _ _ _ _ (⟨_, .slice _ _ _ _ _, _, _, _, _⟩ :: _) _; first | refine WPl.rdX (ReadR.sliceH rfl rfl hasA (by omega)) ?_ | refine WPl.rdX (ReadR.sliceL rfl rfl hasA (by omega)) ?_ | refine WPl.rdX (ReadR.sliceLH rfl rfl rfl hasA (by omega) (by omega)) ?_)
   | (refine WPl.spQ (fun hc => ?_) (fun hc => ?_) <;> try exact prA)
   | fail)
  all_goals exact WPq.dV
theorem Waiting_t (he : es.length ≤ 1000000) :
    Triple Try.prog 19 #[hD gV] [rbx gV 79 (dvc fu vd mD cn), rmp secM mD es] (RRow 3 1 es.length (intsV (skeys es))) := by
  have c1 := waiting_t gV mD vd fu cn es he
  refine Triple.enter Try.func19 rfl Try.ntmps19 rfl (fun W => ?_)
  dsimp only [argsF, Nat.reduceAdd]
  repeat' (first
   | refine WPl.nil ?_ | refine WPq.then ?_ | refine WPq.thenR ?_ | refine WPq.thenE ?_ | refine WPq.blockN ?_ | refine WPq.blockR ?_ | refine WPq.blockE ?_ | refine WPq.blockO rfl ?_ | refine WPc.seq ?_ | refine WPc.block ?_ | refine WPc.ret ?_ | refine WPc.exit ?_ | refine WPc.skip ?_ | refine WPc.region ?_
   | (refine isCond ?_; first | refine WPc.cT ?_ | refine WPc.cF ?_ | (refine WPc.cQ (fun hc => ?_) (fun hc => ?_) <;> try exact prA))
   | (refine isD 4 ?_; refine WPl.rdX (readP) ?_)
   | (refine isC 6 ?_; refine WPl.cR c1 (fun wv hwv => ?_) (hΔ := provsG))
   | (refine isOp ?_; first | refine WPl.rd ?_ | refine WPl.sk ?_ | refine WPl.rdB ?_)
   | (show WPl _ _ _ _ _ _ _ (⟨_, .indexAddr _ _ _, _, _, _, _⟩ :: _) _; refine WPl.rdX (ReadR.indexE rfl rfl hasA (by first | assumption | omega)) ?_)
   | (show WPl _ _ _ _ _ _ _ (⟨_, .fieldAddr _ _ _, _, _, _, _⟩ :: _) _; refine WPl.rdX (ReadR.fieldE rfl hasA (by first | assumption | omega)) ?_)
   | (show WPl _ _ _ _ _ _ _ (⟨_, .load _ _, _, _, _, _⟩ :: _) _; first | refine WPl.rdX (ReadR.loadE rfl hasA (by assumption)) ?_ | refine WPl.rdX (ReadR.loadES (by assumption) (by first | assumption | omega) rfl hasA) ?_)
   | (show WPl _ _ _ _ _ _ _ (⟨_, .slice _ _ _ _ _, _, _, _, _⟩ :: _) _; first | refine WPl.rdX (ReadR.sliceH rfl rfl hasA (by omega)) ?_ | refine WPl.rdX (ReadR.sliceL rfl rfl hasA (by omega)) ?_ | refine WPl.rdX (ReadR.sliceLH rfl rfl rfl hasA (by omega) (by omega)) ?_)
   | (refine WPl.spQ (fun hc => ?_) (fun hc => ?_) <;> try exact prA)
   | fail)
  all_goals exact WPq.dR
theorem lenN_t :
    Triple Try.prog 20 #[.pointer none] [] (RVal (.int .i64 0)) := by
  refine Triple.enter Try.func20 rfl Try.ntmps20 rfl (fun W => ?_)
  dsimp only [argsF, Nat.reduceAdd]
  repeat' (first
   | refine WPl.nil ?_ | refine WPq.then ?_ | refine WPq.thenR ?_ | refine WPq.thenE ?_ | refine WPq.blockN ?_ | refine WPq.blockR ?_ | refine WPq.blockE ?_ | refine WPq.blockO rfl ?_ | refine WPc.seq ?_ | refine WPc.block ?_ | refine WPc.ret ?_ | refine WPc.exit ?_ | refine WPc.skip ?_ | refine WPc.region ?_
   | (refine isCond ?_; first | refine WPc.cT ?_ | refine WPc.cF ?_ | (refine WPc.cQ (fun hc => ?_) (fun hc => ?_) <;> try exact prA))
   | (refine isD 4 ?_; refine WPl.rdX (readP) ?_)
   | (refine isOp ?_; first | refine WPl.rd ?_ | refine WPl.sk ?_ | refine WPl.rdB ?_)
   | (show WPl _ _ _ _ _ _ _ (⟨_, .indexAddr _ _ _, _, _, _, _⟩ :: _) _; refine WPl.rdX (ReadR.indexE rfl rfl hasA (by first | assumption | omega)) ?_)
   | (show WPl _ _ _ _ _ _ _ (⟨_, .fieldAddr _ _ _, _, _, _, _⟩ :: _) _; refine WPl.rdX (ReadR.fieldE rfl hasA (by first | assumption | omega)) ?_)
   | (show WPl _ _ _ _ _ _ _ (⟨_, .load _ _, _, _, _, _⟩ :: _) _; first | refine WPl.rdX (ReadR.loadE rfl hasA (by assumption)) ?_ | refine WPl.rdX (ReadR.loadES (by assumption) (by first | assumption | omega) rfl hasA) ?_)
   | (show WPl _ _ _ _ _ _ _ (⟨_, .slice _ _ _ _ _, _, _, _, _⟩ :: _) _; first | refine WPl.rdX (ReadR.sliceH rfl rfl hasA (by omega)) ?_ | refine WPl.rdX (ReadR.sliceL rfl rfl hasA (by omega)) ?_ | refine WPl.rdX (ReadR.sliceLH rfl rfl rfl hasA (by omega) (by omega)) ?_)
   | (refine WPl.spQ (fun hc => ?_) (fun hc => ?_) <;> try exact prA)
   | fail)
  all_goals exact WPq.dV
theorem writesN_t :
    Triple Try.prog 25 #[.pointer none] [] (RVal (.int .i64 0)) := by
  refine Triple.enter Try.func25 rfl Try.ntmps25 rfl (fun W => ?_)
  dsimp only [argsF, Nat.reduceAdd]
  repeat' (first
   | refine WPl.nil ?_ | refine WPq.then ?_ | refine WPq.thenR ?_ | refine WPq.thenE ?_ | refine WPq.blockN ?_ | refine WPq.blockR ?_ | refine WPq.blockE ?_ | refine WPq.blockO rfl ?_ | refine WPc.seq ?_ | refine WPc.block ?_ | refine WPc.ret ?_ | refine WPc.exit ?_ | refine WPc.skip ?_ | refine WPc.region ?_
   | (refine isCond ?_; first | refine WPc.cT ?_ | refine WPc.cF ?_ | (refine WPc.cQ (fun hc => ?_) (fun hc => ?_) <;> try exact prA))
   | (refine isD 4 ?_; refine WPl.rdX (readP) ?_)
   | (refine isOp ?_; first | refine WPl.rd ?_ | refine WPl.sk ?_ | refine WPl.rdB ?_)
   | (show WPl _ _ _ _ _ _ _ (⟨_, .indexAddr _ _ _, _, _, _, _⟩ :: _) _; refine WPl.rdX (ReadR.indexE rfl rfl hasA (by first | assumption | omega)) ?_)
   | (show WPl _ _ _ _ _ _ _ (⟨_, .fieldAddr _ _ _, _, _, _, _⟩ :: _) _; refine WPl.rdX (ReadR.fieldE rfl hasA (by first | assumption | omega)) ?_)
   | (show WPl _ _ _ _ _ _ _ (⟨_, .load _ _, _, _, _, _⟩ :: _) _; first | refine WPl.rdX (ReadR.loadE rfl hasA (by assumption)) ?_ | refine WPl.rdX (ReadR.loadES (by assumption) (by first | assumption | omega) rfl hasA) ?_)
   | (show WPl _ _ _ _ _ _ _ (⟨_, .slice _ _ _ _ _, _, _, _, _⟩ :: _) _; first | refine WPl.rdX (ReadR.sliceH rfl rfl hasA (by omega)) ?_ | refine WPl.rdX (ReadR.sliceL rfl rfl hasA (by omega)) ?_ | refine WPl.rdX (ReadR.sliceLH rfl rfl rfl hasA (by omega) (by omega)) ?_)
   | (refine WPl.spQ (fun hc => ?_) (fun hc => ?_) <;> try exact prA)
   | fail)
  all_goals exact WPq.dV
theorem failN_t (what aft : Int) :
    Triple Try.prog 28 #[.pointer none, .int .i64 what, .int .i64 aft] [] (RVal (.int .i64 1)) := by
  refine Triple.enter Try.func28 rfl Try.ntmps28 rfl (fun W => ?_)
  dsimp only [argsF, Nat.reduceAdd]
  repeat' (first
   | refine WPl.nil ?_ | refine WPq.then ?_ | refine WPq.thenR ?_ | refine WPq.thenE ?_ | refine WPq.blockN ?_ | refine WPq.blockR ?_ | refine WPq.blockE ?_ | refine WPq.blockO rfl ?_ | refine WPc.seq ?_ | refine WPc.block ?_ | refine WPc.ret ?_ | refine WPc.exit ?_ | refine WPc.skip ?_ | refine WPc.region ?_
   | (refine isCond ?_; first | refine WPc.cT ?_ | refine WPc.cF ?_ | (refine WPc.cQ (fun hc => ?_) (fun hc => ?_) <;> try exact prA))
   | (refine isD 8 ?_; refine WPl.rdX (readP) ?_)
   | (refine isOp ?_; first | refine WPl.rd ?_ | refine WPl.sk ?_ | refine WPl.rdB ?_)
   | (refine isSt ?_; first | refine WPl.st1 ?_ | refine WPl.stA ?_ | refine WPl.stEB ?_ | refine WPl.stRB ?_)
   | (show WPl _ _ _ _ _ _ _ (⟨_, .indexAddr _ _ _, _, _, _, _⟩ :: _) _; refine WPl.rdX (ReadR.indexE rfl rfl hasA (by first | assumption | omega)) ?_)
   | (show WPl _ _ _ _ _ _ _ (⟨_, .fieldAddr _ _ _, _, _, _, _⟩ :: _) _; refine WPl.rdX (ReadR.fieldE rfl hasA (by first | assumption | omega)) ?_)
   | (show WPl _ _ _ _ _ _ _ (⟨_, .load _ _, _, _, _, _⟩ :: _) _; first | refine WPl.rdX (ReadR.loadE rfl hasA (by assumption)) ?_ | refine WPl.rdX (ReadR.loadES (by assumption) (by first | assumption | omega) rfl hasA) ?_)
   | (show WPl _ _ _ _ _ _ _ (⟨_, .slice _ _ _ _ _, _, _, _, _⟩ :: _) _; first | refine WPl.rdX (ReadR.sliceH rfl rfl hasA (by omega)) ?_ | refine WPl.rdX (ReadR.sliceL rfl rfl hasA (by omega)) ?_ | refine WPl.rdX (ReadR.sliceLH rfl rfl rfl hasA (by omega) (by omega)) ?_)
   | (refine WPl.spQ (fun hc => ?_) (fun hc => ?_) <;> try exact prA)
   | fail)
  all_goals exact WPq.dV
theorem spoilN_t (i at' : Int) (b : UInt8) :
    Triple Try.prog 29 #[.pointer none, .int .i64 i, .int .i64 at', .int .u8 ((b.toNat : Nat) : Int)] [] (RVal (.bool false)) := by
  have c1 := hasN_t i
  refine Triple.enter Try.func29 rfl Try.ntmps29 rfl (fun W => ?_)
  dsimp only [argsF, Nat.reduceAdd]
  repeat' (first
   | refine WPl.nil ?_ | refine WPq.then ?_ | refine WPq.thenR ?_ | refine WPq.thenE ?_ | refine WPq.blockN ?_ | refine WPq.blockR ?_ | refine WPq.blockE ?_ | refine WPq.blockO rfl ?_ | refine WPc.seq ?_ | refine WPc.block ?_ | refine WPc.ret ?_ | refine WPc.exit ?_ | refine WPc.skip ?_ | refine WPc.region ?_
   | (refine isReg 3 ?_; refine WPc.drA [([], [26, 27, 31]), ([0], [22, 26, 27, 31]), ([0, 1], [22, 23, 26, 27, 31]), ([0, 1, 2], [22, 23, 24, 26, 27, 31]), ([], [22, 23, 24, 25, 27, 31]), ([], [22, 23, 24, 25, 26, 28, 31, 33]), ([0, 1, 2, 3, 4], [22, 23, 24, 25, 26, 27, 31, 33]), ([0, 1, 2, 3, 4, 5, 6], [22, 23, 24, 25, 26, 27, 28, 31, 33]), ([0, 1, 2, 3, 4, 5, 6, 7], [22, 23, 24, 25, 26, 27, 28, 29, 31, 33]), ([], [22, 23, 24, 25, 26, 27, 28, 29, 30, 33]), ([0, 1, 2, 3, 4, 5, 6, 7, 8, 9], [22, 23, 24, 25, 26, 27, 28, 29, 30, 31, 33]), ([0, 1, 2, 3, 4], [22, 23, 24, 25, 26, 27, 28, 29, 30, 31, 32]), ([0, 1, 2, 3, 4, 5, 6, 7, 8, 9, 10, 11], [22, 23, 24, 25, 26, 27, 28, 29, 30, 31, 32, 33]), ([0, 1, 2, 3, 4, 5, 6, 7, 8, 9, 10, 11, 12], [22, 23, 24, 25, 26, 27, 28, 29, 30, 31, 32, 33, 34])] [] (Γx := []) ?_; dsimp only [prev0, List.length_nil, List.length_cons])
   | (refine isReg 7 ?_; refine WPc.drA [([], [49, 51, 52, 56]), ([0], [45, 49, 51, 52, 56]), ([0, 1], [45, 46, 49, 51, 52, 56]), ([0, 1, 2], [45, 46, 47, 49, 51, 52, 56]), ([], [45, 46, 47, 48, 51, 52, 56]), ([0, 1, 2, 3, 4], [45, 46, 47, 48, 49, 51, 52, 56]), ([], [45, 46, 47, 48, 49, 50, 52, 56]), ([], [45, 46, 47, 48, 49, 50, 51, 53, 56, 58]), ([0, 1, 2, 3, 4, 5, 6], [45, 46, 47, 48, 49, 50, 51, 52, 56, 58]), ([0, 1, 2, 3, 4, 5, 6, 7, 8], [45, 46, 47, 48, 49, 50, 51, 52, 53, 56, 58]), ([0, 1, 2, 3, 4, 5, 6, 7, 8, 9], [45, 46, 47, 48, 49, 50, 51, 52, 53, 54, 56, 58]), ([], [45, 46, 47, 48, 49, 50, 51, 52, 53, 54, 55, 58]), ([0, 1, 2, 3, 4, 5, 6, 7, 8, 9, 10, 11], [45, 46, 47, 48, 49, 50, 51, 52, 53, 54, 55, 56, 58]), ([0, 1, 2, 3, 4, 5, 6], [45, 46, 47, 48, 49, 50, 51, 52, 53, 54, 55, 56, 57]), ([0, 1, 2, 3, 4, 5, 6, 7, 8, 9, 10, 11, 12, 13], [45, 46, 47, 48, 49, 50, 51, 52, 53, 54, 55, 56, 57, 58]), ([0, 1, 2, 3, 4, 5, 6, 7, 8, 9, 10, 11, 12, 13, 14], [45, 46, 47, 48, 49, 50, 51, 52, 53, 54, 55, 56, 57, 58, 59])] [] (Γx := []) ?_; dsimp only [prev0, List.length_nil, List.length_cons])
   | (refine gAny ?_; first | (refine gOp ?_; first | refine RGl.rdA ?_ | refine RGl.rdX (fun e hk => by (try dsimp only [bndR, ensR, oksR, fcutR, List.append_nil, List.nil_append, List.cons_append, List.append_assoc] at hk ⊢); exact readB) ?_) | (refine gSt ?_; refine RGl.stA ?_) | (refine RGl.fin (fun e hk => ?_); (try dsimp only [bndA, ensAR, oksA, List.append_nil, List.nil_append, List.cons_append, List.append_assoc] at hk ⊢); (repeat (obtain ⟨hk1, hk⟩ := hk))) | fail)
   | (refine isCond ?_; first | refine WPc.cT ?_ | refine WPc.cF ?_ | (refine WPc.cQ (fun hc => ?_) (fun hc => ?_) <;> try exact prA))
   | (refine isC 12 ?_; refine WPl.cV c1 ?_ (hΔ := provsG))
   | (refine isOp ?_; first | refine WPl.rd ?_ | refine WPl.sk ?_ | refine WPl.rdB ?_)
   | (refine isSt ?_; first | refine WPl.st1 ?_ | refine WPl.stA ?_ | refine WPl.stEB ?_ | refine WPl.stRB ?_)
   | (show WPl _ _ _ _ _ _ _ (⟨_, .indexAddr _ _ _, _, _, _, _⟩ :: _) _; refine WPl.rdX (ReadR.indexE rfl rfl hasA (by first | assumption | omega)) ?_)
   | (show WPl _ _ _ _ _ _ _ (⟨_, .fieldAddr _ _ _, _, _, _, _⟩ :: _) _; refine WPl.rdX (ReadR.fieldE rfl hasA (by first | assumption | omega)) ?_)
   | (show WPl _ _ _ _ _ _ _ (⟨_, .load _ _, _, _, _, _⟩ :: _) _; first | refine WPl.rdX (ReadR.loadE rfl hasA (by assumption)) ?_ | refine WPl.rdX (ReadR.loadES (by assumption) (by first | assumption | omega) rfl hasA) ?_)
   | (show WPl _ _ _ _ _ _ _ (⟨_, .slice _ _ _ _ _, _, _, _, _⟩ :: _) _; first | refine WPl.rdX (ReadR.sliceH rfl rfl hasA (by omega)) ?_ | refine WPl.rdX (ReadR.sliceL rfl rfl hasA (by omega)) ?_ | refine WPl.rdX (ReadR.sliceLH rfl rfl rfl hasA (by omega) (by omega)) ?_)
   | (refine WPl.spQ (fun hc => ?_) (fun hc => ?_) <;> try exact prA)
   | fail)
  all_goals exact WPq.dV
theorem crash_t (lv : Value) (l : List Int) (hl : l.length ≤ 1000000) (hli : ∀ a ∈ l, in64 a) (hn : ls.length ≤ 1000000) (he : es.length ≤ 1000000) (h4 : fu.length = 4) (hok : EOk ls.length es) :
    Triple Try.prog 17 #[hD gV, lv] [(bx gV 79 (dvc fu vd mD cn)), rowN 81 256 vd ls.length (secs ls), mp secM mD es, bag es, rdN lv l.length (intsV l)] (RTurns (resV []) [(bx gV 79 (dvc f4 vd mD cn)), rowN 81 256 vd ls.length (secs (crashT es l (skeys es) es.length ls)), mp secM mD [], bag []]) := by
  have c1 := waiting_t gV mD vd fu cn es he
  have c2 := fclear_t gV mD vd fu cn h4
  have hkl := skeys_len (es := es)
  obtain ⟨m, hm⟩ : ∃ m, m = es.length := ⟨_, rfl⟩
  rw [← hm] at c1 hkl he ⊢
  refine Triple.enter Try.func17 rfl Try.ntmps17 rfl (fun W => ?_)
  dsimp only [argsF, Nat.reduceAdd]
  refine WPc.mkeys (M := secM) (m := mD) (l := es) memA fun hnd _ => ?_
  repeat' (first
   | refine WPl.nil ?_ | refine WPq.then ?_ | refine WPq.thenR ?_ | refine WPq.thenE ?_ | refine WPq.blockN ?_ | refine WPq.blockR ?_ | refine WPq.blockE ?_ | refine WPq.blockO rfl ?_ | refine WPc.seq ?_ | refine WPc.block ?_ | refine WPc.ret ?_ | refine WPc.exit ?_ | refine WPc.skip ?_ | refine WPc.region ?_
   | (refine isReg 6 ?_; refine WPc.drA [([], [38, 39, 40, 41, 42, 43, 44, 45, 46, 47, 48, 49]), ([0], [34, 38, 39, 40, 41, 42, 43, 44, 45, 46, 47, 48, 49]), ([0, 1], [34, 35, 38, 39, 40, 41, 42, 43, 44, 45, 46, 47, 48, 49]), ([0, 1, 2], [34, 35, 36, 38, 39, 40, 41, 42, 43, 44, 45, 46, 47, 48, 49]), ([], [34, 35, 36, 37, 39, 40, 41, 42, 43, 44, 45, 46, 47, 48, 49]), ([], [34, 35, 36, 37, 38, 40, 41, 42, 43, 44, 45, 46, 47]), ([], [34, 35, 36, 37, 38, 39, 41, 44, 45]), ([], [34, 35, 36, 37, 38, 39, 40, 44, 45]), ([6, 7], [34, 35, 36, 37, 38, 39, 40, 41, 44, 45]), ([6, 7, 8], [34, 35, 36, 37, 38, 39, 40, 41, 42, 44, 45]), ([], [34, 35, 36, 37, 38, 39, 40, 41, 42, 43]), ([10], [34, 35, 36, 37, 38, 39, 40, 41, 42, 43, 44]), ([6, 7, 8, 9, 10, 11], [34, 35, 36, 37, 38, 39, 40, 41, 42, 43, 44, 45]), ([6, 7, 8, 9, 10, 11, 12], [34, 35, 36, 37, 38, 39, 40, 41, 42, 43, 44, 45, 46]), ([5, 6, 7, 8, 9, 10, 11, 12, 13], [34, 35, 36, 37, 38, 39, 40, 41, 42, 43, 44, 45, 46, 47]), ([5, 6, 7, 8, 9, 10, 11, 12, 13, 14], [34, 35, 36, 37, 38, 39, 40, 41, 42, 43, 44, 45, 46, 47, 48]), ([0, 1, 2, 3, 4, 5, 6, 7, 8, 9, 10, 11, 12, 13, 14, 15], [34, 35, 36, 37, 38, 39, 40, 41, 42, 43, 44, 45, 46, 47, 48, 49]), ([0, 1, 2, 3, 4, 5, 6, 7, 8, 9, 10, 11, 12, 13, 14, 15, 16], [34, 35, 36, 37, 38, 39, 40, 41, 42, 43, 44, 45, 46, 47, 48, 49, 50])] [] (Γx := []) ?_; dsimp only [prev0, List.length_nil, List.length_cons])
   | (refine gAny ?_; first | (refine gD 8 ?_; refine RGl.rdX (fun e hk => by (try dsimp only [bndR, ensR, oksR, fcutR, List.append_nil, List.nil_append, List.cons_append, List.append_assoc] at hk ⊢); exact readP) ?_) | (refine gOp ?_; first | refine RGl.rdA ?_ | refine RGl.rdX (fun e hk => by (try dsimp only [bndR, ensR, oksR, fcutR, List.append_nil, List.nil_append, List.cons_append, List.append_assoc] at hk ⊢); exact readB) ?_) | (refine gSt ?_; refine RGl.stA ?_) | (refine RGl.fin (fun e hk => ?_); (try dsimp only [bndA, ensAR, oksA, List.append_nil, List.nil_append, List.cons_append, List.append_assoc] at hk ⊢); (repeat (obtain ⟨hk1, hk⟩ := hk))) | fail)
   | (refine isCond ?_; first | refine WPc.cT ?_ | refine WPc.cF ?_ | (refine WPc.cQ (fun hc => ?_) (fun hc => ?_) <;> try exact prA))
   | (refine isD 8 ?_; refine WPl.rdX (readP) ?_)
   | (refine isC 10 ?_; refine WPl.cR c1 (fun wv hwv => ?_) (hΔ := provsG))
   | (refine isOp ?_; first | refine WPl.rd ?_ | refine WPl.sk ?_ | refine WPl.rdB ?_)
   | (refine isSt ?_; first | refine WPl.st1 ?_ | refine WPl.stA ?_ | refine WPl.stEB ?_ | refine WPl.stRB ?_)
   | (show WPl _ _ _ _ _ _ _ (⟨_, .indexAddr _ _ _, _, _, _, _⟩ :: _) _; refine WPl.rdX (ReadR.indexE rfl rfl hasA (by first | assumption | omega)) ?_)
   | (show WPl _ _ _ _ _ _ _ (⟨_, .fieldAddr _ _ _, _, _, _, _⟩ :: _) _; refine WPl.rdX (ReadR.fieldE rfl hasA (by first | assumption | omega)) ?_)
   | (show WPl _ _ _ _ _ _ _ (⟨_, .load _ _, _, _, _, _⟩ :: _) _; first | refine WPl.rdX (ReadR.loadE rfl hasA (by assumption)) ?_ | refine WPl.rdX (ReadR.loadES (by assumption) (by first | assumption | omega) rfl hasA) ?_)
   | (show WPl _ _ _ _ _ _ _ (⟨_, .slice _ _ _ _ _, _, _, _, _⟩ :: _) _; first | refine WPl.rdX (ReadR.sliceH rfl rfl hasA (by omega)) ?_ | refine WPl.rdX (ReadR.sliceL rfl rfl hasA (by omega)) ?_ | refine WPl.rdX (ReadR.sliceLH rfl rfl rfl hasA (by omega) (by omega)) ?_)
   | (refine WPl.spQ (fun hc => ?_) (fun hc => ?_) <;> try exact prA)
   | fail)
  first | refine WPc.loop (σ := Nat) (fun st => st ≤ m) (fun st => [(bx gV 79 (dvc fu vd mD cn)), rowN 81 256 vd ls.length (secs (crashT es l (skeys es) st ls)), mp secM mD es, bag es, rowN 3 1 wv m (intsV (skeys es)), rdN lv l.length (intsV l)]) (fun st => [(0, hD gV), (1, lv), (10, wv), (11, .int .i64 (m : Int)), (12, .int .i64 (st : Int))]) (fun st => m - st) (0) ?_ takesA frsA (fun st km hx hk => ?_)
  · omega
  have hkm := hk
  by_cases hlast : st = m
  · subst hlast
    repeat' (first
     | refine WPl.nil ?_ | refine WPq.then ?_ | refine WPq.thenR ?_ | refine WPq.thenE ?_ | refine WPq.blockN ?_ | refine WPq.blockR ?_ | refine WPq.blockE ?_ | refine WPq.blockO rfl ?_ | refine WPc.seq ?_ | refine WPc.block ?_ | refine WPc.ret ?_ | refine WPc.exit ?_ | refine WPc.skip ?_ | refine WPc.region ?_
     | (refine isReg 6 ?_; refine WPc.drA [([], [38, 39, 40, 41, 42, 43, 44, 45, 46, 47, 48, 49]), ([0], [34, 38, 39, 40, 41, 42, 43, 44, 45, 46, 47, 48, 49]), ([0, 1], [34, 35, 38, 39, 40, 41, 42, 43, 44, 45, 46, 47, 48, 49]), ([0, 1, 2], [34, 35, 36, 38, 39, 40, 41, 42, 43, 44, 45, 46, 47, 48, 49]), ([], [34, 35, 36, 37, 39, 40, 41, 42, 43, 44, 45, 46, 47, 48, 49]), ([], [34, 35, 36, 37, 38, 40, 41, 42, 43, 44, 45, 46, 47]), ([], [34, 35, 36, 37, 38, 39, 41, 44, 45]), ([], [34, 35, 36, 37, 38, 39, 40, 44, 45]), ([6, 7], [34, 35, 36, 37, 38, 39, 40, 41, 44, 45]), ([6, 7, 8], [34, 35, 36, 37, 38, 39, 40, 41, 42, 44, 45]), ([], [34, 35, 36, 37, 38, 39, 40, 41, 42, 43]), ([10], [34, 35, 36, 37, 38, 39, 40, 41, 42, 43, 44]), ([6, 7, 8, 9, 10, 11], [34, 35, 36, 37, 38, 39, 40, 41, 42, 43, 44, 45]), ([6, 7, 8, 9, 10, 11, 12], [34, 35, 36, 37, 38, 39, 40, 41, 42, 43, 44, 45, 46]), ([5, 6, 7, 8, 9, 10, 11, 12, 13], [34, 35, 36, 37, 38, 39, 40, 41, 42, 43, 44, 45, 46, 47]), ([5, 6, 7, 8, 9, 10, 11, 12, 13, 14], [34, 35, 36, 37, 38, 39, 40, 41, 42, 43, 44, 45, 46, 47, 48]), ([0, 1, 2, 3, 4, 5, 6, 7, 8, 9, 10, 11, 12, 13, 14, 15], [34, 35, 36, 37, 38, 39, 40, 41, 42, 43, 44, 45, 46, 47, 48, 49]), ([0, 1, 2, 3, 4, 5, 6, 7, 8, 9, 10, 11, 12, 13, 14, 15, 16], [34, 35, 36, 37, 38, 39, 40, 41, 42, 43, 44, 45, 46, 47, 48, 49, 50])] [] (Γx := []) ?_; dsimp only [prev0, List.length_nil, List.length_cons])
     | (refine gAny ?_; first | (refine gC 59 ?_; refine RGl.turns (fun e hk => by (try dsimp only [bndR, ensR, oksR, fcutR, List.append_nil, List.nil_append, List.cons_append, List.append_assoc] at hk ⊢); exact OpT.callTs (c2)) ?_) | (refine gOp ?_; first | refine RGl.rdA ?_ | refine RGl.rdX (fun e hk => by (try dsimp only [bndR, ensR, oksR, fcutR, List.append_nil, List.nil_append, List.cons_append, List.append_assoc] at hk ⊢); exact readB) ?_) | (refine gSt ?_; refine RGl.stA ?_) | (refine RGl.fin (fun e hk => ?_); (try dsimp only [bndA, ensAR, oksA, List.append_nil, List.nil_append, List.cons_append, List.append_assoc] at hk ⊢); (repeat (obtain ⟨hk1, hk⟩ := hk))) | fail)
     | (refine isCond ?_; first | refine WPc.cT ?_ | refine WPc.cF ?_ | (refine WPc.cQ (fun hc => ?_) (fun hc => ?_) <;> try first | exact prA | (exfalso; first | omega)))
     | (show WPl _ _ _ _ _ _ _ (⟨none, .call ⟨.builtin .clear, _, _⟩, _, _, _, _⟩ :: _) _; refine WPl.clearM (M := secM) ?_)
     | (refine isC 59 ?_; refine WPl.cTs (c2) ?_; (try dsimp only [putF, List.cons_append, List.nil_append]))
     | (refine isOp ?_; first | refine WPl.rd ?_ | refine WPl.sk ?_ | refine WPl.rdB ?_)
     | (refine isSt ?_; first | refine WPl.st1 ?_ | refine WPl.stA ?_ | refine WPl.stEB ?_ | refine WPl.stRB ?_)
     | (show WPl _ _ _ _ _ _ _ (⟨_, .indexAddr _ _ _, _, _, _, _⟩ :: _) _; refine WPl.rdX (ReadR.indexE rfl rfl hasA (by first | assumption | omega)) ?_)
     | (show WPl _ _ _ _ _ _ _ (⟨_, .fieldAddr _ _ _, _, _, _, _⟩ :: _) _; refine WPl.rdX (ReadR.fieldE rfl hasA (by first | assumption | omega)) ?_)
     | (show WPl _ _ _ _ _ _ _ (⟨_, .load _ _, _, _, _, _⟩ :: _) _; first | refine WPl.rdX (ReadR.loadE rfl hasA (by assumption)) ?_ | refine WPl.rdX (ReadR.loadES (by assumption) (by first | assumption | omega) rfl hasA) ?_)
     | (show WPl _ _ _ _ _ _ _ (⟨_, .slice _ _ _ _ _, _, _, _, _⟩ :: _) _; first | refine WPl.rdX (ReadR.sliceH rfl rfl hasA (by omega)) ?_ | refine WPl.rdX (ReadR.sliceL rfl rfl hasA (by omega)) ?_ | refine WPl.rdX (ReadR.sliceLH rfl rfl rfl hasA (by omega) (by omega)) ?_)
     | (refine WPl.spQ (fun hc => ?_) (fun hc => ?_) <;> try first | exact prA | (exfalso; first | omega))
     | fail)
    all_goals refine WPq.bag0 ?_
    exact WPq.dTp (ho := ownsV)
  have hst : st < (skeys es).length := by omega
  obtain ⟨i, hi⟩ : ∃ i, i = (skeys es)[st] := ⟨_, rfl⟩
  have hkey : (intsV (skeys es))[st]? = some (.int .i64 i) := intsV_at (by rw [hi]; exact List.getElem?_eq_getElem hst)
  obtain ⟨⟨yk, yv, ws⟩, hmem, hyk⟩ := skeys_mem (es := es) (i := i) (by rw [hi]; exact List.getElem_mem hst)
  obtain ⟨⟨jj, hjk, hjl⟩, hne, hlw⟩ := hok _ hmem
  dsimp only at hjk hjl hne hlw hyk
  subst hjk
  subst hyk
  have hfy : mfind es (jj : Int) = some ⟨yv, ws⟩ := mfind_at hnd hmem
  have hin : in64 (jj : Int) := by unfold in64; omega
  have hwf : secM.wf (jj : Int) := hin
  have hc0 : secM.vc (mget secM es (jj : Int)) = yv := by rw [mget_of_find hfy]; rfl
  have hd : (skeys es).getD st 0 = (jj : Int) := by rw [List.getD_eq_getElem?_getD, List.getElem?_eq_getElem hst, ← hi]; rfl
  have hpos := List.length_pos_iff.2 hne
  cases hla : l[st]? with
  | none =>
    have hlt : l.length ≤ st := by simpa using hla
    have hstep : crashT es l (skeys es) (st + 1) ls = crashT es l (skeys es) st ls := by
      show crash1 es l (crashT es l (skeys es) st ls) st ((skeys es).getD st 0) = _
      unfold crash1; rw [hla]
    repeat' (first
     | refine WPl.nil ?_ | refine WPq.then ?_ | refine WPq.thenR ?_ | refine WPq.thenE ?_ | refine WPq.blockN ?_ | refine WPq.blockR ?_ | refine WPq.blockE ?_ | refine WPq.blockO rfl ?_ | refine WPc.seq ?_ | refine WPc.block ?_ | refine WPc.ret ?_ | refine WPc.exit ?_ | refine WPc.skip ?_ | refine WPc.region ?_
     | (refine isReg 6 ?_; refine WPc.drA [([], [38, 39, 40, 41, 42, 43, 44, 45, 46, 47, 48, 49]), ([0], [34, 38, 39, 40, 41, 42, 43, 44, 45, 46, 47, 48, 49]), ([0, 1], [34, 35, 38, 39, 40, 41, 42, 43, 44, 45, 46, 47, 48, 49]), ([0, 1, 2], [34, 35, 36, 38, 39, 40, 41, 42, 43, 44, 45, 46, 47, 48, 49]), ([], [34, 35, 36, 37, 39, 40, 41, 42, 43, 44, 45, 46, 47, 48, 49]), ([], [34, 35, 36, 37, 38, 40, 41, 42, 43, 44, 45, 46, 47]), ([], [34, 35, 36, 37, 38, 39, 41, 44, 45]), ([], [34, 35, 36, 37, 38, 39, 40, 44, 45]), ([6, 7], [34, 35, 36, 37, 38, 39, 40, 41, 44, 45]), ([6, 7, 8], [34, 35, 36, 37, 38, 39, 40, 41, 42, 44, 45]), ([], [34, 35, 36, 37, 38, 39, 40, 41, 42, 43]), ([10], [34, 35, 36, 37, 38, 39, 40, 41, 42, 43, 44]), ([6, 7, 8, 9, 10, 11], [34, 35, 36, 37, 38, 39, 40, 41, 42, 43, 44, 45]), ([6, 7, 8, 9, 10, 11, 12], [34, 35, 36, 37, 38, 39, 40, 41, 42, 43, 44, 45, 46]), ([5, 6, 7, 8, 9, 10, 11, 12, 13], [34, 35, 36, 37, 38, 39, 40, 41, 42, 43, 44, 45, 46, 47]), ([5, 6, 7, 8, 9, 10, 11, 12, 13, 14], [34, 35, 36, 37, 38, 39, 40, 41, 42, 43, 44, 45, 46, 47, 48]), ([0, 1, 2, 3, 4, 5, 6, 7, 8, 9, 10, 11, 12, 13, 14, 15], [34, 35, 36, 37, 38, 39, 40, 41, 42, 43, 44, 45, 46, 47, 48, 49]), ([0, 1, 2, 3, 4, 5, 6, 7, 8, 9, 10, 11, 12, 13, 14, 15, 16], [34, 35, 36, 37, 38, 39, 40, 41, 42, 43, 44, 45, 46, 47, 48, 49, 50])] [] (Γx := []) ?_; dsimp only [prev0, List.length_nil, List.length_cons])
     | (refine gAny ?_; first | (refine gD 16 ?_; refine RGl.rdX (fun e hk => by (try dsimp only [bndR, ensR, oksR, fcutR, List.append_nil, List.nil_append, List.cons_append, List.append_assoc] at hk ⊢); exact ReadR.loadE rfl hasA hkey) ?_) | (refine gOp ?_; first | refine RGl.rdA ?_ | refine RGl.rdX (fun e hk => by (try dsimp only [bndR, ensR, oksR, fcutR, List.append_nil, List.nil_append, List.cons_append, List.append_assoc] at hk ⊢); exact readB) ?_) | (refine gSt ?_; refine RGl.stA ?_) | (refine RGl.fin (fun e hk => ?_); (try dsimp only [bndA, ensAR, oksA, List.append_nil, List.nil_append, List.cons_append, List.append_assoc] at hk ⊢); (repeat (obtain ⟨hk1, hk⟩ := hk))) | fail)
     | (refine isCond ?_; first | refine WPc.cT ?_ | refine WPc.cF ?_ | (refine WPc.cQ (fun hc => ?_) (fun hc => ?_) <;> try first | exact prA | (exfalso; first | omega)))
     | (refine isD 16 ?_; refine WPl.rdX (ReadR.loadE rfl hasA hkey) ?_)
     | (refine isOp ?_; first | refine WPl.rd ?_ | refine WPl.sk ?_ | refine WPl.rdB ?_)
     | (refine isSt ?_; first | refine WPl.st1 ?_ | refine WPl.stA ?_ | refine WPl.stEB ?_ | refine WPl.stRB ?_)
     | (show WPl _ _ _ _ _ _ _ (⟨_, .indexAddr _ _ _, _, _, _, _⟩ :: _) _; refine WPl.rdX (ReadR.indexE rfl rfl hasA (by first | assumption | omega)) ?_)
     | (show WPl _ _ _ _ _ _ _ (⟨_, .fieldAddr _ _ _, _, _, _, _⟩ :: _) _; refine WPl.rdX (ReadR.fieldE rfl hasA (by first | assumption | omega)) ?_)
     | (show WPl _ _ _ _ _ _ _ (⟨_, .load _ _, _, _, _, _⟩ :: _) _; first | refine WPl.rdX (ReadR.loadE rfl hasA (by assumption)) ?_ | refine WPl.rdX (ReadR.loadES (by assumption) (by first | assumption | omega) rfl hasA) ?_)
     | (show WPl _ _ _ _ _ _ _ (⟨_, .slice _ _ _ _ _, _, _, _, _⟩ :: _) _; first | refine WPl.rdX (ReadR.sliceH rfl rfl hasA (by omega)) ?_ | refine WPl.rdX (ReadR.sliceL rfl rfl hasA (by omega)) ?_ | refine WPl.rdX (ReadR.sliceLH rfl rfl rfl hasA (by omega) (by omega)) ?_)
     | (refine WPl.spQ (fun hc => ?_) (fun hc => ?_) <;> try first | exact prA | (exfalso; first | omega))
     | fail)
    all_goals rw [← hstep]
    exact WPq.rnd (st + 1) (by omega) (by omega)
  | some a =>
    have hsl8 : st < l.length := (List.getElem?_eq_some_iff.1 hla).1
    have hla2 : (intsV l)[st]? = some (.int .i64 a) := intsV_at hla
    have hia := hli a (List.mem_of_getElem? hla)
    unfold in64 at hia
    by_cases ha0 : a ≤ 0
    · have hstep : crashT es l (skeys es) (st + 1) ls = crashT es l (skeys es) st ls := by
        show crash1 es l (crashT es l (skeys es) st ls) st ((skeys es).getD st 0) = _
        unfold crash1; rw [hla]; dsimp only; rw [if_pos ha0]
      repeat' (first
       | refine WPl.nil ?_ | refine WPq.then ?_ | refine WPq.thenR ?_ | refine WPq.thenE ?_ | refine WPq.blockN ?_ | refine WPq.blockR ?_ | refine WPq.blockE ?_ | refine WPq.blockO rfl ?_ | refine WPc.seq ?_ | refine WPc.block ?_ | refine WPc.ret ?_ | refine WPc.exit ?_ | refine WPc.skip ?_ | refine WPc.region ?_
       | (refine isReg 6 ?_; refine WPc.drA [([], [38, 39, 40, 41, 42, 43, 44, 45, 46, 47, 48, 49]), ([0], [34, 38, 39, 40, 41, 42, 43, 44, 45, 46, 47, 48, 49]), ([0, 1], [34, 35, 38, 39, 40, 41, 42, 43, 44, 45, 46, 47, 48, 49]), ([0, 1, 2], [34, 35, 36, 38, 39, 40, 41, 42, 43, 44, 45, 46, 47, 48, 49]), ([], [34, 35, 36, 37, 39, 40, 41, 42, 43, 44, 45, 46, 47, 48, 49]), ([], [34, 35, 36, 37, 38, 40, 41, 42, 43, 44, 45, 46, 47]), ([], [34, 35, 36, 37, 38, 39, 41, 44, 45]), ([], [34, 35, 36, 37, 38, 39, 40, 44, 45]), ([6, 7], [34, 35, 36, 37, 38, 39, 40, 41, 44, 45]), ([6, 7, 8], [34, 35, 36, 37, 38, 39, 40, 41, 42, 44, 45]), ([], [34, 35, 36, 37, 38, 39, 40, 41, 42, 43]), ([10], [34, 35, 36, 37, 38, 39, 40, 41, 42, 43, 44]), ([6, 7, 8, 9, 10, 11], [34, 35, 36, 37, 38, 39, 40, 41, 42, 43, 44, 45]), ([6, 7, 8, 9, 10, 11, 12], [34, 35, 36, 37, 38, 39, 40, 41, 42, 43, 44, 45, 46]), ([5, 6, 7, 8, 9, 10, 11, 12, 13], [34, 35, 36, 37, 38, 39, 40, 41, 42, 43, 44, 45, 46, 47]), ([5, 6, 7, 8, 9, 10, 11, 12, 13, 14], [34, 35, 36, 37, 38, 39, 40, 41, 42, 43, 44, 45, 46, 47, 48]), ([0, 1, 2, 3, 4, 5, 6, 7, 8, 9, 10, 11, 12, 13, 14, 15], [34, 35, 36, 37, 38, 39, 40, 41, 42, 43, 44, 45, 46, 47, 48, 49]), ([0, 1, 2, 3, 4, 5, 6, 7, 8, 9, 10, 11, 12, 13, 14, 15, 16], [34, 35, 36, 37, 38, 39, 40, 41, 42, 43, 44, 45, 46, 47, 48, 49, 50])] [] (Γx := []) ?_; dsimp only [prev0, List.length_nil, List.length_cons])
       | (refine gAny ?_; first | (refine gD 16 ?_; refine RGl.rdX (fun e hk => by (try dsimp only [bndR, ensR, oksR, fcutR, List.append_nil, List.nil_append, List.cons_append, List.append_assoc] at hk ⊢); exact ReadR.loadE rfl hasA hkey) ?_) | (refine gD 25 ?_; refine RGl.rdX (fun e hk => by (try dsimp only [bndR, ensR, oksR, fcutR, List.append_nil, List.nil_append, List.cons_append, List.append_assoc] at hk ⊢); exact ReadR.loadE rfl hasA hla2) ?_) | (refine gOp ?_; first | refine RGl.rdA ?_ | refine RGl.rdX (fun e hk => by (try dsimp only [bndR, ensR, oksR, fcutR, List.append_nil, List.nil_append, List.cons_append, List.append_assoc] at hk ⊢); exact readB) ?_) | (refine gSt ?_; refine RGl.stA ?_) | (refine RGl.fin (fun e hk => ?_); (try dsimp only [bndA, ensAR, oksA, List.append_nil, List.nil_append, List.cons_append, List.append_assoc] at hk ⊢); (repeat (obtain ⟨hk1, hk⟩ := hk))) | fail)
       | (refine isCond ?_; first | refine WPc.cT ?_ | refine WPc.cF ?_ | (refine WPc.cQ (fun hc => ?_) (fun hc => ?_) <;> try first | exact prA | (exfalso; first | omega)))
       | (refine isD 16 ?_; refine WPl.rdX (ReadR.loadE rfl hasA hkey) ?_)
       | (refine isD 25 ?_; refine WPl.rdX (ReadR.loadE rfl hasA hla2) ?_)
       | (refine isOp ?_; first | refine WPl.rd ?_ | refine WPl.sk ?_ | refine WPl.rdB ?_)
       | (refine isSt ?_; first | refine WPl.st1 ?_ | refine WPl.stA ?_ | refine WPl.stEB ?_ | refine WPl.stRB ?_)
       | (show WPl _ _ _ _ _ _ _ (⟨_, .indexAddr _ _ _, _, _, _, _⟩ :: _) _; refine WPl.rdX (ReadR.indexE rfl rfl hasA (by first | assumption | omega)) ?_)
       | (show WPl _ _ _ _ _ _ _ (⟨_, .fieldAddr _ _ _, _, _, _, _⟩ :: _) _; refine WPl.rdX (ReadR.fieldE rfl hasA (by first | assumption | omega)) ?_)
       | (show WPl _ _ _ _ _ _ _ (⟨_, .load _ _, _, _, _, _⟩ :: _) _; first | refine WPl.rdX (ReadR.loadE rfl hasA (by assumption)) ?_ | refine WPl.rdX (ReadR.loadES (by assumption) (by first | assumption | omega) rfl hasA) ?_)
       | (show WPl _ _ _ _ _ _ _ (⟨_, .slice _ _ _ _ _, _, _, _, _⟩ :: _) _; first | refine WPl.rdX (ReadR.sliceH rfl rfl hasA (by omega)) ?_ | refine WPl.rdX (ReadR.sliceL rfl rfl hasA (by omega)) ?_ | refine WPl.rdX (ReadR.sliceLH rfl rfl rfl hasA (by omega) (by omega)) ?_)
       | (refine WPl.spQ (fun hc => ?_) (fun hc => ?_) <;> try first | exact prA | (exfalso; first | omega))
       | fail)
      all_goals rw [← hstep]
      exact WPq.rnd (st + 1) (by omega) (by omega)
    · obtain ⟨q, hq⟩ : ∃ q, q = (min a ws.length).toNat - 1 := ⟨_, rfl⟩
      have hql : q < ws.length := by omega
      obtain ⟨mn, hmn⟩ : ∃ mn, mn = (if (ws.length : Int) < a then (ws.length : Int) else a) := ⟨_, rfl⟩
      have hmq : mn - 1 = (q : Int) := by split at hmn <;> omega
      obtain ⟨s, hs⟩ : ∃ s, s = ws[q] := ⟨_, rfl⟩
      have hstep : crashT es l (skeys es) (st + 1) ls = (crashT es l (skeys es) st ls).set jj s := by
        show crash1 es l (crashT es l (skeys es) st ls) st ((skeys es).getD st 0) = _
        unfold crash1; rw [hla]; dsimp only; rw [if_neg ha0, hd, mget_of_find hfy, Int.toNat_natCast]
        show List.set _ jj (ws.getD ((min a ws.length).toNat - 1) (secF 0)) = _
        rw [← hq, List.getD_eq_getElem?_getD, List.getElem?_eq_getElem hql, hs]; rfl
      have hcl := crashT_len (es := es) (l := l) (keys := skeys es) (k := st) (ls := ls)
      obtain ⟨cur, hcur⟩ : ∃ cur, cur = crashT es l (skeys es) st ls := ⟨_, rfl⟩
      rw [← hcur] at hstep hcl ⊢
      have hsl := secs_len cur
      have hsw := secs_len ws
      have hsb := s.len
      have hfs := secC_ok s
      have hset := secs_set s (show jj < cur.length by omega)
      have hi8 : jj * 256 + 256 ≤ (secs cur).length := by omega
      have hq8 : q * 256 + 256 ≤ (secs ws).length := by omega
      have hat : ((secs ws).drop (q * 256)).take 256 = flat (secC s) := secs_at (by rw [hs]; exact List.getElem?_eq_getElem hql)
      refine WPc.bagO hfy ?_
      repeat' (first
       | refine WPl.nil ?_ | refine WPq.then ?_ | refine WPq.thenR ?_ | refine WPq.thenE ?_ | refine WPq.blockN ?_ | refine WPq.blockR ?_ | refine WPq.blockE ?_ | refine WPq.blockO rfl ?_ | refine WPc.seq ?_ | refine WPc.block ?_ | refine WPc.ret ?_ | refine WPc.exit ?_ | refine WPc.skip ?_ | refine WPc.region ?_
       | (refine isReg 6 ?_; refine WPc.drA [([18], [38, 39, 40, 41, 42, 43, 44, 45, 46, 47, 48, 49]), ([0, 18], [34, 38, 39, 40, 41, 42, 43, 44, 45, 46, 47, 48, 49]), ([0, 1, 18], [34, 35, 38, 39, 40, 41, 42, 43, 44, 45, 46, 47, 48, 49]), ([0, 1, 2, 18], [34, 35, 36, 38, 39, 40, 41, 42, 43, 44, 45, 46, 47, 48, 49]), ([18], [34, 35, 36, 37, 39, 40, 41, 42, 43, 44, 45, 46, 47, 48, 49]), ([18], [34, 35, 36, 37, 38, 40, 41, 42, 43, 44, 45, 46, 47]), ([18], [34, 35, 36, 37, 38, 39, 41, 44, 45]), ([18], [34, 35, 36, 37, 38, 39, 40, 44, 45]), ([6, 7, 18], [34, 35, 36, 37, 38, 39, 40, 41, 44, 45]), ([6, 7, 8, 18], [34, 35, 36, 37, 38, 39, 40, 41, 42, 44, 45]), ([18], [34, 35, 36, 37, 38, 39, 40, 41, 42, 43]), ([10, 18], [34, 35, 36, 37, 38, 39, 40, 41, 42, 43, 44]), ([6, 7, 8, 9, 10, 11, 18], [34, 35, 36, 37, 38, 39, 40, 41, 42, 43, 44, 45]), ([6, 7, 8, 9, 10, 11, 12, 18], [34, 35, 36, 37, 38, 39, 40, 41, 42, 43, 44, 45, 46]), ([5, 6, 7, 8, 9, 10, 11, 12, 13, 18], [34, 35, 36, 37, 38, 39, 40, 41, 42, 43, 44, 45, 46, 47]), ([5, 6, 7, 8, 9, 10, 11, 12, 13, 14, 18], [34, 35, 36, 37, 38, 39, 40, 41, 42, 43, 44, 45, 46, 47, 48]), ([0, 1, 2, 3, 4, 5, 6, 7, 8, 9, 10, 11, 12, 13, 14, 15, 18], [34, 35, 36, 37, 38, 39, 40, 41, 42, 43, 44, 45, 46, 47, 48, 49]), ([0, 1, 2, 3, 4, 5, 6, 7, 8, 9, 10, 11, 12, 13, 14, 15, 16, 18], [34, 35, 36, 37, 38, 39, 40, 41, 42, 43, 44, 45, 46, 47, 48, 49, 50])] [(18, 17), (18, 0), (18, 1), (18, 2), (18, 3), (18, 4), (18, 5), (18, 6), (18, 7), (18, 8), (18, 9), (18, 10), (18, 11), (18, 12), (18, 13), (18, 14), (18, 15), (18, 16)] (Γx := [rowN 81 256 vd ls.length (secs cur)]) ?_; dsimp only [prev0, List.length_nil, List.length_cons])
       | (refine gAny ?_; first | (show RGl _ _ _ _ _ _ _ _ (⟨_, .store _ (.tmp 50) _, _, _, _, _⟩ :: _) _ _; refine RGl.turn (fun e hk => by (try dsimp only [bndR, ensR, oksR, fcutR, List.append_nil, List.nil_append, List.cons_append, List.append_assoc] at hk ⊢); exact OpT.storeES rfl rfl takesA hfs (show total (secC s) = 256 from rfl) hi8 (Nat.succ_pos 255)) ?_) | (refine gD 16 ?_; refine RGl.rdX (fun e hk => by (try dsimp only [bndR, ensR, oksR, fcutR, List.append_nil, List.nil_append, List.cons_append, List.append_assoc] at hk ⊢); exact ReadR.loadE rfl hasA hkey) ?_) | (refine gD 25 ?_; refine RGl.rdX (fun e hk => by (try dsimp only [bndR, ensR, oksR, fcutR, List.append_nil, List.nil_append, List.cons_append, List.append_assoc] at hk ⊢); exact ReadR.loadE rfl hasA hla2) ?_) | (refine gD 33 ?_; refine RGl.rdX (fun e hk => by (try dsimp only [bndR, ensR, oksR, fcutR, List.append_nil, List.nil_append, List.cons_append, List.append_assoc] at hk ⊢); exact ReadR.look hwf rfl rfl memA hc0) ?_) | (refine gD 42 ?_; refine RGl.rdX (fun e hk => by (try dsimp only [bndR, ensR, oksR, fcutR, List.append_nil, List.nil_append, List.cons_append, List.append_assoc] at hk ⊢); exact ReadR.indexE1 rfl rfl hasA hsl8) ?_) | (refine gD 43 ?_; refine RGl.rdX (fun e hk => by (try dsimp only [bndR, ensR, oksR, fcutR, List.append_nil, List.nil_append, List.cons_append, List.append_assoc] at hk ⊢); exact ReadR.loadE rfl hasA hla2) ?_) | (refine gD 46 ?_; refine RGl.rdX (fun e hk => by (try dsimp only [bndR, ensR, oksR, fcutR, List.append_nil, List.nil_append, List.cons_append, List.append_assoc] at hk ⊢); exact ReadR.minT hmn.symm rfl rfl) ?_) | (refine gD 47 ?_; refine RGl.rdX (fun e hk => by (try dsimp only [bndR, ensR, oksR, fcutR, List.append_nil, List.nil_append, List.cons_append, List.append_assoc] at hk ⊢); exact ReadR.binE rfl rfl (BinR.subI (by omega) (by omega)) (congrArg (Value.int .i64) hmq)) ?_) | (refine gD 48 ?_; refine RGl.rdX (fun e hk => by (try dsimp only [bndR, ensR, oksR, fcutR, List.append_nil, List.nil_append, List.cons_append, List.append_assoc] at hk ⊢); exact ReadR.indexE rfl rfl hasA hql) ?_) | (refine gD 49 ?_; refine RGl.rdX (fun e hk => by (try dsimp only [bndR, ensR, oksR, fcutR, List.append_nil, List.nil_append, List.cons_append, List.append_assoc] at hk ⊢); exact ReadR.loadES hat hq8 rfl hasA) ?_) | (refine gD 50 ?_; refine RGl.rdX (fun e hk => by (try dsimp only [bndR, ensR, oksR, fcutR, List.append_nil, List.nil_append, List.cons_append, List.append_assoc] at hk ⊢); exact ReadR.indexE rfl rfl hasA hjl) ?_) | (refine gOp ?_; first | refine RGl.rdA ?_ | refine RGl.rdX (fun e hk => by (try dsimp only [bndR, ensR, oksR, fcutR, List.append_nil, List.nil_append, List.cons_append, List.append_assoc] at hk ⊢); exact readB) ?_) | (refine gSt ?_; refine RGl.stA ?_) | (refine RGl.fin (fun e hk => ?_); (try dsimp only [bndA, ensAR, oksA, List.append_nil, List.nil_append, List.cons_append, List.append_assoc] at hk ⊢); (repeat (obtain ⟨hk1, hk⟩ := hk))) | fail)
       | (refine isCond ?_; first | refine WPc.cT ?_ | refine WPc.cF ?_ | (refine WPc.cQ (fun hc => ?_) (fun hc => ?_) <;> try first | exact prA | (exfalso; first | omega)))
       | (refine isD 16 ?_; refine WPl.rdX (ReadR.loadE rfl hasA hkey) ?_)
       | (refine isD 25 ?_; refine WPl.rdX (ReadR.loadE rfl hasA hla2) ?_)
       | (refine isD 33 ?_; refine WPl.rdX (ReadR.look hwf rfl rfl memA hc0) ?_)
       | (refine isOp ?_; first | refine WPl.rd ?_ | refine WPl.sk ?_ | refine WPl.rdB ?_)
       | (refine isSt ?_; first | refine WPl.st1 ?_ | refine WPl.stA ?_ | refine WPl.stEB ?_ | refine WPl.stRB ?_)
       | (show WPl _ _ _ _ _ _ _ (⟨_, .indexAddr _ _ _, _, _, _, _⟩ :: _) _; refine WPl.rdX (ReadR.indexE rfl rfl hasA (by first | assumption | omega)) ?_)
       | (show WPl _ _ _ _ _ _ _ (⟨_, .fieldAddr _ _ _, _, _, _, _⟩ :: _) _; refine WPl.rdX (ReadR.fieldE rfl hasA (by first | assumption | omega)) ?_)
       | (show WPl _ _ _ _ _ _ _ (⟨_, .load _ _, _, _, _, _⟩ :: _) _; first | refine WPl.rdX (ReadR.loadE rfl hasA (by assumption)) ?_ | refine WPl.rdX (ReadR.loadES (by assumption) (by first | assumption | omega) rfl hasA) ?_)
       | (show WPl _ _ _ _ _ _ _ (⟨_, .slice _ _ _ _ _, _, _, _, _⟩ :: _) _; first | refine WPl.rdX (ReadR.sliceH rfl rfl hasA (by omega)) ?_ | refine WPl.rdX (ReadR.sliceL rfl rfl hasA (by omega)) ?_ | refine WPl.rdX (ReadR.sliceLH rfl rfl rfl hasA (by omega) (by omega)) ?_)
       | (refine WPl.spQ (fun hc => ?_) (fun hc => ?_) <;> try first | exact prA | (exfalso; first | omega))
       | fail)
      rw [hset, ← hstep]
      refine WPq.bagI hfy ?_
      exact WPq.rnd (st + 1) (by omega) (by omega)
end
end Go.Proofs.Ytepmikgjnmjheaa
