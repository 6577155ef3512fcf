/- Layer 3 (dev): contracts: burns, clear, has, Len, Writes, now, waiting. -/
import Derived.Test.YtepmikgjnmjheaaDv
namespace Go.Proofs.Ytepmikgjnmjheaa
open Go.RowKit
set_option linter.unusedSimpArgs false
set_option linter.unusedVariables false
set_option maxRecDepth 20000
set_option maxHeartbeats 4000000
attribute [local irreducible] WPc WPl WPq ReadR OpT BinR HasS bx rdN rowN Take Takes Prov Triple ResF BuildP Done ag Int.decLt Int.decLe Int.instDecidableEq
attribute [local irreducible] mp rmp rg rgo bag vrow secs mput mget mfind mdel intsV
abbrev dvc (fu : List Int) (vd : Value) (mD : Nat) (cn : Int) : Ch := [(4, intsV fu), (1, [vd]), (1, [.map (some mD)]), (1, [.int .i64 cn])]
abbrev hD (gV : Nat) : Value := .pointer (some ⟨gV, 0, none⟩)
def fb1 (a : Int) : Int := if a = -1 then -1 else if a = 0 then -1 else a - 1
def fburn (fu : List Int) (k : Nat) (a : Int) : List Int := fu.set k (fb1 a)
theorem intsV_len {fu : List Int} : (intsV fu).length = fu.length := by unfold intsV; simp
theorem intsV_at {fu : List Int} {k : Nat} {a : Int} (h : fu[k]? = some a) : (intsV fu)[k]? = some (.int .i64 a) := by unfold intsV; rw [List.getElem?_map, h]; rfl
theorem intsV_set {fu : List Int} {k : Nat} {a : Int} : (intsV fu).set k (.int .i64 a) = intsV (fu.set k a) := by unfold intsV; rw [List.map_set]
theorem rep_set {α : Type} {l : List α} {i : Nat} {a : α} (h : i < l.length) : (List.replicate i a ++ l.drop i).set i a = List.replicate (i + 1) a ++ l.drop (i + 1) := by
  rw [List.set_append_right _ _ (by simp), List.length_replicate, Nat.sub_self, List.drop_eq_getElem_cons h, List.set_cons_zero, List.replicate_succ', List.append_assoc]
  rfl
section
variable (gV mD : Nat) (vd : Value) (fu : List Int) (cn : Int)
theorem burns_t (k : Nat) (a : Int) (h4 : fu.length = 4) (hk4 : k < 4) (ha : fu[k]? = some a) (hlo : -1 ≤ a) (hhi : a ≤ 9223372036854775807) :
    Triple Try.prog 46 #[hD gV, .int .i64 (k : Int)] [(bx gV 79 (dvc fu vd mD cn))] (RTurns (.bool (decide (a = 0))) [(bx gV 79 (dvc (fburn fu k a) vd mD cn))]) := by
  have hv0 := intsV_at ha
  have hlen : k < (intsV fu).length := by rw [intsV_len, h4]; exact hk4
  refine Triple.enter Try.func46 rfl Try.ntmps46 rfl (fun W => ?_)
  dsimp only [argsF, Nat.reduceAdd]
  repeat' (first
   | refine WPl.nil ?_ | refine WPq.then ?_ | refine WPq.thenR ?_ | refine WPq.thenE ?_ | refine WPq.blockN ?_ | refine WPq.blockR ?_ | refine WPq.blockE ?_ | refine WPq.blockO rfl ?_ | refine WPc.seq ?_ | refine WPc.block ?_ | refine WPc.ret ?_ | refine WPc.exit ?_ | refine WPc.skip ?_ | refine WPc.region ?_
   | (refine isReg 7 ?_; refine WPc.drA [([9], [19]), ([9], [18, 20, 24]), ([0, 9], [18, 19, 24]), ([0, 1, 2, 9], [18, 19, 20, 24]), ([0, 1, 2, 3, 9], [18, 19, 20, 21, 24]), ([0, 1, 2, 3, 4, 9], [18, 19, 20, 21, 22, 24]), ([0, 9], [18, 19, 20, 21, 22, 23]), ([0, 1, 2, 3, 4, 5, 6, 9], [18, 19, 20, 21, 22, 23, 24]), ([0, 1, 2, 3, 4, 5, 6, 7, 9], [18, 19, 20, 21, 22, 23, 24, 25])] [(9, 8), (9, 0), (9, 1), (9, 2), (9, 3), (9, 4), (9, 5), (9, 6), (9, 7)] (Γx := [(bx gV 79 (dvc fu vd mD cn))]) ?_; dsimp only [prev0, List.length_nil, List.length_cons])
   | (refine gAny ?_; first | (refine gD 9 ?_; refine RGl.rdX (fun e hk => by (try dsimp only [bndR, ensR, oksR, fcutR, List.append_nil, List.nil_append, List.cons_append, List.append_assoc] at hk ⊢); exact ReadR.loadR rfl memA rfl hv0) ?_) | (refine gD 22 ?_; refine RGl.rdX (fun e hk => by (try dsimp only [bndR, ensR, oksR, fcutR, List.append_nil, List.nil_append, List.cons_append, List.append_assoc] at hk ⊢); exact ReadR.loadR rfl memA rfl hv0) ?_) | (refine gOp ?_; (refine RGl.turn (fun e hk => by (try dsimp only [bndR, ensR, oksR, fcutR, List.append_nil, List.nil_append, List.cons_append, List.append_assoc] at hk ⊢); exact OpT.storeR rfl rfl takesA rfl rfl hlen rfl) ?_)) | (refine gOp ?_; first | refine RGl.rdA ?_ | refine RGl.rdX (fun e hk => by (try dsimp only [bndR, ensR, oksR, fcutR, List.append_nil, List.nil_append, List.cons_append, List.append_assoc] at hk ⊢); exact readB) ?_) | (refine gSt ?_; refine RGl.stA ?_) | (refine RGl.fin (fun e hk => ?_); (try dsimp only [bndA, ensAR, oksA, List.append_nil, List.nil_append, List.cons_append, List.append_assoc] at hk ⊢); (repeat (obtain ⟨hk1, hk⟩ := hk))) | fail)
   | (refine isCond ?_; first | refine WPc.cT ?_ | refine WPc.cF ?_ | (refine WPc.cQ (fun hc => ?_) (fun hc => ?_) <;> try exact prA))
   | (refine isD 9 ?_; refine WPl.rdX (ReadR.loadR rfl memA rfl hv0) ?_)
   | (show WPl _ _ _ _ _ _ _ (⟨none, .store _ _ (.const _), _, _, _, _⟩ :: _) _; refine WPl.turn (.cons takeA .nil) rfl rfl (OpT.storeR rfl rfl (.cons takeA .nil) rfl rfl hlen rfl) ?_)
   | (refine isD 22 ?_; refine WPl.rdX (ReadR.loadR rfl memA rfl hv0) ?_)
   | (refine isOp ?_; first | refine WPl.rd ?_ | refine WPl.sk ?_ | refine WPl.rdB ?_)
   | (refine isSt ?_; first | refine WPl.st1 ?_ | refine WPl.stA ?_ | refine WPl.stEB ?_ | refine WPl.stRB ?_)
   | (show WPl _ _ _ _ _ _ _ (⟨_, .indexAddr _ _ _, _, _, _, _⟩ :: _) _; refine WPl.rdX (ReadR.indexE rfl rfl hasA (by first | assumption | omega)) ?_)
   | (show WPl _ _ _ _ _ _ _ (⟨_, .fieldAddr _ _ _, _, _, _, _⟩ :: _) _; refine WPl.rdX (ReadR.fieldE rfl hasA (by first | assumption | omega)) ?_)
   | (show WPl _ _ _ _ _ _ _ (⟨_, .load _ _, _, _, _, _⟩ :: _) _; first | refine WPl.rdX (ReadR.loadE rfl hasA (by assumption)) ?_ | refine WPl.rdX (ReadR.loadES (by assumption) (by first | assumption | omega) rfl hasA) ?_)
   | (show WPl _ _ _ _ _ _ _ (⟨_, .slice _ _ _ _ _, _, _, _, _⟩ :: _) _; first | refine WPl.rdX (ReadR.sliceH rfl rfl hasA (by omega)) ?_ | refine WPl.rdX (ReadR.sliceL rfl rfl hasA (by omega)) ?_ | refine WPl.rdX (ReadR.sliceLH rfl rfl rfl hasA (by omega) (by omega)) ?_)
   | (refine WPl.spQ (fun hc => ?_) (fun hc => ?_) <;> try exact prA)
   | fail)
  · have h2 : fburn fu k a = fu := by
      unfold fburn fb1
      rw [if_pos hc]
      apply List.ext_getElem?
      intro i
      rw [List.getElem?_set]
      split
      · rename_i h9
        subst h9
        rw [if_pos (by omega), ha, hc]
      · rfl
    rw [h2, show decide (a = 0) = false by subst hc; simp]
    exact WPq.dTs
  · have h2 : dvc (fburn fu k a) vd mD cn = [(4, (intsV fu).set k (.int .i64 (-1))), (1, [vd]), (1, [.map (some mD)]), (1, [.int .i64 cn])] := by
      rw [intsV_set, show fburn fu k a = fu.set k (-1) by unfold fburn fb1; simp [hc]]
    rw [h2, show decide (a = 0) = true by subst hc; simp]
    exact WPq.dTs
  · have h1 : ¬ a = -1 := by assumption
    have h2 : dvc (fburn fu k a) vd mD cn = [(4, (intsV fu).set k (.int .i64 (a - 1))), (1, [vd]), (1, [.map (some mD)]), (1, [.int .i64 cn])] := by
      rw [intsV_set, show fburn fu k a = fu.set k (a - 1) by unfold fburn fb1; rw [if_neg h1, if_neg hc]]
    rw [h2, show decide (a = 0) = false by simpa using hc]
    exact WPq.dTs
theorem fclear_t (h4 : fu.length = 4) :
    Triple Try.prog 44 #[hD gV] [(bx gV 79 (dvc fu vd mD cn))] (RTurns (resV []) [(bx gV 79 (dvc ([-1, -1, -1, -1]) vd mD cn))]) := by
  refine Triple.enter Try.func44 rfl Try.ntmps44 rfl (fun W => ?_)
  dsimp only [argsF, Nat.reduceAdd]
  repeat' (first
   | refine WPl.nil ?_ | refine WPq.then ?_ | refine WPq.thenR ?_ | refine WPq.thenE ?_ | refine WPq.blockN ?_ | refine WPq.blockR ?_ | refine WPq.blockE ?_ | refine WPq.blockO rfl ?_ | refine WPc.seq ?_ | refine WPc.block ?_ | refine WPc.ret ?_ | refine WPc.exit ?_ | refine WPc.skip ?_ | refine WPc.region ?_
   | (refine isCond ?_; first | refine WPc.cT ?_ | refine WPc.cF ?_ | (refine WPc.cQ (fun hc => ?_) (fun hc => ?_) <;> try exact prA))
   | (refine isOp ?_; first | refine WPl.rd ?_ | refine WPl.sk ?_ | refine WPl.rdB ?_)
   | (refine isSt ?_; first | refine WPl.st1 ?_ | refine WPl.stA ?_ | refine WPl.stEB ?_ | refine WPl.stRB ?_)
   | (show WPl _ _ _ _ _ _ _ (⟨_, .indexAddr _ _ _, _, _, _, _⟩ :: _) _; refine WPl.rdX (ReadR.indexE rfl rfl hasA (by first | assumption | omega)) ?_)
   | (show WPl _ _ _ _ _ _ _ (⟨_, .fieldAddr _ _ _, _, _, _, _⟩ :: _) _; refine WPl.rdX (ReadR.fieldE rfl hasA (by first | assumption | omega)) ?_)
   | (show WPl _ _ _ _ _ _ _ (⟨_, .load _ _, _, _, _, _⟩ :: _) _; first | refine WPl.rdX (ReadR.loadE rfl hasA (by assumption)) ?_ | refine WPl.rdX (ReadR.loadES (by assumption) (by first | assumption | omega) rfl hasA) ?_)
   | (show WPl _ _ _ _ _ _ _ (⟨_, .slice _ _ _ _ _, _, _, _, _⟩ :: _) _; first | refine WPl.rdX (ReadR.sliceH rfl rfl hasA (by omega)) ?_ | refine WPl.rdX (ReadR.sliceL rfl rfl hasA (by omega)) ?_ | refine WPl.rdX (ReadR.sliceLH rfl rfl rfl hasA (by omega) (by omega)) ?_)
   | (refine WPl.spQ (fun hc => ?_) (fun hc => ?_) <;> try exact prA)
   | fail)
  first | refine WPc.loop (σ := Nat) (fun st => st ≤ 4) (fun st => [(bx gV 79 (dvc (List.replicate st (-1) ++ fu.drop st) vd mD cn))]) (fun st => [(0, hD gV), (3, .int .i64 (st : Int))]) (fun st => 4 - st) (0) ?_ takesA frsA (fun st km hx hk => ?_)
  · omega
  have hl : (intsV (List.replicate st (-1) ++ fu.drop st)).length = 4 := by rw [intsV_len]; simp; omega
  repeat' (first
   | refine WPl.nil ?_ | refine WPq.then ?_ | refine WPq.thenR ?_ | refine WPq.thenE ?_ | refine WPq.blockN ?_ | refine WPq.blockR ?_ | refine WPq.blockE ?_ | refine WPq.blockO rfl ?_ | refine WPc.seq ?_ | refine WPc.block ?_ | refine WPc.ret ?_ | refine WPc.exit ?_ | refine WPc.skip ?_ | refine WPc.region ?_
   | (refine isCond ?_; first | refine WPc.cT ?_ | refine WPc.cF ?_ | (refine WPc.cQ (fun hc => ?_) (fun hc => ?_) <;> try exact prA))
   | (show WPl _ _ _ _ _ _ _ (⟨none, .store _ _ (.const _), _, _, _, _⟩ :: _) _; refine WPl.turn (.cons takeA .nil) rfl rfl (OpT.storeR (i := st) rfl rfl (.cons takeA .nil) rfl rfl (by omega) rfl) ?_)
   | (refine isOp ?_; first | refine WPl.rd ?_ | refine WPl.sk ?_ | refine WPl.rdB ?_)
   | (refine isSt ?_; first | refine WPl.st1 ?_ | refine WPl.stA ?_ | refine WPl.stEB ?_ | refine WPl.stRB ?_)
   | (show WPl _ _ _ _ _ _ _ (⟨_, .indexAddr _ _ _, _, _, _, _⟩ :: _) _; refine WPl.rdX (ReadR.indexE rfl rfl hasA (by first | assumption | omega)) ?_)
   | (show WPl _ _ _ _ _ _ _ (⟨_, .fieldAddr _ _ _, _, _, _, _⟩ :: _) _; refine WPl.rdX (ReadR.fieldE rfl hasA (by first | assumption | omega)) ?_)
   | (show WPl _ _ _ _ _ _ _ (⟨_, .load _ _, _, _, _, _⟩ :: _) _; first | refine WPl.rdX (ReadR.loadE rfl hasA (by assumption)) ?_ | refine WPl.rdX (ReadR.loadES (by assumption) (by first | assumption | omega) rfl hasA) ?_)
   | (show WPl _ _ _ _ _ _ _ (⟨_, .slice _ _ _ _ _, _, _, _, _⟩ :: _) _; first | refine WPl.rdX (ReadR.sliceH rfl rfl hasA (by omega)) ?_ | refine WPl.rdX (ReadR.sliceL rfl rfl hasA (by omega)) ?_ | refine WPl.rdX (ReadR.sliceLH rfl rfl rfl hasA (by omega) (by omega)) ?_)
   | (refine WPl.spQ (fun hc => ?_) (fun hc => ?_) <;> try exact prA)
   | fail)
  · have h2 : (intsV (List.replicate st (-1) ++ fu.drop st)).set st (.int .i64 (-1)) = intsV (List.replicate (st + 1) (-1) ++ fu.drop (st + 1)) := by
      rw [intsV_set, rep_set (by omega)]
    rw [h2]
    exact WPq.rnd (st + 1) (by omega) (by omega)
  · have h2 : dvc (List.replicate st (-1) ++ fu.drop st) vd mD cn = dvc [-1, -1, -1, -1] vd mD cn := by
      rw [show st = 4 by omega, List.drop_of_length_le (by omega)]; rfl
    rw [h2]
    exact WPq.dTs
theorem has_t (i : Int) (ls : List Sec) (hn : ls.length ≤ 1000000) :
    Triple Try.prog 45 #[hD gV, .int .i64 i] [rbx gV 79 (dvc fu vd mD cn), rdN vd ls.length (secs ls)] (RVal (.bool (decide (0 ≤ i) && decide (i < (ls.length : Int))))) := by
  refine Triple.enter Try.func45 rfl Try.ntmps45 rfl (fun W => ?_)
  dsimp only [argsF, Nat.reduceAdd]
  repeat' (first
   | refine WPl.nil ?_ | refine WPq.then ?_ | refine WPq.thenR ?_ | refine WPq.thenE ?_ | refine WPq.blockN ?_ | refine WPq.blockR ?_ | refine WPq.blockE ?_ | refine WPq.blockO rfl ?_ | refine WPc.seq ?_ | refine WPc.block ?_ | refine WPc.ret ?_ | refine WPc.exit ?_ | refine WPc.skip ?_ | refine WPc.region ?_
   | (refine isCond ?_; first | refine WPc.cT ?_ | refine WPc.cF ?_ | (refine WPc.cQ (fun hc => ?_) (fun hc => ?_) <;> try exact prA))
   | (refine isD 6 ?_; refine WPl.rdX (readP) ?_)
   | (refine isD 16 ?_; refine WPl.rdX (ReadR.loadO memA rfl rfl) ?_)
   | (refine isD 14 ?_; refine WPl.rdX (ReadR.nilCheck rfl) ?_)
   | (refine isD 15 ?_; refine WPl.rdX (ReadR.field rfl) ?_)
   | (refine isOp ?_; first | refine WPl.rd ?_ | refine WPl.sk ?_ | refine WPl.rdB ?_)
   | (show WPl _ _ _ _ _ _ _ (⟨_, .indexAddr _ _ _, _, _, _, _⟩ :: _) _; refine WPl.rdX (ReadR.indexE rfl rfl hasA (by first | assumption | omega)) ?_)
   | (show WPl _ _ _ _ _ _ _ (⟨_, .fieldAddr _ _ _, _, _, _, _⟩ :: _) _; refine WPl.rdX (ReadR.fieldE rfl hasA (by first | assumption | omega)) ?_)
   | (show WPl _ _ _ _ _ _ _ (⟨_, .load _ _, _, _, _, _⟩ :: _) _; first | refine WPl.rdX (ReadR.loadE rfl hasA (by assumption)) ?_ | refine WPl.rdX (ReadR.loadES (by assumption) (by first | assumption | omega) rfl hasA) ?_)
   | (show WPl _ _ _ _ _ _ _ (⟨_, .slice _ _ _ _ _, _, _, _, _⟩ :: _) _; first | refine WPl.rdX (ReadR.sliceH rfl rfl hasA (by omega)) ?_ | refine WPl.rdX (ReadR.sliceL rfl rfl hasA (by omega)) ?_ | refine WPl.rdX (ReadR.sliceLH rfl rfl rfl hasA (by omega) (by omega)) ?_)
   | (refine WPl.spQ (fun hc => ?_) (fun hc => ?_) <;> try exact prA)
   | fail)
  · exact WPq.dV (hc := by simp [resV, hc])
  · exact WPq.dV (hc := by have : ¬ 0 ≤ i := by omega
                           simp [resV, this])
theorem hasN_t (i : Int) :
    Triple Try.prog 45 #[.pointer none, .int .i64 i] [] (RVal (.bool false)) := by
  refine Triple.enter Try.func45 rfl Try.ntmps45 rfl (fun W => ?_)
  dsimp only [argsF, Nat.reduceAdd]
  repeat' (first
   | refine WPl.nil ?_ | refine WPq.then ?_ | refine WPq.thenR ?_ | refine WPq.thenE ?_ | refine WPq.blockN ?_ | refine WPq.blockR ?_ | refine WPq.blockE ?_ | refine WPq.blockO rfl ?_ | refine WPc.seq ?_ | refine WPc.block ?_ | refine WPc.ret ?_ | refine WPc.exit ?_ | refine WPc.skip ?_ | refine WPc.region ?_
   | (refine isCond ?_; first | refine WPc.cT ?_ | refine WPc.cF ?_ | (refine WPc.cQ (fun hc => ?_) (fun hc => ?_) <;> try exact prA))
   | (refine isD 6 ?_; refine WPl.rdX (readP) ?_)
   | (refine isOp ?_; first | refine WPl.rd ?_ | refine WPl.sk ?_ | refine WPl.rdB ?_)
   | (show WPl _ _ _ _ _ _ _ (⟨_, .indexAddr _ _ _, _, _, _, _⟩ :: _) _; refine WPl.rdX (ReadR.indexE rfl rfl hasA (by first | assumption | omega)) ?_)
   | (show WPl _ _ _ _ _ _ _ (⟨_, .fieldAddr _ _ _, _, _, _, _⟩ :: _) _; refine WPl.rdX (ReadR.fieldE rfl hasA (by first | assumption | omega)) ?_)
   | (show WPl _ _ _ _ _ _ _ (⟨_, .load _ _, _, _, _, _⟩ :: _) _; first | refine WPl.rdX (ReadR.loadE rfl hasA (by assumption)) ?_ | refine WPl.rdX (ReadR.loadES (by assumption) (by first | assumption | omega) rfl hasA) ?_)
   | (show WPl _ _ _ _ _ _ _ (⟨_, .slice _ _ _ _ _, _, _, _, _⟩ :: _) _; first | refine WPl.rdX (ReadR.sliceH rfl rfl hasA (by omega)) ?_ | refine WPl.rdX (ReadR.sliceL rfl rfl hasA (by omega)) ?_ | refine WPl.rdX (ReadR.sliceLH rfl rfl rfl hasA (by omega) (by omega)) ?_)
   | (refine WPl.spQ (fun hc => ?_) (fun hc => ?_) <;> try exact prA)
   | fail)
  all_goals exact WPq.dV
theorem len_t (ls : List Sec) (hn : ls.length ≤ 1000000) :
    Triple Try.prog 20 #[hD gV] [rbx gV 79 (dvc fu vd mD cn), rdN vd ls.length (secs ls)] (RVal (.int .i64 (ls.length : Int))) := by
  refine Triple.enter Try.func20 rfl Try.ntmps20 rfl (fun W => ?_)
  dsimp only [argsF, Nat.reduceAdd]
  repeat' (first
   | refine WPl.nil ?_ | refine WPq.then ?_ | refine WPq.thenR ?_ | refine WPq.thenE ?_ | refine WPq.blockN ?_ | refine WPq.blockR ?_ | refine WPq.blockE ?_ | refine WPq.blockO rfl ?_ | refine WPc.seq ?_ | refine WPc.block ?_ | refine WPc.ret ?_ | refine WPc.exit ?_ | refine WPc.skip ?_ | refine WPc.region ?_
   | (refine isCond ?_; first | refine WPc.cT ?_ | refine WPc.cF ?_ | (refine WPc.cQ (fun hc => ?_) (fun hc => ?_) <;> try exact prA))
   | (refine isD 4 ?_; refine WPl.rdX (readP) ?_)
   | (refine isD 8 ?_; refine WPl.rdX (ReadR.loadO memA rfl rfl) ?_)
   | (refine isOp ?_; first | refine WPl.rd ?_ | refine WPl.sk ?_ | refine WPl.rdB ?_)
   | (show WPl _ _ _ _ _ _ _ (⟨_, .indexAddr _ _ _, _, _, _, _⟩ :: _) _; refine WPl.rdX (ReadR.indexE rfl rfl hasA (by first | assumption | omega)) ?_)
   | (show WPl _ _ _ _ _ _ _ (⟨_, .fieldAddr _ _ _, _, _, _, _⟩ :: _) _; refine WPl.rdX (ReadR.fieldE rfl hasA (by first | assumption | omega)) ?_)
   | (show WPl _ _ _ _ _ _ _ (⟨_, .load _ _, _, _, _, _⟩ :: _) _; first | refine WPl.rdX (ReadR.loadE rfl hasA (by assumption)) ?_ | refine WPl.rdX (ReadR.loadES (by assumption) (by first | assumption | omega) rfl hasA) ?_)
   | (show WPl _ _ _ _ _ _ _ (⟨_, .slice _ _ _ _ _, _, _, _, _⟩ :: _) _; first | refine WPl.rdX (ReadR.sliceH rfl rfl hasA (by omega)) ?_ | refine WPl.rdX (ReadR.sliceL rfl rfl hasA (by omega)) ?_ | refine WPl.rdX (ReadR.sliceLH rfl rfl rfl hasA (by omega) (by omega)) ?_)
   | (refine WPl.spQ (fun hc => ?_) (fun hc => ?_) <;> try exact prA)
   | fail)
  all_goals exact WPq.dV
theorem writes_t :
    Triple Try.prog 25 #[hD gV] [rbx gV 79 (dvc fu vd mD cn)] (RVal (.int .i64 cn)) := by
  refine Triple.enter Try.func25 rfl Try.ntmps25 rfl (fun W => ?_)
  dsimp only [argsF, Nat.reduceAdd]
  repeat' (first
   | refine WPl.nil ?_ | refine WPq.then ?_ | refine WPq.thenR ?_ | refine WPq.thenE ?_ | refine WPq.blockN ?_ | refine WPq.blockR ?_ | refine WPq.blockE ?_ | refine WPq.blockO rfl ?_ | refine WPc.seq ?_ | refine WPc.block ?_ | refine WPc.ret ?_ | refine WPc.exit ?_ | refine WPc.skip ?_ | refine WPc.region ?_
   | (refine isCond ?_; first | refine WPc.cT ?_ | refine WPc.cF ?_ | (refine WPc.cQ (fun hc => ?_) (fun hc => ?_) <;> try exact prA))
   | (refine isD 4 ?_; refine WPl.rdX (readP) ?_)
   | (refine isD 8 ?_; refine WPl.rdX (ReadR.loadO memA rfl rfl) ?_)
   | (refine isOp ?_; first | refine WPl.rd ?_ | refine WPl.sk ?_ | refine WPl.rdB ?_)
   | (show WPl _ _ _ _ _ _ _ (⟨_, .indexAddr _ _ _, _, _, _, _⟩ :: _) _; refine WPl.rdX (ReadR.indexE rfl rfl hasA (by first | assumption | omega)) ?_)
   | (show WPl _ _ _ _ _ _ _ (⟨_, .fieldAddr _ _ _, _, _, _, _⟩ :: _) _; refine WPl.rdX (ReadR.fieldE rfl hasA (by first | assumption | omega)) ?_)
   | (show WPl _ _ _ _ _ _ _ (⟨_, .load _ _, _, _, _, _⟩ :: _) _; first | refine WPl.rdX (ReadR.loadE rfl hasA (by assumption)) ?_ | refine WPl.rdX (ReadR.loadES (by assumption) (by first | assumption | omega) rfl hasA) ?_)
   | (show WPl _ _ _ _ _ _ _ (⟨_, .slice _ _ _ _ _, _, _, _, _⟩ :: _) _; first | refine WPl.rdX (ReadR.sliceH rfl rfl hasA (by omega)) ?_ | refine WPl.rdX (ReadR.sliceL rfl rfl hasA (by omega)) ?_ | refine WPl.rdX (ReadR.sliceLH rfl rfl rfl hasA (by omega) (by omega)) ?_)
   | (refine WPl.spQ (fun hc => ?_) (fun hc => ?_) <;> try exact prA)
   | fail)
  all_goals exact WPq.dV
theorem nowW_t (i : Int) (es : List (Int × Vs)) (hin : in64 i) (s : Sec) (wv : Value) (ws : List Sec) (hwv : (mget secM es i).v = wv) (hs : ws[ws.length - 1]? = some s) (hn : ws.length ≤ 1000000) :
    Triple Try.prog 47 #[hD gV, .int .i64 i] [rbx gV 79 (dvc fu vd mD cn), rmp secM mD es, rdN wv ws.length (secs ws)] (RVal (ag (secC s))) := by
  have hwf : secM.wf i := hin
  have hc0 : secM.vc (mget secM es i) = wv := hwv
  have hpos : 0 < ws.length := by have := (List.getElem?_eq_some_iff.1 hs).1; omega
  have hat : ((secs ws).drop ((ws.length - 1) * 256)).take 256 = flat (secC s) := secs_at hs
  have hsl := secs_len ws
  have hsb := s.len
  have hsub : (ws.length : Int) - 1 = ((ws.length - 1 : Nat) : Int) := by omega
  refine Triple.enter Try.func47 rfl Try.ntmps47 rfl (fun W => ?_)
  dsimp only [argsF, Nat.reduceAdd]
  repeat' (first
   | refine WPl.nil ?_ | refine WPq.then ?_ | refine WPq.thenR ?_ | refine WPq.thenE ?_ | refine WPq.blockN ?_ | refine WPq.blockR ?_ | refine WPq.blockE ?_ | refine WPq.blockO rfl ?_ | refine WPc.seq ?_ | refine WPc.block ?_ | refine WPc.ret ?_ | refine WPc.exit ?_ | refine WPc.skip ?_ | refine WPc.region ?_
   | (refine isCond ?_; first | refine WPc.cT ?_ | refine WPc.cF ?_ | (refine WPc.cQ (fun hc => ?_) (fun hc => ?_) <;> try first | exact prA | (exfalso; first | omega)))
   | (refine isD 9 ?_; refine WPl.rdX (ReadR.loadO memA rfl rfl) ?_)
   | (refine isD 11 ?_; refine WPl.rdX (ReadR.lookO hwf memA hc0 rfl rfl) ?_)
   | (refine isD 18 ?_; refine WPl.rdX (ReadR.binE rfl rfl (BinR.subI (by omega) (by omega)) (congrArg (Value.int .i64) hsub)) ?_)
   | (refine isD 20 ?_; refine WPl.rdX (ReadR.loadES hat (by omega) rfl hasA) ?_)
   | (refine isOp ?_; first | refine WPl.rd ?_ | refine WPl.sk ?_ | refine WPl.rdB ?_)
   | (refine isAl ?_; refine WPl.nw fun g => ?_)
   | (refine isSt ?_; first | refine WPl.st1 ?_ | refine WPl.stA ?_ | refine WPl.stEB ?_ | refine WPl.stRB ?_)
   | (show WPl _ _ _ _ _ _ _ (⟨_, .indexAddr _ _ _, _, _, _, _⟩ :: _) _; refine WPl.rdX (ReadR.indexE rfl rfl hasA (by first | assumption | omega)) ?_)
   | (show WPl _ _ _ _ _ _ _ (⟨_, .fieldAddr _ _ _, _, _, _, _⟩ :: _) _; refine WPl.rdX (ReadR.fieldE rfl hasA (by first | assumption | omega)) ?_)
   | (show WPl _ _ _ _ _ _ _ (⟨_, .load _ _, _, _, _, _⟩ :: _) _; first | refine WPl.rdX (ReadR.loadE rfl hasA (by assumption)) ?_ | refine WPl.rdX (ReadR.loadES (by assumption) (by first | assumption | omega) rfl hasA) ?_)
   | (show WPl _ _ _ _ _ _ _ (⟨_, .slice _ _ _ _ _, _, _, _, _⟩ :: _) _; first | refine WPl.rdX (ReadR.sliceH rfl rfl hasA (by omega)) ?_ | refine WPl.rdX (ReadR.sliceL rfl rfl hasA (by omega)) ?_ | refine WPl.rdX (ReadR.sliceLH rfl rfl rfl hasA (by omega) (by omega)) ?_)
   | (refine WPl.spQ (fun hc => ?_) (fun hc => ?_) <;> try first | exact prA | (exfalso; first | omega))
   | fail)
  all_goals exact WPq.dV (c := ag (secC s))
theorem nowL_t (j : Nat) (es : List (Int × Vs)) (hin : in64 (j : Int)) (s : Sec) (ls : List Sec) (hwv : (mget secM es (j : Int)) = ⟨.slice none 0 0, []⟩) (hs : ls[j]? = some s) (hn : ls.length ≤ 1000000) :
    Triple Try.prog 47 #[hD gV, .int .i64 (j : Int)] [rbx gV 79 (dvc fu vd mD cn), rmp secM mD es, rdN vd ls.length (secs ls)] (RVal (ag (secC s))) := by
  have hwf : secM.wf (j : Int) := hin
  have hc0 : secM.vc (mget secM es (j : Int)) = .slice none 0 0 := by rw [hwv]; rfl
  have hlt : j < ls.length := (List.getElem?_eq_some_iff.1 hs).1
  have hat : ((secs ls).drop (j * 256)).take 256 = flat (secC s) := secs_at hs
  have hsl := secs_len ls
  have hsb := s.len
  refine Triple.enter Try.func47 rfl Try.ntmps47 rfl (fun W => ?_)
  dsimp only [argsF, Nat.reduceAdd]
  repeat' (first
   | refine WPl.nil ?_ | refine WPq.then ?_ | refine WPq.thenR ?_ | refine WPq.thenE ?_ | refine WPq.blockN ?_ | refine WPq.blockR ?_ | refine WPq.blockE ?_ | refine WPq.blockO rfl ?_ | refine WPc.seq ?_ | refine WPc.block ?_ | refine WPc.ret ?_ | refine WPc.exit ?_ | refine WPc.skip ?_ | refine WPc.region ?_
   | (refine isCond ?_; first | refine WPc.cT ?_ | refine WPc.cF ?_ | (refine WPc.cQ (fun hc => ?_) (fun hc => ?_) <;> try first | exact prA | (exfalso; first | (simp at hc; done))))
   | (refine isD 9 ?_; refine WPl.rdX (ReadR.loadO memA rfl rfl) ?_)
   | (refine isD 24 ?_; refine WPl.rdX (ReadR.loadO memA rfl rfl) ?_)
   | (refine isD 11 ?_; refine WPl.rdX (ReadR.lookO hwf memA hc0 rfl rfl) ?_)
   | (refine isD 27 ?_; refine WPl.rdX (ReadR.loadES hat (by omega) rfl hasA) ?_)
   | (refine isOp ?_; first | refine WPl.rd ?_ | refine WPl.sk ?_ | refine WPl.rdB ?_)
   | (refine isAl ?_; refine WPl.nw fun g => ?_)
   | (refine isSt ?_; first | refine WPl.st1 ?_ | refine WPl.stA ?_ | refine WPl.stEB ?_ | refine WPl.stRB ?_)
   | (show WPl _ _ _ _ _ _ _ (⟨_, .indexAddr _ _ _, _, _, _, _⟩ :: _) _; refine WPl.rdX (ReadR.indexE rfl rfl hasA (by first | assumption | omega)) ?_)
   | (show WPl _ _ _ _ _ _ _ (⟨_, .fieldAddr _ _ _, _, _, _, _⟩ :: _) _; refine WPl.rdX (ReadR.fieldE rfl hasA (by first | assumption | omega)) ?_)
   | (show WPl _ _ _ _ _ _ _ (⟨_, .load _ _, _, _, _, _⟩ :: _) _; first | refine WPl.rdX (ReadR.loadE rfl hasA (by assumption)) ?_ | refine WPl.rdX (ReadR.loadES (by assumption) (by first | assumption | omega) rfl hasA) ?_)
   | (show WPl _ _ _ _ _ _ _ (⟨_, .slice _ _ _ _ _, _, _, _, _⟩ :: _) _; first | refine WPl.rdX (ReadR.sliceH rfl rfl hasA (by omega)) ?_ | refine WPl.rdX (ReadR.sliceL rfl rfl hasA (by omega)) ?_ | refine WPl.rdX (ReadR.sliceLH rfl rfl rfl hasA (by omega) (by omega)) ?_)
   | (refine WPl.spQ (fun hc => ?_) (fun hc => ?_) <;> try first | exact prA | (exfalso; first | (simp at hc; done)))
   | fail)
  all_goals exact WPq.dV (c := ag (secC s))
def skeys (es : List (Int × Vs)) : List Int := (es.map (·.1)).mergeSort (fun x y => decide (x ≤ y))
theorem waiting_t (es : List (Int × Vs)) (hl : es.length ≤ 1000000) :
    Triple Try.prog 48 #[hD gV] [rbx gV 79 (dvc fu vd mD cn), rmp secM mD es] (RRow 3 1 es.length (intsV (skeys es))) := by
  have c1 := keys_t mD
  have c2 := fun gk => sorted_t (M := secM) (fun _ => rfl) (fun _ h => h) gk mD es (by omega)
  refine Triple.enter Try.func48 rfl Try.ntmps48 rfl (fun W => ?_)
  dsimp only [argsF, Nat.reduceAdd]
  repeat' (first
   | refine WPl.nil ?_ | refine WPq.then ?_ | refine WPq.thenR ?_ | refine WPq.thenE ?_ | refine WPq.blockN ?_ | refine WPq.blockR ?_ | refine WPq.blockE ?_ | refine WPq.blockO rfl ?_ | refine WPc.seq ?_ | refine WPc.block ?_ | refine WPc.ret ?_ | refine WPc.exit ?_ | refine WPc.skip ?_ | refine WPc.region ?_
   | (refine isCond ?_; first | refine WPc.cT ?_ | refine WPc.cF ?_ | (refine WPc.cQ (fun hc => ?_) (fun hc => ?_) <;> try exact prA))
   | (refine isD 6 ?_; refine WPl.rdX (ReadR.loadO memA rfl rfl) ?_)
   | (refine isC 7 ?_; refine WPl.cXs (c1) fun v Γ1 hR => ?_; obtain ⟨gk, rfl, rfl⟩ := hR; (try dsimp only [putF, List.cons_append, List.nil_append]))
   | (refine isC 8 ?_; refine WPl.cR (c2 gk) (fun wv hwv => ?_) (hΔ := provsM))
   | (refine isOp ?_; first | refine WPl.rd ?_ | refine WPl.sk ?_ | refine WPl.rdB ?_)
   | (show WPl _ _ _ _ _ _ _ (⟨_, .indexAddr _ _ _, _, _, _, _⟩ :: _) _; refine WPl.rdX (ReadR.indexE rfl rfl hasA (by first | assumption | omega)) ?_)
   | (show WPl _ _ _ _ _ _ _ (⟨_, .fieldAddr _ _ _, _, _, _, _⟩ :: _) _; refine WPl.rdX (ReadR.fieldE rfl hasA (by first | assumption | omega)) ?_)
   | (show WPl _ _ _ _ _ _ _ (⟨_, .load _ _, _, _, _, _⟩ :: _) _; first | refine WPl.rdX (ReadR.loadE rfl hasA (by assumption)) ?_ | refine WPl.rdX (ReadR.loadES (by assumption) (by first | assumption | omega) rfl hasA) ?_)
   | (show WPl _ _ _ _ _ _ _ (⟨_, .slice _ _ _ _ _, _, _, _, _⟩ :: _) _; first | refine WPl.rdX (ReadR.sliceH rfl rfl hasA (by omega)) ?_ | refine WPl.rdX (ReadR.sliceL rfl rfl hasA (by omega)) ?_ | refine WPl.rdX (ReadR.sliceLH rfl rfl rfl hasA (by omega) (by omega)) ?_)
   | (refine WPl.spQ (fun hc => ?_) (fun hc => ?_) <;> try exact prA)
   | fail)
  all_goals exact WPq.dR
end
end Go.Proofs.Ytepmikgjnmjheaa
