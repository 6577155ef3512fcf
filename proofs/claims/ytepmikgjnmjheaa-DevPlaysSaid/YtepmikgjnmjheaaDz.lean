/- Layer 3 (dev): contracts: Flush. -/
import Derived.Test.YtepmikgjnmjheaaDy
namespace Go.Proofs.Ytepmikgjnmjheaa
open Go.RowKit
set_option linter.unusedSimpArgs false
set_option linter.unusedVariables false
set_option maxRecDepth 20000
set_option maxHeartbeats 4000000
attribute [local irreducible] WPc WPl WPq ReadR OpT BinR HasS bx rdN rowN Take Takes Prov Triple ResF BuildP Done ag Int.decLt Int.decLe Int.instDecidableEq
attribute [local irreducible] mp rmp rg rgo bag vrow secs mput mget mfind mdel
def nowAll (ls : List Sec) (es : List (Int × Vs)) : List Sec := ls.mapIdx fun j s => nowS s es j
theorem nowAll_len {ls : List Sec} {es : List (Int × Vs)} : (nowAll ls es).length = ls.length := by unfold nowAll; simp
theorem nowAll_at {ls : List Sec} {es : List (Int × Vs)} {j : Nat} : (nowAll ls es)[j]? = (ls[j]?).map (fun s => nowS s es j) := by unfold nowAll; simp
theorem mhas_any {es : List (Int × Vs)} {i : Int} : mhas es i = es.any (fun y => decide (y.1 = i)) := by
  unfold mhas
  induction es with
  | nil => with_unfolding_all rfl
  | cons a l ih =>
    rw [List.any_cons, ← ih, show mfind (a :: l) i = if a.1 = i then some a.2 else mfind l i by with_unfolding_all rfl]
    by_cases h : a.1 = i <;> simp [h]
theorem nowS_none {es : List (Int × Vs)} {j : Nat} {s : Sec} (h : mhas es (j : Int) = false) : nowS s es j = s := by
  have : mfind es (j : Int) = none := by unfold mhas at h; simpa using h
  unfold nowS; rw [this]
/-- The state of Flush's loop: td is left. -/
def FlI (ls : List Sec) (es : List (Int × Vs)) (cur : List Sec) (td : List (Int × Vs)) : Prop := cur.length = ls.length ∧ ∀ j : Nat, cur[j]? = if mhas td (j : Int) = true then ls[j]? else (nowAll ls es)[j]?
theorem FlI.start {ls : List Sec} {es : List (Int × Vs)} : FlI ls es ls es := by
  refine ⟨rfl, fun j => ?_⟩
  by_cases h : mhas es (j : Int) = true
  · rw [if_pos h]
  · rw [if_neg h, nowAll_at]
    have h2 : ∀ s, nowS s es j = s := fun s => nowS_none (by simpa using h)
    cases ls[j]? with
    | none => rfl
    | some s => simp [h2]
theorem FlI.stop {ls : List Sec} {es : List (Int × Vs)} {cur : List Sec} (h : FlI ls es cur []) : cur = nowAll ls es := by
  apply List.ext_getElem?
  intro j
  rw [h.2 j, mhas_any]; rfl
theorem FlI.step {ls : List Sec} {es : List (Int × Vs)} {cur : List Sec} {A B : List (Int × Vs)} {jj : Nat} {yv : Vs} {s : Sec} (h : FlI ls es cur (A ++ ((jj : Int), yv) :: B)) (hj : jj < ls.length) (hn : ((A ++ ((jj : Int), yv) :: B).map (·.1)).Nodup) (hs : ∀ t, nowS t es jj = s) : FlI ls es (cur.set jj s) (A ++ B) := by
  refine ⟨by rw [List.length_set]; exact h.1, fun j => ?_⟩
  rw [List.getElem?_set]
  by_cases e : jj = j
  · subst e
    rw [if_pos rfl, if_pos (by rw [h.1]; exact hj)]
    have : mhas (A ++ B) (jj : Int) = false := by
      rw [mhas_any, List.any_eq_false]
      intro x hx
      rw [List.map_append, List.map_cons, List.nodup_append, List.nodup_cons] at hn
      obtain ⟨_, ⟨h2, _⟩, h3⟩ := hn
      simp only [decide_eq_true_eq]
      intro hxe
      rcases List.mem_append.1 hx with hx | hx
      · exact h3 _ (List.mem_map.2 ⟨x, hx, rfl⟩) _ (List.mem_cons_self ..) hxe
      · exact h2 (List.mem_map.2 ⟨x, hx, hxe⟩)
    rw [this, if_neg (by simp), nowAll_at, List.getElem?_eq_getElem hj, Option.map_some, hs]
  · rw [if_neg e, h.2 j]
    have : mhas (A ++ ((jj : Int), yv) :: B) (j : Int) = mhas (A ++ B) (j : Int) := by
      rw [mhas_any, mhas_any, List.any_append, List.any_append, List.any_cons]
      have : decide ((jj : Int) = (j : Int)) = false := by simpa using fun h => e (by omega)
      rw [this, Bool.false_or]
    rw [this]
section
variable (gV mD : Nat) (vd : Value) (fu : List Int) (cn : Int) (ls : List Sec) (es : List (Int × Vs))
theorem flushN_t :
    Triple Try.prog 15 #[.pointer none] [] (RVal (.int .i64 1)) := by
  refine Triple.enter Try.func15 rfl Try.ntmps15 rfl (fun W => ?_)
  dsimp only [argsF, Nat.reduceAdd]
  repeat' (first
   | refine WPl.nil ?_ | refine WPq.then ?_ | refine WPq.thenR ?_ | refine WPq.thenE ?_ | refine WPq.blockN ?_ | refine WPq.blockR ?_ | refine WPq.blockE ?_ | refine WPq.blockO rfl ?_ | refine WPc.seq ?_ | refine WPc.block ?_ | refine WPc.ret ?_ | refine WPc.exit ?_ | refine WPc.skip ?_ | refine WPc.region ?_
   | (refine isReg 8 ?_; refine WPc.drA [([], [25, 26, 27, 28]), ([0], [21, 25, 26, 27, 28]), ([0, 1], [21, 22, 25, 26, 27, 28]), ([0, 1, 2], [21, 22, 23, 25, 26, 27, 28]), ([], [21, 22, 23, 24, 26, 27, 28]), ([], [21, 22, 23, 24, 25, 27]), ([], [21, 22, 23, 24, 25, 26]), ([5, 6], [21, 22, 23, 24, 25, 26, 27]), ([0, 1, 2, 3, 4, 5, 6, 7], [21, 22, 23, 24, 25, 26, 27, 28]), ([0, 1, 2, 3, 4, 5, 6, 7, 8], [21, 22, 23, 24, 25, 26, 27, 28, 29])] [] (Γx := []) ?_; dsimp only [prev0, List.length_nil, List.length_cons])
   | (refine gAny ?_; first | (refine gD 6 ?_; refine RGl.rdX (fun e hk => by (try dsimp only [bndR, ensR, oksR, fcutR, List.append_nil, List.nil_append, List.cons_append, List.append_assoc] at hk ⊢); exact readP) ?_) | (refine gOp ?_; first | refine RGl.rdA ?_ | refine RGl.rdX (fun e hk => by (try dsimp only [bndR, ensR, oksR, fcutR, List.append_nil, List.nil_append, List.cons_append, List.append_assoc] at hk ⊢); exact readB) ?_) | (refine gSt ?_; refine RGl.stA ?_) | (refine RGl.fin (fun e hk => ?_); (try dsimp only [bndA, ensAR, oksA, List.append_nil, List.nil_append, List.cons_append, List.append_assoc] at hk ⊢); (repeat (obtain ⟨hk1, hk⟩ := hk))) | fail)
   | (refine isCond ?_; first | refine WPc.cT ?_ | refine WPc.cF ?_ | (refine WPc.cQ (fun hc => ?_) (fun hc => ?_) <;> try exact prA))
   | (refine isD 6 ?_; refine WPl.rdX (readP) ?_)
   | (refine isOp ?_; first | refine WPl.rd ?_ | refine WPl.sk ?_ | refine WPl.rdB ?_)
   | (refine isSt ?_; first | refine WPl.st1 ?_ | refine WPl.stA ?_ | refine WPl.stEB ?_ | refine WPl.stRB ?_)
   | (show WPl _ _ _ _ _ _ _ (⟨_, .indexAddr _ _ _, _, _, _, _⟩ :: _) _; refine WPl.rdX (ReadR.indexE rfl rfl hasA (by first | assumption | omega)) ?_)
   | (show WPl _ _ _ _ _ _ _ (⟨_, .fieldAddr _ _ _, _, _, _, _⟩ :: _) _; refine WPl.rdX (ReadR.fieldE rfl hasA (by first | assumption | omega)) ?_)
   | (show WPl _ _ _ _ _ _ _ (⟨_, .load _ _, _, _, _, _⟩ :: _) _; first | refine WPl.rdX (ReadR.loadE rfl hasA (by assumption)) ?_ | refine WPl.rdX (ReadR.loadES (by assumption) (by first | assumption | omega) rfl hasA) ?_)
   | (show WPl _ _ _ _ _ _ _ (⟨_, .slice _ _ _ _ _, _, _, _, _⟩ :: _) _; first | refine WPl.rdX (ReadR.sliceH rfl rfl hasA (by omega)) ?_ | refine WPl.rdX (ReadR.sliceL rfl rfl hasA (by omega)) ?_ | refine WPl.rdX (ReadR.sliceLH rfl rfl rfl hasA (by omega) (by omega)) ?_)
   | (refine WPl.spQ (fun hc => ?_) (fun hc => ?_) <;> try exact prA)
   | fail)
  all_goals exact WPq.dV
theorem flushF_t (h4 : fu.length = 4) (ha : fu[3]? = some 0) :
    Triple Try.prog 15 #[hD gV] [(bx gV 79 (dvc fu vd mD cn))] (RTurns (.int .i64 3) [(bx gV 79 (dvc (fburn fu 3 0) vd mD cn))]) := by
  have c2 := burns_t gV mD vd fu cn 3 0 h4 (by omega) ha (by omega) (by omega)
  rw [show decide ((0 : Int) = 0) = true by simp] at c2
  refine Triple.enter Try.func15 rfl Try.ntmps15 rfl (fun W => ?_)
  dsimp only [argsF, Nat.reduceAdd]
  repeat' (first
   | refine WPl.nil ?_ | refine WPq.then ?_ | refine WPq.thenR ?_ | refine WPq.thenE ?_ | refine WPq.blockN ?_ | refine WPq.blockR ?_ | refine WPq.blockE ?_ | refine WPq.blockO rfl ?_ | refine WPc.seq ?_ | refine WPc.block ?_ | refine WPc.ret ?_ | refine WPc.exit ?_ | refine WPc.skip ?_ | refine WPc.region ?_
   | (refine isReg 8 ?_; refine WPc.drA [([], [25, 26, 27, 28]), ([0], [21, 25, 26, 27, 28]), ([0, 1], [21, 22, 25, 26, 27, 28]), ([0, 1, 2], [21, 22, 23, 25, 26, 27, 28]), ([], [21, 22, 23, 24, 26, 27, 28]), ([], [21, 22, 23, 24, 25, 27]), ([], [21, 22, 23, 24, 25, 26]), ([5, 6], [21, 22, 23, 24, 25, 26, 27]), ([0, 1, 2, 3, 4, 5, 6, 7], [21, 22, 23, 24, 25, 26, 27, 28]), ([0, 1, 2, 3, 4, 5, 6, 7, 8], [21, 22, 23, 24, 25, 26, 27, 28, 29])] [] (Γx := []) ?_; dsimp only [prev0, List.length_nil, List.length_cons])
   | (refine gAny ?_; first | (refine gC 11 ?_; refine RGl.turns (fun e hk => by (try dsimp only [bndR, ensR, oksR, fcutR, List.append_nil, List.nil_append, List.cons_append, List.append_assoc] at hk ⊢); exact OpT.callTs (c2)) ?_) | (refine gD 6 ?_; refine RGl.rdX (fun e hk => by (try dsimp only [bndR, ensR, oksR, fcutR, List.append_nil, List.nil_append, List.cons_append, List.append_assoc] at hk ⊢); exact readP) ?_) | (refine gOp ?_; first | refine RGl.rdA ?_ | refine RGl.rdX (fun e hk => by (try dsimp only [bndR, ensR, oksR, fcutR, List.append_nil, List.nil_append, List.cons_append, List.append_assoc] at hk ⊢); exact readB) ?_) | (refine gSt ?_; refine RGl.stA ?_) | (refine RGl.fin (fun e hk => ?_); (try dsimp only [bndA, ensAR, oksA, List.append_nil, List.nil_append, List.cons_append, List.append_assoc] at hk ⊢); (repeat (obtain ⟨hk1, hk⟩ := hk))) | fail)
   | (refine isCond ?_; first | refine WPc.cT ?_ | refine WPc.cF ?_ | (refine WPc.cQ (fun hc => ?_) (fun hc => ?_) <;> try exact prA))
   | (refine isD 6 ?_; refine WPl.rdX (readP) ?_)
   | (refine isC 11 ?_; refine WPl.cTs (c2) ?_; (try dsimp only [putF, List.cons_append, List.nil_append]))
   | (refine isOp ?_; first | refine WPl.rd ?_ | refine WPl.sk ?_ | refine WPl.rdB ?_)
   | (refine isSt ?_; first | refine WPl.st1 ?_ | refine WPl.stA ?_ | refine WPl.stEB ?_ | refine WPl.stRB ?_)
   | (show WPl _ _ _ _ _ _ _ (⟨_, .indexAddr _ _ _, _, _, _, _⟩ :: _) _; refine WPl.rdX (ReadR.indexE rfl rfl hasA (by first | assumption | omega)) ?_)
   | (show WPl _ _ _ _ _ _ _ (⟨_, .fieldAddr _ _ _, _, _, _, _⟩ :: _) _; refine WPl.rdX (ReadR.fieldE rfl hasA (by first | assumption | omega)) ?_)
   | (show WPl _ _ _ _ _ _ _ (⟨_, .load _ _, _, _, _, _⟩ :: _) _; first | refine WPl.rdX (ReadR.loadE rfl hasA (by assumption)) ?_ | refine WPl.rdX (ReadR.loadES (by assumption) (by first | assumption | omega) rfl hasA) ?_)
   | (show WPl _ _ _ _ _ _ _ (⟨_, .slice _ _ _ _ _, _, _, _, _⟩ :: _) _; first | refine WPl.rdX (ReadR.sliceH rfl rfl hasA (by omega)) ?_ | refine WPl.rdX (ReadR.sliceL rfl rfl hasA (by omega)) ?_ | refine WPl.rdX (ReadR.sliceLH rfl rfl rfl hasA (by omega) (by omega)) ?_)
   | (refine WPl.spQ (fun hc => ?_) (fun hc => ?_) <;> try exact prA)
   | fail)
  all_goals exact WPq.dTs
theorem flush_t (a : Int) (hn : ls.length ≤ 1000000) (h4 : fu.length = 4) (ha : fu[3]? = some a) (hlo : -1 ≤ a) (hhi : a ≤ 9223372036854775807) (h0 : a ≠ 0) (hok : EOk ls.length es) :
    Triple Try.prog 15 #[hD gV] [(bx gV 79 (dvc fu vd mD cn)), (rowN 81 256 vd (List.length ls) (secs ls)), mp secM mD es, bag es] (RTurns (.int .i64 0) [(bx gV 79 (dvc (fburn fu 3 a) vd mD cn)), rowN 81 256 vd ls.length (secs (nowAll ls es)), mp secM mD [], bag []]) := by
  have c2 := burns_t gV mD vd fu cn 3 a h4 (by omega) ha hlo hhi
  rw [show decide (a = 0) = false by simpa using h0] at c2
  refine Triple.enter Try.func15 rfl Try.ntmps15 rfl (fun W => ?_)
  dsimp only [argsF, Nat.reduceAdd]
  refine WPc.mkeys (M := secM) (m := mD) (l := es) memA fun hnd _ => ?_
  repeat' (first
   | refine WPl.nil ?_ | refine WPq.then ?_ | refine WPq.thenR ?_ | refine WPq.thenE ?_ | refine WPq.blockN ?_ | refine WPq.blockR ?_ | refine WPq.blockE ?_ | refine WPq.blockO rfl ?_ | refine WPc.seq ?_ | refine WPc.block ?_ | refine WPc.ret ?_ | refine WPc.exit ?_ | refine WPc.skip ?_ | refine WPc.region ?_
   | (refine isReg 8 ?_; refine WPc.drA [([], [25, 26, 27, 28]), ([0], [21, 25, 26, 27, 28]), ([0, 1], [21, 22, 25, 26, 27, 28]), ([0, 1, 2], [21, 22, 23, 25, 26, 27, 28]), ([], [21, 22, 23, 24, 26, 27, 28]), ([], [21, 22, 23, 24, 25, 27]), ([], [21, 22, 23, 24, 25, 26]), ([5, 6], [21, 22, 23, 24, 25, 26, 27]), ([0, 1, 2, 3, 4, 5, 6, 7], [21, 22, 23, 24, 25, 26, 27, 28]), ([0, 1, 2, 3, 4, 5, 6, 7, 8], [21, 22, 23, 24, 25, 26, 27, 28, 29])] [] (Γx := []) ?_; dsimp only [prev0, List.length_nil, List.length_cons])
   | (refine gAny ?_; first | (refine gC 11 ?_; refine RGl.turns (fun e hk => by (try dsimp only [bndR, ensR, oksR, fcutR, List.append_nil, List.nil_append, List.cons_append, List.append_assoc] at hk ⊢); exact OpT.callTs (c2)) ?_) | (refine gD 6 ?_; refine RGl.rdX (fun e hk => by (try dsimp only [bndR, ensR, oksR, fcutR, List.append_nil, List.nil_append, List.cons_append, List.append_assoc] at hk ⊢); exact readP) ?_) | (refine gOp ?_; first | refine RGl.rdA ?_ | refine RGl.rdX (fun e hk => by (try dsimp only [bndR, ensR, oksR, fcutR, List.append_nil, List.nil_append, List.cons_append, List.append_assoc] at hk ⊢); exact readB) ?_) | (refine gSt ?_; refine RGl.stA ?_) | (refine RGl.fin (fun e hk => ?_); (try dsimp only [bndA, ensAR, oksA, List.append_nil, List.nil_append, List.cons_append, List.append_assoc] at hk ⊢); (repeat (obtain ⟨hk1, hk⟩ := hk))) | fail)
   | (refine isCond ?_; first | refine WPc.cT ?_ | refine WPc.cF ?_ | (refine WPc.cQ (fun hc => ?_) (fun hc => ?_) <;> try exact prA))
   | (refine isD 6 ?_; refine WPl.rdX (readP) ?_)
   | (refine isC 11 ?_; refine WPl.cTs (c2) ?_; (try dsimp only [putF, List.cons_append, List.nil_append]))
   | (refine isD 16 ?_; refine WPl.mrange (M := secM) (l := es) fun r => ?_)
   | (refine isOp ?_; first | refine WPl.rd ?_ | refine WPl.sk ?_ | refine WPl.rdB ?_)
   | (refine isSt ?_; first | refine WPl.st1 ?_ | refine WPl.stA ?_ | refine WPl.stEB ?_ | refine WPl.stRB ?_)
   | (show WPl _ _ _ _ _ _ _ (⟨_, .indexAddr _ _ _, _, _, _, _⟩ :: _) _; refine WPl.rdX (ReadR.indexE rfl rfl hasA (by first | assumption | omega)) ?_)
   | (show WPl _ _ _ _ _ _ _ (⟨_, .fieldAddr _ _ _, _, _, _, _⟩ :: _) _; refine WPl.rdX (ReadR.fieldE rfl hasA (by first | assumption | omega)) ?_)
   | (show WPl _ _ _ _ _ _ _ (⟨_, .load _ _, _, _, _, _⟩ :: _) _; first | refine WPl.rdX (ReadR.loadE rfl hasA (by assumption)) ?_ | refine WPl.rdX (ReadR.loadES (by assumption) (by first | assumption | omega) rfl hasA) ?_)
   | (show WPl _ _ _ _ _ _ _ (⟨_, .slice _ _ _ _ _, _, _, _, _⟩ :: _) _; first | refine WPl.rdX (ReadR.sliceH rfl rfl hasA (by omega)) ?_ | refine WPl.rdX (ReadR.sliceL rfl rfl hasA (by omega)) ?_ | refine WPl.rdX (ReadR.sliceLH rfl rfl rfl hasA (by omega) (by omega)) ?_)
   | (refine WPl.spQ (fun hc => ?_) (fun hc => ?_) <;> try exact prA)
   | fail)
  first | refine WPc.loop (σ := List Sec × List (Int × Vs) × Option (Int × Vs)) (fun st => FlI ls es st.1 st.2.1) (fun st => [(bx gV 79 (dvc (fburn fu 3 a) vd mD cn)), rowN 81 256 vd ls.length (secs st.1), rg secM mD r es st.2.1 st.2.2, bag es]) (fun st => [(0, hD gV), (16, .pointer (some ⟨r, 0, none⟩))]) (fun st => st.2.1.length) ((ls, es, none)) ?_ takesA frsA (fun st km hx hk => ?_)
  · exact .start
  obtain ⟨cur, td, cu⟩ := st
  dsimp only at hx hk ⊢
  have hkm := hk
  have hsl := secs_len cur
  have hcl := hx.1
  refine WPc.rgsub (M := secM) (m := mD) (r := r) (l := es) (td := td) (c := cu) memA fun hsub _ hwf => ?_
  repeat' (first
   | refine WPl.nil ?_ | refine WPq.then ?_ | refine WPq.thenR ?_ | refine WPq.thenE ?_ | refine WPq.blockN ?_ | refine WPq.blockR ?_ | refine WPq.blockE ?_ | refine WPq.blockO rfl ?_ | refine WPc.seq ?_ | refine WPc.block ?_ | refine WPc.ret ?_ | refine WPc.exit ?_ | refine WPc.skip ?_ | refine WPc.region ?_
   | (refine isReg 8 ?_; refine WPc.drA [([], [25, 26, 27, 28]), ([0], [21, 25, 26, 27, 28]), ([0, 1], [21, 22, 25, 26, 27, 28]), ([0, 1, 2], [21, 22, 23, 25, 26, 27, 28]), ([], [21, 22, 23, 24, 26, 27, 28]), ([], [21, 22, 23, 24, 25, 27]), ([], [21, 22, 23, 24, 25, 26]), ([5, 6], [21, 22, 23, 24, 25, 26, 27]), ([0, 1, 2, 3, 4, 5, 6, 7], [21, 22, 23, 24, 25, 26, 27, 28]), ([0, 1, 2, 3, 4, 5, 6, 7, 8], [21, 22, 23, 24, 25, 26, 27, 28, 29])] [] (Γx := []) ?_; dsimp only [prev0, List.length_nil, List.length_cons])
   | (refine gAny ?_; first | (refine gOp ?_; first | refine RGl.rdA ?_ | refine RGl.rdX (fun e hk => by (try dsimp only [bndR, ensR, oksR, fcutR, List.append_nil, List.nil_append, List.cons_append, List.append_assoc] at hk ⊢); exact readB) ?_) | (refine gSt ?_; refine RGl.stA ?_) | (refine RGl.fin (fun e hk => ?_); (try dsimp only [bndA, ensAR, oksA, List.append_nil, List.nil_append, List.cons_append, List.append_assoc] at hk ⊢); (repeat (obtain ⟨hk1, hk⟩ := hk))) | fail)
   | (refine isCond ?_; first | refine WPc.cT ?_ | refine WPc.cF ?_ | (refine WPc.cQ (fun hc => ?_) (fun hc => ?_) <;> try exact prA))
   | (refine isD 17 ?_; refine WPl.mnext (M := secM) (fun k => .int .i64 k) (fun s => s.v) (fun h0 => ?_) (fun A y B hAB => ?_))
   | (refine isOp ?_; first | refine WPl.rd ?_ | refine WPl.sk ?_ | refine WPl.rdB ?_)
   | (refine isSt ?_; first | refine WPl.st1 ?_ | refine WPl.stA ?_ | refine WPl.stEB ?_ | refine WPl.stRB ?_)
   | (show WPl _ _ _ _ _ _ _ (⟨_, .indexAddr _ _ _, _, _, _, _⟩ :: _) _; refine WPl.rdX (ReadR.indexE rfl rfl hasA (by first | assumption | omega)) ?_)
   | (show WPl _ _ _ _ _ _ _ (⟨_, .fieldAddr _ _ _, _, _, _, _⟩ :: _) _; refine WPl.rdX (ReadR.fieldE rfl hasA (by first | assumption | omega)) ?_)
   | (show WPl _ _ _ _ _ _ _ (⟨_, .load _ _, _, _, _, _⟩ :: _) _; first | refine WPl.rdX (ReadR.loadE rfl hasA (by assumption)) ?_ | refine WPl.rdX (ReadR.loadES (by assumption) (by first | assumption | omega) rfl hasA) ?_)
   | (show WPl _ _ _ _ _ _ _ (⟨_, .slice _ _ _ _ _, _, _, _, _⟩ :: _) _; first | refine WPl.rdX (ReadR.sliceH rfl rfl hasA (by omega)) ?_ | refine WPl.rdX (ReadR.sliceL rfl rfl hasA (by omega)) ?_ | refine WPl.rdX (ReadR.sliceLH rfl rfl rfl hasA (by omega) (by omega)) ?_)
   | (refine WPl.spQ (fun hc => ?_) (fun hc => ?_) <;> try exact prA)
   | fail)
  · refine WPl.rgOut (M := secM) (m := mD) (r := r) (l := es) (td := td) (c := cu) ?_
    subst h0
    obtain rfl := hx.stop
    repeat' (first
     | refine WPl.nil ?_ | refine WPq.then ?_ | refine WPq.thenR ?_ | refine WPq.thenE ?_ | refine WPq.blockN ?_ | refine WPq.blockR ?_ | refine WPq.blockE ?_ | refine WPq.blockO rfl ?_ | refine WPc.seq ?_ | refine WPc.block ?_ | refine WPc.ret ?_ | refine WPc.exit ?_ | refine WPc.skip ?_ | refine WPc.region ?_
     | (refine isReg 8 ?_; refine WPc.drA [([], [25, 26, 27, 28]), ([0], [21, 25, 26, 27, 28]), ([0, 1], [21, 22, 25, 26, 27, 28]), ([0, 1, 2], [21, 22, 23, 25, 26, 27, 28]), ([], [21, 22, 23, 24, 26, 27, 28]), ([], [21, 22, 23, 24, 25, 27]), ([], [21, 22, 23, 24, 25, 26]), ([5, 6], [21, 22, 23, 24, 25, 26, 27]), ([0, 1, 2, 3, 4, 5, 6, 7], [21, 22, 23, 24, 25, 26, 27, 28]), ([0, 1, 2, 3, 4, 5, 6, 7, 8], [21, 22, 23, 24, 25, 26, 27, 28, 29])] [] (Γx := []) ?_; dsimp only [prev0, List.length_nil, List.length_cons])
     | (refine gAny ?_; first | (refine gOp ?_; first | refine RGl.rdA ?_ | refine RGl.rdX (fun e hk => by (try dsimp only [bndR, ensR, oksR, fcutR, List.append_nil, List.nil_append, List.cons_append, List.append_assoc] at hk ⊢); exact readB) ?_) | (refine gSt ?_; refine RGl.stA ?_) | (refine RGl.fin (fun e hk => ?_); (try dsimp only [bndA, ensAR, oksA, List.append_nil, List.nil_append, List.cons_append, List.append_assoc] at hk ⊢); (repeat (obtain ⟨hk1, hk⟩ := hk))) | fail)
     | (refine isCond ?_; first | refine WPc.cT ?_ | refine WPc.cF ?_ | (refine WPc.cQ (fun hc => ?_) (fun hc => ?_) <;> try exact prA))
     | (show WPl _ _ _ _ _ _ _ (⟨none, .call ⟨.builtin .clear, _, _⟩, _, _, _, _⟩ :: _) _; refine WPl.clearM (M := secM) ?_)
     | (refine isOp ?_; first | refine WPl.rd ?_ | refine WPl.sk ?_ | refine WPl.rdB ?_)
     | (refine isSt ?_; first | refine WPl.st1 ?_ | refine WPl.stA ?_ | refine WPl.stEB ?_ | refine WPl.stRB ?_)
     | (show WPl _ _ _ _ _ _ _ (⟨_, .indexAddr _ _ _, _, _, _, _⟩ :: _) _; refine WPl.rdX (ReadR.indexE rfl rfl hasA (by first | assumption | omega)) ?_)
     | (show WPl _ _ _ _ _ _ _ (⟨_, .fieldAddr _ _ _, _, _, _, _⟩ :: _) _; refine WPl.rdX (ReadR.fieldE rfl hasA (by first | assumption | omega)) ?_)
     | (show WPl _ _ _ _ _ _ _ (⟨_, .load _ _, _, _, _, _⟩ :: _) _; first | refine WPl.rdX (ReadR.loadE rfl hasA (by assumption)) ?_ | refine WPl.rdX (ReadR.loadES (by assumption) (by first | assumption | omega) rfl hasA) ?_)
     | (show WPl _ _ _ _ _ _ _ (⟨_, .slice _ _ _ _ _, _, _, _, _⟩ :: _) _; first | refine WPl.rdX (ReadR.sliceH rfl rfl hasA (by omega)) ?_ | refine WPl.rdX (ReadR.sliceL rfl rfl hasA (by omega)) ?_ | refine WPl.rdX (ReadR.sliceLH rfl rfl rfl hasA (by omega) (by omega)) ?_)
     | (refine WPl.spQ (fun hc => ?_) (fun hc => ?_) <;> try exact prA)
     | fail)
    all_goals refine WPq.bag0 ?_
    exact WPq.dTp (ho := ownsV)
  · obtain ⟨yk, yv, ws⟩ := y
    have hmem : (yk, Vs.mk yv ws) ∈ es := hsub.subset (by rw [hAB]; simp)
    obtain ⟨⟨jj, hjk, hjl⟩, hne, hlw⟩ := hok _ hmem
    dsimp only at hjk hjl hne hlw ⊢
    subst hjk
    have hfy : mfind es (jj : Int) = some ⟨yv, ws⟩ := mfind_at hnd hmem
    have hlt : ws.length - 1 < ws.length := by have := List.length_pos_iff.2 hne; omega
    have hin : in64 (jj : Int) := by unfold in64; omega
    have hr : ∀ t, nowS t es jj = ws[ws.length - 1] := by
      intro t
      unfold nowS
      rw [hfy]
      show ws.getLastD t = _
      rw [List.getLastD_eq_getLast?, List.getLast?_eq_getElem?, List.getElem?_eq_getElem hlt]
      rfl
    have c3 := nowW_t gV mD vd (fburn fu 3 a) cn (jj : Int) es hin ws[ws.length - 1] yv ws (by rw [mget_of_find hfy]) (List.getElem?_eq_getElem hlt) (by omega)
    obtain ⟨s, hs⟩ : ∃ s, s = ws[ws.length - 1] := ⟨_, rfl⟩
    rw [← hs] at c3 hr
    have hsb := s.len
    have hfs := secC_ok s
    have hset := secs_set s (show jj < cur.length by omega)
    have hi8 : jj * 256 + 256 ≤ (secs cur).length := by omega
    refine WPl.bagO hfy ?_
    repeat' (first
     | refine WPl.nil ?_ | refine WPq.then ?_ | refine WPq.thenR ?_ | refine WPq.thenE ?_ | refine WPq.blockN ?_ | refine WPq.blockR ?_ | refine WPq.blockE ?_ | refine WPq.blockO rfl ?_ | refine WPc.seq ?_ | refine WPc.block ?_ | refine WPc.ret ?_ | refine WPc.exit ?_ | refine WPc.skip ?_ | refine WPc.region ?_
     | (refine isReg 8 ?_; refine WPc.drA [([10], [25, 26, 27, 28]), ([0, 10], [21, 25, 26, 27, 28]), ([0, 1, 10], [21, 22, 25, 26, 27, 28]), ([0, 1, 2, 10], [21, 22, 23, 25, 26, 27, 28]), ([10], [21, 22, 23, 24, 26, 27, 28]), ([10], [21, 22, 23, 24, 25, 27]), ([10], [21, 22, 23, 24, 25, 26]), ([5, 6, 10], [21, 22, 23, 24, 25, 26, 27]), ([0, 1, 2, 3, 4, 5, 6, 7, 10], [21, 22, 23, 24, 25, 26, 27, 28]), ([0, 1, 2, 3, 4, 5, 6, 7, 8, 10], [21, 22, 23, 24, 25, 26, 27, 28, 29])] [(10, 9), (10, 0), (10, 1), (10, 2), (10, 3), (10, 4), (10, 5), (10, 6), (10, 7), (10, 8)] (Γx := [rowN 81 256 vd ls.length (secs cur)]) ?_; dsimp only [prev0, List.length_nil, List.length_cons])
     | (refine gAny ?_; first | (show RGl _ _ _ _ _ _ _ _ (⟨_, .store _ (.tmp 29) _, _, _, _, _⟩ :: _) _ _; refine RGl.turn (fun e hk => by (try dsimp only [bndR, ensR, oksR, fcutR, List.append_nil, List.nil_append, List.cons_append, List.append_assoc] at hk ⊢); exact OpT.storeES rfl rfl takesA hfs (show total (secC s) = 256 from rfl) hi8 (Nat.succ_pos 255)) ?_) | (refine gD 19 ?_; refine RGl.rdX (fun e hk => by (try dsimp only [bndR, ensR, oksR, fcutR, List.append_nil, List.nil_append, List.cons_append, List.append_assoc] at hk ⊢); exact ReadR.entry (kv := .int .i64 (jj : Int)) (vv := yv) rfl rfl memA rfl) ?_) | (refine gOp ?_; (refine gC 28 ?_; refine RGl.vl (fun e hk => OpT.callN c3 (hΔ := by (try dsimp only [bndR, ensR, oksR, fcutR, List.append_nil, List.nil_append, List.cons_append, List.append_assoc] at hk ⊢); exact provsG)) ?_)) | (refine gD 29 ?_; refine RGl.rdX (fun e hk => by (try dsimp only [bndR, ensR, oksR, fcutR, List.append_nil, List.nil_append, List.cons_append, List.append_assoc] at hk ⊢); exact ReadR.indexE rfl rfl hasA (by omega)) ?_) | (refine gOp ?_; first | refine RGl.rdA ?_ | refine RGl.rdX (fun e hk => by (try dsimp only [bndR, ensR, oksR, fcutR, List.append_nil, List.nil_append, List.cons_append, List.append_assoc] at hk ⊢); exact readB) ?_) | (refine gSt ?_; refine RGl.stA ?_) | (refine RGl.fin (fun e hk => ?_); (try dsimp only [bndA, ensAR, oksA, List.append_nil, List.nil_append, List.cons_append, List.append_assoc] at hk ⊢); (repeat (obtain ⟨hk1, hk⟩ := hk))) | fail)
     | (refine isCond ?_; first | refine WPc.cT ?_ | refine WPc.cF ?_ | (refine WPc.cQ (fun hc => ?_) (fun hc => ?_) <;> try exact prA))
     | (refine isD 19 ?_; refine WPl.rdX (ReadR.entry (kv := .int .i64 (jj : Int)) (vv := yv) rfl rfl memA rfl) ?_)
     | (refine isOp ?_; first | refine WPl.rd ?_ | refine WPl.sk ?_ | refine WPl.rdB ?_)
     | (refine isSt ?_; first | refine WPl.st1 ?_ | refine WPl.stA ?_ | refine WPl.stEB ?_ | refine WPl.stRB ?_)
     | (show WPl _ _ _ _ _ _ _ (⟨_, .indexAddr _ _ _, _, _, _, _⟩ :: _) _; refine WPl.rdX (ReadR.indexE rfl rfl hasA (by first | assumption | omega)) ?_)
     | (show WPl _ _ _ _ _ _ _ (⟨_, .fieldAddr _ _ _, _, _, _, _⟩ :: _) _; refine WPl.rdX (ReadR.fieldE rfl hasA (by first | assumption | omega)) ?_)
     | (show WPl _ _ _ _ _ _ _ (⟨_, .load _ _, _, _, _, _⟩ :: _) _; first | refine WPl.rdX (ReadR.loadE rfl hasA (by assumption)) ?_ | refine WPl.rdX (ReadR.loadES (by assumption) (by first | assumption | omega) rfl hasA) ?_)
     | (show WPl _ _ _ _ _ _ _ (⟨_, .slice _ _ _ _ _, _, _, _, _⟩ :: _) _; first | refine WPl.rdX (ReadR.sliceH rfl rfl hasA (by omega)) ?_ | refine WPl.rdX (ReadR.sliceL rfl rfl hasA (by omega)) ?_ | refine WPl.rdX (ReadR.sliceLH rfl rfl rfl hasA (by omega) (by omega)) ?_)
     | (refine WPl.spQ (fun hc => ?_) (fun hc => ?_) <;> try exact prA)
     | fail)
    rw [hset]
    refine WPq.bagI hfy ?_
    exact WPq.rnd (cur.set jj s, A ++ B, some ((jj : Int), ⟨yv, ws⟩)) (FlI.step (hAB ▸ hx) hjl (hAB ▸ (hsub.map _).nodup hnd) hr) (by rw [hkm, hAB]; simp)
end
end Go.Proofs.Ytepmikgjnmjheaa
