/- Layer 21 (health): a report: contract. -/
import Derived.Test.YtncgponcedkihaaHe
namespace Go.Proofs.Ytncgponcedkihaa
open Go.RowKit
set_option linter.unusedSimpArgs false
set_option linter.unusedVariables false
set_option maxRecDepth 20000
set_option maxHeartbeats 4000000
attribute [local irreducible] WPc WPl WPq ReadR OpT BinR HasS bx rdN rowN Take Takes Prov Triple ResF BuildP Done ag Int.decLt Int.decLe Int.instDecidableEq
attribute [local irreducible] mp mput mget mfind
theorem hreport_t (gh m : Nat) (rise fall s b : Int) (ok : Bool) (L : HL) (st : Bool × Int) (r : Bool) (hstep : stepS rise fall ok (mget whoM L (s, b)) = (st, r)) (hs : in64 s) (hb : in64 b) :
    Triple Try.prog 53 #[hP gh, .int .i64 s, .int .i64 b, .bool ok] [bx gh 164 (hbc rise fall m), mp whoM m L] (RTurns (.bool r) [bx gh 164 (hbc rise fall m), mp whoM m (mput L (s, b) st)]) := by
  obtain ⟨s0, hst⟩ : ∃ s0, s0 = mget whoM L (s, b) := ⟨_, rfl⟩
  rw [← hst] at hstep
  obtain ⟨dn, row⟩ := s0
  have hget : whoM.vc (mget whoM L (s, b)) = ag [(1, [.bool dn]), (1, [.int .i64 row])] := by rw [← hst]; rfl
  have hwf : whoM.wf (s, b) := ⟨hs, hb⟩
  by_cases hne : ok = dn
  · subst hne
    simp only [stepS, ne_eq, not_true_eq_false, if_false] at hstep
    obtain ⟨w, hw⟩ : ∃ w, w = IntKind.i64.wrap (row + 1) := ⟨_, rfl⟩
    rw [← hw] at hstep
    cases ok with
    | true =>
      by_cases hn : rise ≤ w
      · simp only [if_true, if_pos hn, Prod.mk.injEq] at hstep
        obtain ⟨rfl, rfl⟩ := hstep
        refine Triple.enter Try.func53 rfl Try.ntmps53 rfl (fun W => ?_)
        dsimp only [argsF, Nat.reduceAdd]
        repeat' (first
         | refine WPl.nil ?_ | refine WPq.then ?_ | refine WPq.thenR ?_ | refine WPq.thenE ?_ | refine WPq.blockN ?_ | refine WPq.blockR ?_ | refine WPq.blockE ?_ | refine WPq.blockO rfl ?_ | refine WPc.seq ?_ | refine WPc.block ?_ | refine WPc.ret ?_ | refine WPc.exit ?_ | refine WPc.skip ?_ | refine WPc.region ?_
         | (refine isReg 4 ?_; refine WPc.drA [([], [10, 22]), ([0], [10, 18, 22]), ([0, 1], [10, 18, 19, 22]), ([0, 1, 2], [10, 18, 19, 20, 22]), ([], [10, 18, 19, 20, 21]), ([0, 1, 2, 3, 4], [10, 18, 19, 20, 21, 22]), ([], [18, 19, 20, 21, 22, 23]), ([0, 1, 2, 3, 4, 5, 6], [10, 18, 19, 20, 21, 22, 23])] [(6, 7)] (Γx := []) ?_; dsimp only [prev0, List.length_nil, List.length_cons])
         | (refine isReg 6 ?_; refine WPc.drA [([9], [32, 33, 34, 35]), ([0, 9], [28, 32, 33, 34, 35]), ([0, 1, 9], [28, 29, 32, 33, 34, 35]), ([0, 1, 2, 9], [28, 29, 30, 32, 33, 34, 35]), ([9], [28, 29, 30, 31, 33, 34, 35]), ([9], [28, 29, 30, 31, 32]), ([5, 9], [28, 29, 30, 31, 32, 33]), ([5, 6, 9], [28, 29, 30, 31, 32, 33, 34]), ([0, 1, 2, 3, 4, 5, 6, 7, 9], [28, 29, 30, 31, 32, 33, 34, 35])] [(9, 8), (9, 0), (9, 1), (9, 2), (9, 3), (9, 4), (9, 5), (9, 6), (9, 7)] (Γx := [mp whoM m L]) (hox := ownsA) ?_; dsimp only [prev0, List.length_nil, List.length_cons])
         | (refine isReg 15 ?_; refine WPc.drA [([7], [63, 64]), ([0, 7], [59, 63, 64]), ([0, 1, 7], [59, 60, 63, 64]), ([0, 1, 2, 7], [59, 60, 61, 63, 64]), ([7], [59, 60, 61, 62, 64]), ([7], [59, 60, 61, 62, 63]), ([0, 1, 2, 3, 4, 5, 7], [59, 60, 61, 62, 63, 64])] [(7, 6), (7, 0), (7, 1), (7, 2), (7, 3), (7, 4), (7, 5)] (Γx := [mp whoM m L]) (hox := ownsA) ?_; dsimp only [prev0, List.length_nil, List.length_cons])
         | (refine gAny ?_; first | (refine gOp ?_; refine RGl.turn (fun e hk => by (try dsimp only [bndR, ensR, oksR, fcutR, List.append_nil, List.nil_append, List.cons_append, List.append_assoc] at hk ⊢); exact OpT.mput (k := (s, b)) (v := (false, 0)) (hwf) rfl rfl rfl takesA) ?_) | (refine gD 14 ?_; refine RGl.rdX (fun e hk => by (try dsimp only [bndR, ensR, oksR, fcutR, List.append_nil, List.nil_append, List.cons_append, List.append_assoc] at hk ⊢); exact readP) ?_) | (refine gD 23 ?_; refine RGl.rdX (fun e hk => by (try dsimp only [bndR, ensR, oksR, fcutR, List.append_nil, List.nil_append, List.cons_append, List.append_assoc] at hk ⊢); exact ReadR.look (M := whoM) (k := (s, b)) ⟨hs, hb⟩ rfl rfl memA hget) ?_) | (refine gD 38 ?_; refine RGl.rdX (fun e hk => by (try dsimp only [bndR, ensR, oksR, fcutR, List.append_nil, List.nil_append, List.cons_append, List.append_assoc] at hk ⊢); exact ReadR.binE rfl rfl BinR.addW (congrArg (Value.int .i64) hw.symm)) ?_) | (refine gD 53 ?_; refine RGl.rdX (fun e hk => by (try dsimp only [bndR, ensR, oksR, fcutR, List.append_nil, List.nil_append, List.cons_append, List.append_assoc] at hk ⊢); exact ReadR.binE rfl rfl BinR.geq (congrArg Value.bool (decide_eq_true hn))) ?_) | (refine gOp ?_; first | refine RGl.rdA ?_ | refine RGl.rdX (fun e hk => by (try dsimp only [bndR, ensR, oksR, fcutR, List.append_nil, List.nil_append, List.cons_append, List.append_assoc] at hk ⊢); exact readB) ?_) | (refine gAl ?_; refine RGl.nwA ?_) | (refine gSt ?_; refine RGl.stA ?_) | (refine RGl.fin (fun e hk => ?_); (try dsimp only [bndA, ensAR, oksA, List.append_nil, List.nil_append, List.cons_append, List.append_assoc] at hk ⊢); (repeat (obtain ⟨hk1, hk⟩ := hk))) | fail)
         | (refine isCond ?_; first | refine WPc.cT ?_ | refine WPc.cF ?_ | (refine WPc.cQ (fun hc => ?_) (fun hc => ?_) <;> try exact prA))
         | (refine isD 14 ?_; refine WPl.rdX (readP) ?_)
         | (refine isD 23 ?_; refine WPl.rdX (ReadR.look (M := whoM) (k := (s, b)) ⟨hs, hb⟩ rfl rfl memA hget) ?_)
         | (refine isD 38 ?_; refine WPl.rdX (ReadR.binE rfl rfl BinR.addW (congrArg (Value.int .i64) hw.symm)) ?_)
         | (refine isD 53 ?_; refine WPl.rdX (ReadR.binE rfl rfl BinR.geq (congrArg Value.bool (decide_eq_true hn))) ?_)
         | (refine WPl.mput ((s, b)) ((false, 0)) (hwf) ?_)
         | (refine isOp ?_; first | refine WPl.rd ?_ | refine WPl.sk ?_ | refine WPl.rdB ?_)
         | (refine isAl ?_; refine WPl.nw fun g => ?_)
         | (refine isSt ?_; first | refine WPl.st1 ?_ | refine WPl.stA ?_ | refine WPl.stEB ?_ | refine WPl.stRB ?_)
         | (show WPl _ _ _ _ _ _ _ (⟨_, .indexAddr _ _ _, _, _, _, _⟩ :: _) _; refine WPl.rdX (ReadR.indexE rfl rfl hasA (by first | assumption | omega)) ?_)
         | (show WPl _ _ _ _ _ _ _ (⟨_, .fieldAddr _ _ _, _, _, _, _⟩ :: _) _; refine WPl.rdX (ReadR.fieldE rfl hasA (by first | assumption | omega)) ?_)
         | (show WPl _ _ _ _ _ _ _ (⟨_, .load _ _, _, _, _, _⟩ :: _) _; first | refine WPl.rdX (ReadR.loadE rfl hasA (by assumption)) ?_ | refine WPl.rdX (ReadR.loadES (by assumption) (by first | assumption | omega) rfl hasA) ?_)
         | (show WPl _ _ _ _ _ _ _ (⟨_, .slice _ _ _ _ _, _, _, _, _⟩ :: _) _; first | refine WPl.rdX (ReadR.sliceH rfl rfl hasA (by omega)) ?_ | refine WPl.rdX (ReadR.sliceL rfl rfl hasA (by omega)) ?_ | refine WPl.rdX (ReadR.sliceLH rfl rfl rfl hasA (by omega) (by omega)) ?_)
         | (refine WPl.spQ (fun hc => ?_) (fun hc => ?_) <;> try exact prA)
         | fail)
        all_goals exact WPq.dTs
      · simp only [if_true, if_neg hn, Prod.mk.injEq] at hstep
        obtain ⟨rfl, rfl⟩ := hstep
        refine Triple.enter Try.func53 rfl Try.ntmps53 rfl (fun W => ?_)
        dsimp only [argsF, Nat.reduceAdd]
        repeat' (first
         | refine WPl.nil ?_ | refine WPq.then ?_ | refine WPq.thenR ?_ | refine WPq.thenE ?_ | refine WPq.blockN ?_ | refine WPq.blockR ?_ | refine WPq.blockE ?_ | refine WPq.blockO rfl ?_ | refine WPc.seq ?_ | refine WPc.block ?_ | refine WPc.ret ?_ | refine WPc.exit ?_ | refine WPc.skip ?_ | refine WPc.region ?_
         | (refine isReg 4 ?_; refine WPc.drA [([], [10, 22]), ([0], [10, 18, 22]), ([0, 1], [10, 18, 19, 22]), ([0, 1, 2], [10, 18, 19, 20, 22]), ([], [10, 18, 19, 20, 21]), ([0, 1, 2, 3, 4], [10, 18, 19, 20, 21, 22]), ([], [18, 19, 20, 21, 22, 23]), ([0, 1, 2, 3, 4, 5, 6], [10, 18, 19, 20, 21, 22, 23])] [(6, 7)] (Γx := []) ?_; dsimp only [prev0, List.length_nil, List.length_cons])
         | (refine isReg 6 ?_; refine WPc.drA [([9], [32, 33, 34, 35]), ([0, 9], [28, 32, 33, 34, 35]), ([0, 1, 9], [28, 29, 32, 33, 34, 35]), ([0, 1, 2, 9], [28, 29, 30, 32, 33, 34, 35]), ([9], [28, 29, 30, 31, 33, 34, 35]), ([9], [28, 29, 30, 31, 32]), ([5, 9], [28, 29, 30, 31, 32, 33]), ([5, 6, 9], [28, 29, 30, 31, 32, 33, 34]), ([0, 1, 2, 3, 4, 5, 6, 7, 9], [28, 29, 30, 31, 32, 33, 34, 35])] [(9, 8), (9, 0), (9, 1), (9, 2), (9, 3), (9, 4), (9, 5), (9, 6), (9, 7)] (Γx := [mp whoM m L]) (hox := ownsA) ?_; dsimp only [prev0, List.length_nil, List.length_cons])
         | (refine isReg 15 ?_; refine WPc.drA [([7], [63, 64]), ([0, 7], [59, 63, 64]), ([0, 1, 7], [59, 60, 63, 64]), ([0, 1, 2, 7], [59, 60, 61, 63, 64]), ([7], [59, 60, 61, 62, 64]), ([7], [59, 60, 61, 62, 63]), ([0, 1, 2, 3, 4, 5, 7], [59, 60, 61, 62, 63, 64])] [(7, 6), (7, 0), (7, 1), (7, 2), (7, 3), (7, 4), (7, 5)] (Γx := [mp whoM m L]) (hox := ownsA) ?_; dsimp only [prev0, List.length_nil, List.length_cons])
         | (refine gAny ?_; first | (refine gOp ?_; refine RGl.turn (fun e hk => by (try dsimp only [bndR, ensR, oksR, fcutR, List.append_nil, List.nil_append, List.cons_append, List.append_assoc] at hk ⊢); exact OpT.mput (k := (s, b)) (v := (true, w)) (hwf) rfl rfl rfl takesA) ?_) | (refine gD 14 ?_; refine RGl.rdX (fun e hk => by (try dsimp only [bndR, ensR, oksR, fcutR, List.append_nil, List.nil_append, List.cons_append, List.append_assoc] at hk ⊢); exact readP) ?_) | (refine gD 23 ?_; refine RGl.rdX (fun e hk => by (try dsimp only [bndR, ensR, oksR, fcutR, List.append_nil, List.nil_append, List.cons_append, List.append_assoc] at hk ⊢); exact ReadR.look (M := whoM) (k := (s, b)) ⟨hs, hb⟩ rfl rfl memA hget) ?_) | (refine gD 38 ?_; refine RGl.rdX (fun e hk => by (try dsimp only [bndR, ensR, oksR, fcutR, List.append_nil, List.nil_append, List.cons_append, List.append_assoc] at hk ⊢); exact ReadR.binE rfl rfl BinR.addW (congrArg (Value.int .i64) hw.symm)) ?_) | (refine gD 53 ?_; refine RGl.rdX (fun e hk => by (try dsimp only [bndR, ensR, oksR, fcutR, List.append_nil, List.nil_append, List.cons_append, List.append_assoc] at hk ⊢); exact ReadR.binE rfl rfl BinR.geq (congrArg Value.bool (decide_eq_false hn))) ?_) | (refine gOp ?_; first | refine RGl.rdA ?_ | refine RGl.rdX (fun e hk => by (try dsimp only [bndR, ensR, oksR, fcutR, List.append_nil, List.nil_append, List.cons_append, List.append_assoc] at hk ⊢); exact readB) ?_) | (refine gAl ?_; refine RGl.nwA ?_) | (refine gSt ?_; refine RGl.stA ?_) | (refine RGl.fin (fun e hk => ?_); (try dsimp only [bndA, ensAR, oksA, List.append_nil, List.nil_append, List.cons_append, List.append_assoc] at hk ⊢); (repeat (obtain ⟨hk1, hk⟩ := hk))) | fail)
         | (refine isCond ?_; first | refine WPc.cT ?_ | refine WPc.cF ?_ | (refine WPc.cQ (fun hc => ?_) (fun hc => ?_) <;> try exact prA))
         | (refine isD 14 ?_; refine WPl.rdX (readP) ?_)
         | (refine isD 23 ?_; refine WPl.rdX (ReadR.look (M := whoM) (k := (s, b)) ⟨hs, hb⟩ rfl rfl memA hget) ?_)
         | (refine isD 38 ?_; refine WPl.rdX (ReadR.binE rfl rfl BinR.addW (congrArg (Value.int .i64) hw.symm)) ?_)
         | (refine isD 53 ?_; refine WPl.rdX (ReadR.binE rfl rfl BinR.geq (congrArg Value.bool (decide_eq_false hn))) ?_)
         | (refine WPl.mput ((s, b)) ((true, w)) (hwf) ?_)
         | (refine isOp ?_; first | refine WPl.rd ?_ | refine WPl.sk ?_ | refine WPl.rdB ?_)
         | (refine isAl ?_; refine WPl.nw fun g => ?_)
         | (refine isSt ?_; first | refine WPl.st1 ?_ | refine WPl.stA ?_ | refine WPl.stEB ?_ | refine WPl.stRB ?_)
         | (show WPl _ _ _ _ _ _ _ (⟨_, .indexAddr _ _ _, _, _, _, _⟩ :: _) _; refine WPl.rdX (ReadR.indexE rfl rfl hasA (by first | assumption | omega)) ?_)
         | (show WPl _ _ _ _ _ _ _ (⟨_, .fieldAddr _ _ _, _, _, _, _⟩ :: _) _; refine WPl.rdX (ReadR.fieldE rfl hasA (by first | assumption | omega)) ?_)
         | (show WPl _ _ _ _ _ _ _ (⟨_, .load _ _, _, _, _, _⟩ :: _) _; first | refine WPl.rdX (ReadR.loadE rfl hasA (by assumption)) ?_ | refine WPl.rdX (ReadR.loadES (by assumption) (by first | assumption | omega) rfl hasA) ?_)
         | (show WPl _ _ _ _ _ _ _ (⟨_, .slice _ _ _ _ _, _, _, _, _⟩ :: _) _; first | refine WPl.rdX (ReadR.sliceH rfl rfl hasA (by omega)) ?_ | refine WPl.rdX (ReadR.sliceL rfl rfl hasA (by omega)) ?_ | refine WPl.rdX (ReadR.sliceLH rfl rfl rfl hasA (by omega) (by omega)) ?_)
         | (refine WPl.spQ (fun hc => ?_) (fun hc => ?_) <;> try exact prA)
         | fail)
        all_goals exact WPq.dTs
    | false =>
      by_cases hn : fall ≤ w
      · simp only [Bool.false_eq_true, if_false, if_pos hn, Prod.mk.injEq] at hstep
        obtain ⟨rfl, rfl⟩ := hstep
        refine Triple.enter Try.func53 rfl Try.ntmps53 rfl (fun W => ?_)
        dsimp only [argsF, Nat.reduceAdd]
        repeat' (first
         | refine WPl.nil ?_ | refine WPq.then ?_ | refine WPq.thenR ?_ | refine WPq.thenE ?_ | refine WPq.blockN ?_ | refine WPq.blockR ?_ | refine WPq.blockE ?_ | refine WPq.blockO rfl ?_ | refine WPc.seq ?_ | refine WPc.block ?_ | refine WPc.ret ?_ | refine WPc.exit ?_ | refine WPc.skip ?_ | refine WPc.region ?_
         | (refine isReg 4 ?_; refine WPc.drA [([], [10, 22]), ([0], [10, 18, 22]), ([0, 1], [10, 18, 19, 22]), ([0, 1, 2], [10, 18, 19, 20, 22]), ([], [10, 18, 19, 20, 21]), ([0, 1, 2, 3, 4], [10, 18, 19, 20, 21, 22]), ([], [18, 19, 20, 21, 22, 23]), ([0, 1, 2, 3, 4, 5, 6], [10, 18, 19, 20, 21, 22, 23])] [(6, 7)] (Γx := []) ?_; dsimp only [prev0, List.length_nil, List.length_cons])
         | (refine isReg 6 ?_; refine WPc.drA [([9], [32, 33, 34, 35]), ([0, 9], [28, 32, 33, 34, 35]), ([0, 1, 9], [28, 29, 32, 33, 34, 35]), ([0, 1, 2, 9], [28, 29, 30, 32, 33, 34, 35]), ([9], [28, 29, 30, 31, 33, 34, 35]), ([9], [28, 29, 30, 31, 32]), ([5, 9], [28, 29, 30, 31, 32, 33]), ([5, 6, 9], [28, 29, 30, 31, 32, 33, 34]), ([0, 1, 2, 3, 4, 5, 6, 7, 9], [28, 29, 30, 31, 32, 33, 34, 35])] [(9, 8), (9, 0), (9, 1), (9, 2), (9, 3), (9, 4), (9, 5), (9, 6), (9, 7)] (Γx := [mp whoM m L]) (hox := ownsA) ?_; dsimp only [prev0, List.length_nil, List.length_cons])
         | (refine isReg 15 ?_; refine WPc.drA [([7], [63, 64]), ([0, 7], [59, 63, 64]), ([0, 1, 7], [59, 60, 63, 64]), ([0, 1, 2, 7], [59, 60, 61, 63, 64]), ([7], [59, 60, 61, 62, 64]), ([7], [59, 60, 61, 62, 63]), ([0, 1, 2, 3, 4, 5, 7], [59, 60, 61, 62, 63, 64])] [(7, 6), (7, 0), (7, 1), (7, 2), (7, 3), (7, 4), (7, 5)] (Γx := [mp whoM m L]) (hox := ownsA) ?_; dsimp only [prev0, List.length_nil, List.length_cons])
         | (refine gAny ?_; first | (refine gOp ?_; refine RGl.turn (fun e hk => by (try dsimp only [bndR, ensR, oksR, fcutR, List.append_nil, List.nil_append, List.cons_append, List.append_assoc] at hk ⊢); exact OpT.mput (k := (s, b)) (v := (true, 0)) (hwf) rfl rfl rfl takesA) ?_) | (refine gD 14 ?_; refine RGl.rdX (fun e hk => by (try dsimp only [bndR, ensR, oksR, fcutR, List.append_nil, List.nil_append, List.cons_append, List.append_assoc] at hk ⊢); exact readP) ?_) | (refine gD 23 ?_; refine RGl.rdX (fun e hk => by (try dsimp only [bndR, ensR, oksR, fcutR, List.append_nil, List.nil_append, List.cons_append, List.append_assoc] at hk ⊢); exact ReadR.look (M := whoM) (k := (s, b)) ⟨hs, hb⟩ rfl rfl memA hget) ?_) | (refine gD 38 ?_; refine RGl.rdX (fun e hk => by (try dsimp only [bndR, ensR, oksR, fcutR, List.append_nil, List.nil_append, List.cons_append, List.append_assoc] at hk ⊢); exact ReadR.binE rfl rfl BinR.addW (congrArg (Value.int .i64) hw.symm)) ?_) | (refine gD 53 ?_; refine RGl.rdX (fun e hk => by (try dsimp only [bndR, ensR, oksR, fcutR, List.append_nil, List.nil_append, List.cons_append, List.append_assoc] at hk ⊢); exact ReadR.binE rfl rfl BinR.geq (congrArg Value.bool (decide_eq_true hn))) ?_) | (refine gOp ?_; first | refine RGl.rdA ?_ | refine RGl.rdX (fun e hk => by (try dsimp only [bndR, ensR, oksR, fcutR, List.append_nil, List.nil_append, List.cons_append, List.append_assoc] at hk ⊢); exact readB) ?_) | (refine gAl ?_; refine RGl.nwA ?_) | (refine gSt ?_; refine RGl.stA ?_) | (refine RGl.fin (fun e hk => ?_); (try dsimp only [bndA, ensAR, oksA, List.append_nil, List.nil_append, List.cons_append, List.append_assoc] at hk ⊢); (repeat (obtain ⟨hk1, hk⟩ := hk))) | fail)
         | (refine isCond ?_; first | refine WPc.cT ?_ | refine WPc.cF ?_ | (refine WPc.cQ (fun hc => ?_) (fun hc => ?_) <;> try exact prA))
         | (refine isD 14 ?_; refine WPl.rdX (readP) ?_)
         | (refine isD 23 ?_; refine WPl.rdX (ReadR.look (M := whoM) (k := (s, b)) ⟨hs, hb⟩ rfl rfl memA hget) ?_)
         | (refine isD 38 ?_; refine WPl.rdX (ReadR.binE rfl rfl BinR.addW (congrArg (Value.int .i64) hw.symm)) ?_)
         | (refine isD 53 ?_; refine WPl.rdX (ReadR.binE rfl rfl BinR.geq (congrArg Value.bool (decide_eq_true hn))) ?_)
         | (refine WPl.mput ((s, b)) ((true, 0)) (hwf) ?_)
         | (refine isOp ?_; first | refine WPl.rd ?_ | refine WPl.sk ?_ | refine WPl.rdB ?_)
         | (refine isAl ?_; refine WPl.nw fun g => ?_)
         | (refine isSt ?_; first | refine WPl.st1 ?_ | refine WPl.stA ?_ | refine WPl.stEB ?_ | refine WPl.stRB ?_)
         | (show WPl _ _ _ _ _ _ _ (⟨_, .indexAddr _ _ _, _, _, _, _⟩ :: _) _; refine WPl.rdX (ReadR.indexE rfl rfl hasA (by first | assumption | omega)) ?_)
         | (show WPl _ _ _ _ _ _ _ (⟨_, .fieldAddr _ _ _, _, _, _, _⟩ :: _) _; refine WPl.rdX (ReadR.fieldE rfl hasA (by first | assumption | omega)) ?_)
         | (show WPl _ _ _ _ _ _ _ (⟨_, .load _ _, _, _, _, _⟩ :: _) _; first | refine WPl.rdX (ReadR.loadE rfl hasA (by assumption)) ?_ | refine WPl.rdX (ReadR.loadES (by assumption) (by first | assumption | omega) rfl hasA) ?_)
         | (show WPl _ _ _ _ _ _ _ (⟨_, .slice _ _ _ _ _, _, _, _, _⟩ :: _) _; first | refine WPl.rdX (ReadR.sliceH rfl rfl hasA (by omega)) ?_ | refine WPl.rdX (ReadR.sliceL rfl rfl hasA (by omega)) ?_ | refine WPl.rdX (ReadR.sliceLH rfl rfl rfl hasA (by omega) (by omega)) ?_)
         | (refine WPl.spQ (fun hc => ?_) (fun hc => ?_) <;> try exact prA)
         | fail)
        all_goals exact WPq.dTs
      · simp only [Bool.false_eq_true, if_false, if_neg hn, Prod.mk.injEq] at hstep
        obtain ⟨rfl, rfl⟩ := hstep
        refine Triple.enter Try.func53 rfl Try.ntmps53 rfl (fun W => ?_)
        dsimp only [argsF, Nat.reduceAdd]
        repeat' (first
         | refine WPl.nil ?_ | refine WPq.then ?_ | refine WPq.thenR ?_ | refine WPq.thenE ?_ | refine WPq.blockN ?_ | refine WPq.blockR ?_ | refine WPq.blockE ?_ | refine WPq.blockO rfl ?_ | refine WPc.seq ?_ | refine WPc.block ?_ | refine WPc.ret ?_ | refine WPc.exit ?_ | refine WPc.skip ?_ | refine WPc.region ?_
         | (refine isReg 4 ?_; refine WPc.drA [([], [10, 22]), ([0], [10, 18, 22]), ([0, 1], [10, 18, 19, 22]), ([0, 1, 2], [10, 18, 19, 20, 22]), ([], [10, 18, 19, 20, 21]), ([0, 1, 2, 3, 4], [10, 18, 19, 20, 21, 22]), ([], [18, 19, 20, 21, 22, 23]), ([0, 1, 2, 3, 4, 5, 6], [10, 18, 19, 20, 21, 22, 23])] [(6, 7)] (Γx := []) ?_; dsimp only [prev0, List.length_nil, List.length_cons])
         | (refine isReg 6 ?_; refine WPc.drA [([9], [32, 33, 34, 35]), ([0, 9], [28, 32, 33, 34, 35]), ([0, 1, 9], [28, 29, 32, 33, 34, 35]), ([0, 1, 2, 9], [28, 29, 30, 32, 33, 34, 35]), ([9], [28, 29, 30, 31, 33, 34, 35]), ([9], [28, 29, 30, 31, 32]), ([5, 9], [28, 29, 30, 31, 32, 33]), ([5, 6, 9], [28, 29, 30, 31, 32, 33, 34]), ([0, 1, 2, 3, 4, 5, 6, 7, 9], [28, 29, 30, 31, 32, 33, 34, 35])] [(9, 8), (9, 0), (9, 1), (9, 2), (9, 3), (9, 4), (9, 5), (9, 6), (9, 7)] (Γx := [mp whoM m L]) (hox := ownsA) ?_; dsimp only [prev0, List.length_nil, List.length_cons])
         | (refine isReg 15 ?_; refine WPc.drA [([7], [63, 64]), ([0, 7], [59, 63, 64]), ([0, 1, 7], [59, 60, 63, 64]), ([0, 1, 2, 7], [59, 60, 61, 63, 64]), ([7], [59, 60, 61, 62, 64]), ([7], [59, 60, 61, 62, 63]), ([0, 1, 2, 3, 4, 5, 7], [59, 60, 61, 62, 63, 64])] [(7, 6), (7, 0), (7, 1), (7, 2), (7, 3), (7, 4), (7, 5)] (Γx := [mp whoM m L]) (hox := ownsA) ?_; dsimp only [prev0, List.length_nil, List.length_cons])
         | (refine gAny ?_; first | (refine gOp ?_; refine RGl.turn (fun e hk => by (try dsimp only [bndR, ensR, oksR, fcutR, List.append_nil, List.nil_append, List.cons_append, List.append_assoc] at hk ⊢); exact OpT.mput (k := (s, b)) (v := (false, w)) (hwf) rfl rfl rfl takesA) ?_) | (refine gD 14 ?_; refine RGl.rdX (fun e hk => by (try dsimp only [bndR, ensR, oksR, fcutR, List.append_nil, List.nil_append, List.cons_append, List.append_assoc] at hk ⊢); exact readP) ?_) | (refine gD 23 ?_; refine RGl.rdX (fun e hk => by (try dsimp only [bndR, ensR, oksR, fcutR, List.append_nil, List.nil_append, List.cons_append, List.append_assoc] at hk ⊢); exact ReadR.look (M := whoM) (k := (s, b)) ⟨hs, hb⟩ rfl rfl memA hget) ?_) | (refine gD 38 ?_; refine RGl.rdX (fun e hk => by (try dsimp only [bndR, ensR, oksR, fcutR, List.append_nil, List.nil_append, List.cons_append, List.append_assoc] at hk ⊢); exact ReadR.binE rfl rfl BinR.addW (congrArg (Value.int .i64) hw.symm)) ?_) | (refine gD 53 ?_; refine RGl.rdX (fun e hk => by (try dsimp only [bndR, ensR, oksR, fcutR, List.append_nil, List.nil_append, List.cons_append, List.append_assoc] at hk ⊢); exact ReadR.binE rfl rfl BinR.geq (congrArg Value.bool (decide_eq_false hn))) ?_) | (refine gOp ?_; first | refine RGl.rdA ?_ | refine RGl.rdX (fun e hk => by (try dsimp only [bndR, ensR, oksR, fcutR, List.append_nil, List.nil_append, List.cons_append, List.append_assoc] at hk ⊢); exact readB) ?_) | (refine gAl ?_; refine RGl.nwA ?_) | (refine gSt ?_; refine RGl.stA ?_) | (refine RGl.fin (fun e hk => ?_); (try dsimp only [bndA, ensAR, oksA, List.append_nil, List.nil_append, List.cons_append, List.append_assoc] at hk ⊢); (repeat (obtain ⟨hk1, hk⟩ := hk))) | fail)
         | (refine isCond ?_; first | refine WPc.cT ?_ | refine WPc.cF ?_ | (refine WPc.cQ (fun hc => ?_) (fun hc => ?_) <;> try exact prA))
         | (refine isD 14 ?_; refine WPl.rdX (readP) ?_)
         | (refine isD 23 ?_; refine WPl.rdX (ReadR.look (M := whoM) (k := (s, b)) ⟨hs, hb⟩ rfl rfl memA hget) ?_)
         | (refine isD 38 ?_; refine WPl.rdX (ReadR.binE rfl rfl BinR.addW (congrArg (Value.int .i64) hw.symm)) ?_)
         | (refine isD 53 ?_; refine WPl.rdX (ReadR.binE rfl rfl BinR.geq (congrArg Value.bool (decide_eq_false hn))) ?_)
         | (refine WPl.mput ((s, b)) ((false, w)) (hwf) ?_)
         | (refine isOp ?_; first | refine WPl.rd ?_ | refine WPl.sk ?_ | refine WPl.rdB ?_)
         | (refine isAl ?_; refine WPl.nw fun g => ?_)
         | (refine isSt ?_; first | refine WPl.st1 ?_ | refine WPl.stA ?_ | refine WPl.stEB ?_ | refine WPl.stRB ?_)
         | (show WPl _ _ _ _ _ _ _ (⟨_, .indexAddr _ _ _, _, _, _, _⟩ :: _) _; refine WPl.rdX (ReadR.indexE rfl rfl hasA (by first | assumption | omega)) ?_)
         | (show WPl _ _ _ _ _ _ _ (⟨_, .fieldAddr _ _ _, _, _, _, _⟩ :: _) _; refine WPl.rdX (ReadR.fieldE rfl hasA (by first | assumption | omega)) ?_)
         | (show WPl _ _ _ _ _ _ _ (⟨_, .load _ _, _, _, _, _⟩ :: _) _; first | refine WPl.rdX (ReadR.loadE rfl hasA (by assumption)) ?_ | refine WPl.rdX (ReadR.loadES (by assumption) (by first | assumption | omega) rfl hasA) ?_)
         | (show WPl _ _ _ _ _ _ _ (⟨_, .slice _ _ _ _ _, _, _, _, _⟩ :: _) _; first | refine WPl.rdX (ReadR.sliceH rfl rfl hasA (by omega)) ?_ | refine WPl.rdX (ReadR.sliceL rfl rfl hasA (by omega)) ?_ | refine WPl.rdX (ReadR.sliceLH rfl rfl rfl hasA (by omega) (by omega)) ?_)
         | (refine WPl.spQ (fun hc => ?_) (fun hc => ?_) <;> try exact prA)
         | fail)
        all_goals exact WPq.dTs
  · have e1 : stepS rise fall ok (dn, row) = ((dn, 0), false) := by simp [stepS, hne]
    rw [e1, Prod.mk.injEq] at hstep
    obtain ⟨rfl, rfl⟩ := hstep
    have e2 : (ok == dn) = false := by simpa using hne
    refine Triple.enter Try.func53 rfl Try.ntmps53 rfl (fun W => ?_)
    dsimp only [argsF, Nat.reduceAdd]
    repeat' (first
     | refine WPl.nil ?_ | refine WPq.then ?_ | refine WPq.thenR ?_ | refine WPq.thenE ?_ | refine WPq.blockN ?_ | refine WPq.blockR ?_ | refine WPq.blockE ?_ | refine WPq.blockO rfl ?_ | refine WPc.seq ?_ | refine WPc.block ?_ | refine WPc.ret ?_ | refine WPc.exit ?_ | refine WPc.skip ?_ | refine WPc.region ?_
     | (refine isReg 4 ?_; refine WPc.drA [([], [10, 22]), ([0], [10, 18, 22]), ([0, 1], [10, 18, 19, 22]), ([0, 1, 2], [10, 18, 19, 20, 22]), ([], [10, 18, 19, 20, 21]), ([0, 1, 2, 3, 4], [10, 18, 19, 20, 21, 22]), ([], [18, 19, 20, 21, 22, 23]), ([0, 1, 2, 3, 4, 5, 6], [10, 18, 19, 20, 21, 22, 23])] [(6, 7)] (Γx := []) ?_; dsimp only [prev0, List.length_nil, List.length_cons])
     | (refine isReg 6 ?_; refine WPc.drA [([9], [32, 33, 34, 35]), ([0, 9], [28, 32, 33, 34, 35]), ([0, 1, 9], [28, 29, 32, 33, 34, 35]), ([0, 1, 2, 9], [28, 29, 30, 32, 33, 34, 35]), ([9], [28, 29, 30, 31, 33, 34, 35]), ([9], [28, 29, 30, 31, 32]), ([5, 9], [28, 29, 30, 31, 32, 33]), ([5, 6, 9], [28, 29, 30, 31, 32, 33, 34]), ([0, 1, 2, 3, 4, 5, 6, 7, 9], [28, 29, 30, 31, 32, 33, 34, 35])] [(9, 8), (9, 0), (9, 1), (9, 2), (9, 3), (9, 4), (9, 5), (9, 6), (9, 7)] (Γx := [mp whoM m L]) (hox := ownsA) ?_; dsimp only [prev0, List.length_nil, List.length_cons])
     | (refine isReg 15 ?_; refine WPc.drA [([7], [63, 64]), ([0, 7], [59, 63, 64]), ([0, 1, 7], [59, 60, 63, 64]), ([0, 1, 2, 7], [59, 60, 61, 63, 64]), ([7], [59, 60, 61, 62, 64]), ([7], [59, 60, 61, 62, 63]), ([0, 1, 2, 3, 4, 5, 7], [59, 60, 61, 62, 63, 64])] [(7, 6), (7, 0), (7, 1), (7, 2), (7, 3), (7, 4), (7, 5)] (Γx := [mp whoM m L]) (hox := ownsA) ?_; dsimp only [prev0, List.length_nil, List.length_cons])
     | (refine gAny ?_; first | (refine gOp ?_; refine RGl.turn (fun e hk => by (try dsimp only [bndR, ensR, oksR, fcutR, List.append_nil, List.nil_append, List.cons_append, List.append_assoc] at hk ⊢); exact OpT.mput (k := (s, b)) (v := (dn, 0)) (hwf) rfl rfl rfl takesA) ?_) | (refine gD 14 ?_; refine RGl.rdX (fun e hk => by (try dsimp only [bndR, ensR, oksR, fcutR, List.append_nil, List.nil_append, List.cons_append, List.append_assoc] at hk ⊢); exact readP) ?_) | (refine gD 23 ?_; refine RGl.rdX (fun e hk => by (try dsimp only [bndR, ensR, oksR, fcutR, List.append_nil, List.nil_append, List.cons_append, List.append_assoc] at hk ⊢); exact ReadR.look (M := whoM) (k := (s, b)) ⟨hs, hb⟩ rfl rfl memA hget) ?_) | (refine gD 27 ?_; refine RGl.rdX (fun e hk => by (try dsimp only [bndR, ensR, oksR, fcutR, List.append_nil, List.nil_append, List.cons_append, List.append_assoc] at hk ⊢); exact ReadR.binE rfl rfl (BinR.neqB (by kernel_rfl)) (congrArg (fun q => Value.bool (!q)) e2)) ?_) | (refine gOp ?_; first | refine RGl.rdA ?_ | refine RGl.rdX (fun e hk => by (try dsimp only [bndR, ensR, oksR, fcutR, List.append_nil, List.nil_append, List.cons_append, List.append_assoc] at hk ⊢); exact readB) ?_) | (refine gAl ?_; refine RGl.nwA ?_) | (refine gSt ?_; refine RGl.stA ?_) | (refine RGl.fin (fun e hk => ?_); (try dsimp only [bndA, ensAR, oksA, List.append_nil, List.nil_append, List.cons_append, List.append_assoc] at hk ⊢); (repeat (obtain ⟨hk1, hk⟩ := hk))) | fail)
     | (refine isCond ?_; first | refine WPc.cT ?_ | refine WPc.cF ?_ | (refine WPc.cQ (fun hc => ?_) (fun hc => ?_) <;> try exact prA))
     | (refine isD 14 ?_; refine WPl.rdX (readP) ?_)
     | (refine isD 23 ?_; refine WPl.rdX (ReadR.look (M := whoM) (k := (s, b)) ⟨hs, hb⟩ rfl rfl memA hget) ?_)
     | (refine isD 27 ?_; refine WPl.rdX (ReadR.binE rfl rfl (BinR.neqB (by kernel_rfl)) (congrArg (fun q => Value.bool (!q)) e2)) ?_)
     | (refine WPl.mput ((s, b)) ((dn, 0)) (hwf) ?_)
     | (refine isOp ?_; first | refine WPl.rd ?_ | refine WPl.sk ?_ | refine WPl.rdB ?_)
     | (refine isAl ?_; refine WPl.nw fun g => ?_)
     | (refine isSt ?_; first | refine WPl.st1 ?_ | refine WPl.stA ?_ | refine WPl.stEB ?_ | refine WPl.stRB ?_)
     | (show WPl _ _ _ _ _ _ _ (⟨_, .indexAddr _ _ _, _, _, _, _⟩ :: _) _; refine WPl.rdX (ReadR.indexE rfl rfl hasA (by first | assumption | omega)) ?_)
     | (show WPl _ _ _ _ _ _ _ (⟨_, .fieldAddr _ _ _, _, _, _, _⟩ :: _) _; refine WPl.rdX (ReadR.fieldE rfl hasA (by first | assumption | omega)) ?_)
     | (show WPl _ _ _ _ _ _ _ (⟨_, .load _ _, _, _, _, _⟩ :: _) _; first | refine WPl.rdX (ReadR.loadE rfl hasA (by assumption)) ?_ | refine WPl.rdX (ReadR.loadES (by assumption) (by first | assumption | omega) rfl hasA) ?_)
     | (show WPl _ _ _ _ _ _ _ (⟨_, .slice _ _ _ _ _, _, _, _, _⟩ :: _) _; first | refine WPl.rdX (ReadR.sliceH rfl rfl hasA (by omega)) ?_ | refine WPl.rdX (ReadR.sliceL rfl rfl hasA (by omega)) ?_ | refine WPl.rdX (ReadR.sliceLH rfl rfl rfl hasA (by omega) (by omega)) ?_)
     | (refine WPl.spQ (fun hc => ?_) (fun hc => ?_) <;> try exact prA)
     | fail)
    all_goals exact WPq.dTs
end Go.Proofs.Ytncgponcedkihaa
