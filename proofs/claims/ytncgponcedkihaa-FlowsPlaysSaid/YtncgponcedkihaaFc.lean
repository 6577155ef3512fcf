/- Layer 23 (flows): New; what lives; no table. -/
import Derived.Test.YtncgponcedkihaaFb
namespace Go.Proofs.Ytncgponcedkihaa
open Go.RowKit
set_option linter.unusedSimpArgs false
set_option linter.unusedVariables false
set_option maxRecDepth 20000
set_option maxHeartbeats 4000000
attribute [local irreducible] WPc WPl WPq ReadR OpT BinR HasS bx rdN rowN Take Takes Prov Triple ResF BuildP Done ag Int.decLt Int.decLe Int.instDecidableEq
def RNewF (most : Int) : Value → List Asn → Prop := fun v Γ => ∃ gT m1 m2, v = .tuple #[hPf gT, .int .i64 0] ∧ Γ = [bx gT 141 (fxc most m1 m2), mp flM m1 [], mp rpM m2 []]
theorem fnew_t (most : Int) (h1 : 1 ≤ most) (h2 : most ≤ 4096) : Triple Try.prog 24 #[.int .i64 most] [] (RNewF most) := by
  refine Triple.enter Try.func24 rfl Try.ntmps24 rfl (fun W => ?_)
  dsimp only [argsF, Nat.reduceAdd]
  repeat' (first
   | refine WPl.nil ?_ | refine WPq.then ?_ | refine WPq.thenR ?_ | refine WPq.thenE ?_ | refine WPq.blockN ?_ | refine WPq.blockR ?_ | refine WPq.blockE ?_ | refine WPq.blockO rfl ?_ | refine WPc.seq ?_ | refine WPc.block ?_ | refine WPc.ret ?_ | refine WPc.exit ?_ | refine WPc.skip ?_ | refine WPc.region ?_
   | (refine isCond ?_; first | refine WPc.cT ?_ | refine WPc.cF ?_ | (refine WPc.cQ (fun hc => ?_) (fun hc => ?_) <;> try exact prA))
   | (refine isD 11 ?_; refine WPl.mnew flM fun m1 => ?_)
   | (refine isD 12 ?_; refine WPl.mnew rpM fun m2 => ?_)
   | (refine isOp ?_; first | refine WPl.rd ?_ | refine WPl.sk ?_ | refine WPl.rdB ?_)
   | (refine isBx ?_; refine WPl.nw fun g => ?_)
   | (show WPl _ _ _ _ _ _ _ (⟨_, .indexAddr _ _ _, _, _, _, _⟩ :: _) _; refine WPl.rdX (ReadR.indexE rfl rfl hasA (by first | assumption | omega)) ?_)
   | (show WPl _ _ _ _ _ _ _ (⟨_, .fieldAddr _ _ _, _, _, _, _⟩ :: _) _; refine WPl.rdX (ReadR.fieldE rfl hasA (by first | assumption | omega)) ?_)
   | (show WPl _ _ _ _ _ _ _ (⟨_, .load _ _, _, _, _, _⟩ :: _) _; first | refine WPl.rdX (ReadR.loadE rfl hasA (by assumption)) ?_ | refine WPl.rdX (ReadR.loadES (by assumption) (by first | assumption | omega) rfl hasA) ?_)
   | (show WPl _ _ _ _ _ _ _ (⟨_, .slice _ _ _ _ _, _, _, _, _⟩ :: _) _; first | refine WPl.rdX (ReadR.sliceH rfl rfl hasA (by omega)) ?_ | refine WPl.rdX (ReadR.sliceL rfl rfl hasA (by omega)) ?_ | refine WPl.rdX (ReadR.sliceLH rfl rfl rfl hasA (by omega) (by omega)) ?_)
   | (refine WPl.spQ (fun hc => ?_) (fun hc => ?_) <;> try exact prA)
   | fail)
  exact WPq.dX (vs := [_, _]) [_, _, _] ⟨_, _, _, rfl, rfl⟩
theorem fget0_t (f : Fl) (now : Int) : Triple Try.prog 33 #[.pointer none, ag (flc f), .int .u64 now] [] (RVal (.tuple #[ag (enC En.zero), .bool false])) := by
  have l1 := f.src.len
  have l2 := f.dst.len
  refine Triple.enter Try.func33 rfl Try.ntmps33 rfl (fun W => ?_)
  dsimp only [argsF, Nat.reduceAdd]
  repeat' (first
   | refine WPl.nil ?_ | refine WPq.then ?_ | refine WPq.thenR ?_ | refine WPq.thenE ?_ | refine WPq.blockN ?_ | refine WPq.blockR ?_ | refine WPq.blockE ?_ | refine WPq.blockO rfl ?_ | refine WPc.seq ?_ | refine WPc.block ?_ | refine WPc.ret ?_ | refine WPc.exit ?_ | refine WPc.skip ?_ | refine WPc.region ?_
   | (refine isReg 3 ?_; refine WPc.drA [([], [8, 18]), ([0], [8, 14, 18]), ([0, 1], [8, 14, 15, 18]), ([0, 1, 2], [8, 14, 15, 16, 18]), ([], [8, 14, 15, 16, 17]), ([0, 1, 2, 3, 4], [8, 14, 15, 16, 17, 18]), ([0, 1, 2, 3, 4, 5], [8, 14, 15, 16, 17, 18, 19]), ([0, 1, 2, 3, 4, 5, 6], [8, 13, 14, 15, 16, 17, 18, 19, 21]), ([0, 1, 2, 3, 4, 5, 6], [8, 13, 14, 15, 16, 17, 18, 19, 20]), ([], [13, 14, 15, 16, 17, 18, 19, 20, 21]), ([0, 1, 2, 3, 4, 5, 6, 7, 9], [8, 13, 14, 15, 16, 17, 18, 19, 20, 21]), ([0, 1, 2, 3, 4, 5, 6, 7, 8, 9, 10], [8, 13, 14, 15, 16, 17, 18, 19, 20, 21])] [(9, 10)] (Γx := []) ?_; dsimp only [prev0, List.length_nil, List.length_cons])
   | (refine gAny ?_; first | (refine gD 11 ?_; refine RGl.rdX (fun e hk => by (try dsimp only [bndR, ensR, oksR, fcutR, List.append_nil, List.nil_append, List.cons_append, List.append_assoc] at hk ⊢); exact readP) ?_) | (refine gOp ?_; first | refine RGl.rdA ?_ | refine RGl.rdX (fun e hk => by (try dsimp only [bndR, ensR, oksR, fcutR, List.append_nil, List.nil_append, List.cons_append, List.append_assoc] at hk ⊢); exact readB) ?_) | (refine gAl ?_; refine RGl.nwA ?_) | (refine gSt ?_; refine RGl.stA ?_) | (refine RGl.fin (fun e hk => ?_); (try dsimp only [bndA, ensAR, oksA, List.append_nil, List.nil_append, List.cons_append, List.append_assoc] at hk ⊢); (repeat (obtain ⟨hk1, hk⟩ := hk))) | fail)
   | (refine isCond ?_; first | refine WPc.cT ?_ | refine WPc.cF ?_ | (refine WPc.cQ (fun hc => ?_) (fun hc => ?_) <;> try exact prA))
   | (refine isD 11 ?_; refine WPl.rdX (readP) ?_)
   | (refine isOp ?_; first | refine WPl.rd ?_ | refine WPl.sk ?_ | refine WPl.rdB ?_)
   | (refine isAl ?_; refine WPl.nw fun g => ?_)
   | (refine isBx ?_; refine WPl.nw fun g => ?_)
   | (refine isSt ?_; first | refine WPl.st1 ?_ | refine WPl.stA ?_ | refine WPl.stEB ?_ | refine WPl.stRB ?_)
   | (show WPl _ _ _ _ _ _ _ (⟨_, .indexAddr _ _ _, _, _, _, _⟩ :: _) _; refine WPl.rdX (ReadR.indexE rfl rfl hasA (by first | assumption | omega)) ?_)
   | (show WPl _ _ _ _ _ _ _ (⟨_, .fieldAddr _ _ _, _, _, _, _⟩ :: _) _; refine WPl.rdX (ReadR.fieldE rfl hasA (by first | assumption | omega)) ?_)
   | (show WPl _ _ _ _ _ _ _ (⟨_, .load _ _, _, _, _, _⟩ :: _) _; first | refine WPl.rdX (ReadR.loadE rfl hasA (by assumption)) ?_ | refine WPl.rdX (ReadR.loadES (by assumption) (by first | assumption | omega) rfl hasA) ?_)
   | (show WPl _ _ _ _ _ _ _ (⟨_, .slice _ _ _ _ _, _, _, _, _⟩ :: _) _; first | refine WPl.rdX (ReadR.sliceH rfl rfl hasA (by omega)) ?_ | refine WPl.rdX (ReadR.sliceL rfl rfl hasA (by omega)) ?_ | refine WPl.rdX (ReadR.sliceLH rfl rfl rfl hasA (by omega) (by omega)) ?_)
   | (refine WPl.spQ (fun hc => ?_) (fun hc => ?_) <;> try exact prA)
   | fail)
  all_goals try (first | exact WPq.dTp | exact WPq.dTs | exact WPq.dV | exact WPq.dR | exact WPq.dR2 | exact WPq.dH | exact WPq.dBH | exact WPq.dT)
theorem fReply0_t (f : Fl) (now : Int) : Triple Try.prog 31 #[.pointer none, ag (flc f), .int .u64 now] [] (RVal (.tuple #[ag (flc Fl.none), ag (enC En.zero), .bool false])) := by
  have l1 := f.src.len
  have l2 := f.dst.len
  refine Triple.enter Try.func31 rfl Try.ntmps31 rfl (fun W => ?_)
  dsimp only [argsF, Nat.reduceAdd]
  repeat' (first
   | refine WPl.nil ?_ | refine WPq.then ?_ | refine WPq.thenR ?_ | refine WPq.thenE ?_ | refine WPq.blockN ?_ | refine WPq.blockR ?_ | refine WPq.blockE ?_ | refine WPq.blockO rfl ?_ | refine WPc.seq ?_ | refine WPc.block ?_ | refine WPc.ret ?_ | refine WPc.exit ?_ | refine WPc.skip ?_ | refine WPc.region ?_
   | (refine isReg 3 ?_; refine WPc.drA [([], [9, 22]), ([0], [9, 18, 22]), ([0, 1], [9, 18, 19, 22]), ([0, 1, 2], [9, 18, 19, 20, 22]), ([], [9, 18, 19, 20, 21]), ([0, 1, 2, 3, 4], [9, 18, 19, 20, 21, 22]), ([0, 1, 2, 3, 4, 5], [9, 18, 19, 20, 21, 22, 23]), ([0, 1, 2, 3, 4, 5, 6], [9, 17, 18, 19, 20, 21, 22, 23, 25]), ([0, 1, 2, 3, 4, 5, 6], [9, 17, 18, 19, 20, 21, 22, 23, 24]), ([], [17, 18, 19, 20, 21, 22, 23, 24, 25]), ([0, 1, 2, 3, 4, 5, 6, 7, 9], [9, 17, 18, 19, 20, 21, 22, 23, 24, 25]), ([0, 1, 2, 3, 4, 5, 6, 7, 8, 9, 10], [9, 17, 18, 19, 20, 21, 22, 23, 24, 25])] [(9, 10)] (Γx := []) ?_; dsimp only [prev0, List.length_nil, List.length_cons])
   | (refine isReg 7 ?_; refine WPc.drA [([], [42]), ([], [41]), ([0], [41, 42]), ([0, 1, 2], [41, 42]), ([0, 1, 2, 3], [41, 42])] [] (Γx := []) ?_; dsimp only [prev0, List.length_nil, List.length_cons])
   | (refine gAny ?_; first | (refine gD 14 ?_; refine RGl.rdX (fun e hk => by (try dsimp only [bndR, ensR, oksR, fcutR, List.append_nil, List.nil_append, List.cons_append, List.append_assoc] at hk ⊢); exact readP) ?_) | (refine gOp ?_; first | refine RGl.rdA ?_ | refine RGl.rdX (fun e hk => by (try dsimp only [bndR, ensR, oksR, fcutR, List.append_nil, List.nil_append, List.cons_append, List.append_assoc] at hk ⊢); exact readB) ?_) | (refine gAl ?_; refine RGl.nwA ?_) | (refine gSt ?_; refine RGl.stA ?_) | (refine RGl.fin (fun e hk => ?_); (try dsimp only [bndA, ensAR, oksA, List.append_nil, List.nil_append, List.cons_append, List.append_assoc] at hk ⊢); (repeat (obtain ⟨hk1, hk⟩ := hk))) | fail)
   | (refine isCond ?_; first | refine WPc.cT ?_ | refine WPc.cF ?_ | (refine WPc.cQ (fun hc => ?_) (fun hc => ?_) <;> try exact prA))
   | (refine isD 14 ?_; refine WPl.rdX (readP) ?_)
   | (refine isOp ?_; first | refine WPl.rd ?_ | refine WPl.sk ?_ | refine WPl.rdB ?_)
   | (refine isAl ?_; refine WPl.nw fun g => ?_)
   | (refine isBx ?_; refine WPl.nw fun g => ?_)
   | (refine isSt ?_; first | refine WPl.st1 ?_ | refine WPl.stA ?_ | refine WPl.stEB ?_ | refine WPl.stRB ?_)
   | (show WPl _ _ _ _ _ _ _ (⟨_, .indexAddr _ _ _, _, _, _, _⟩ :: _) _; refine WPl.rdX (ReadR.indexE rfl rfl hasA (by first | assumption | omega)) ?_)
   | (show WPl _ _ _ _ _ _ _ (⟨_, .fieldAddr _ _ _, _, _, _, _⟩ :: _) _; refine WPl.rdX (ReadR.fieldE rfl hasA (by first | assumption | omega)) ?_)
   | (show WPl _ _ _ _ _ _ _ (⟨_, .load _ _, _, _, _, _⟩ :: _) _; first | refine WPl.rdX (ReadR.loadE rfl hasA (by assumption)) ?_ | refine WPl.rdX (ReadR.loadES (by assumption) (by first | assumption | omega) rfl hasA) ?_)
   | (show WPl _ _ _ _ _ _ _ (⟨_, .slice _ _ _ _ _, _, _, _, _⟩ :: _) _; first | refine WPl.rdX (ReadR.sliceH rfl rfl hasA (by omega)) ?_ | refine WPl.rdX (ReadR.sliceL rfl rfl hasA (by omega)) ?_ | refine WPl.rdX (ReadR.sliceLH rfl rfl rfl hasA (by omega) (by omega)) ?_)
   | (refine WPl.spQ (fun hc => ?_) (fun hc => ?_) <;> try exact prA)
   | fail)
  all_goals try (first | exact WPq.dTp | exact WPq.dTs | exact WPq.dV | exact WPq.dR | exact WPq.dR2 | exact WPq.dH | exact WPq.dBH | exact WPq.dT)
theorem fput0_t (f : Fl) (a : En) (now : Int) : Triple Try.prog 25 #[.pointer none, ag (flc f), ag (enC a), .int .u64 now] [] (RVal (.int .i64 1)) := by
  have l1 := f.src.len
  have l2 := f.dst.len
  have l3 := a.ad.len
  refine Triple.enter Try.func25 rfl Try.ntmps25 rfl (fun W => ?_)
  dsimp only [argsF, Nat.reduceAdd]
  repeat' (first
   | refine WPl.nil ?_ | refine WPq.then ?_ | refine WPq.thenR ?_ | refine WPq.thenE ?_ | refine WPq.blockN ?_ | refine WPq.blockR ?_ | refine WPq.blockE ?_ | refine WPq.blockO rfl ?_ | refine WPc.seq ?_ | refine WPc.block ?_ | refine WPc.ret ?_ | refine WPc.exit ?_ | refine WPc.skip ?_ | refine WPc.region ?_
   | (refine isReg 4 ?_; refine WPc.drA [([], [10, 26]), ([0], [10, 22, 26]), ([0, 1], [10, 22, 23, 26]), ([0, 1, 2], [10, 22, 23, 24, 26]), ([], [10, 22, 23, 24, 25]), ([0, 1, 2, 3, 4], [10, 22, 23, 24, 25, 26]), ([0, 1, 2, 3, 4, 5], [10, 22, 23, 24, 25, 26, 27]), ([0, 1, 2, 3, 4, 5, 6], [10, 21, 22, 23, 24, 25, 26, 27, 29]), ([0, 1, 2, 3, 4, 5, 6], [10, 21, 22, 23, 24, 25, 26, 27, 28]), ([], [21, 22, 23, 24, 25, 26, 27, 28, 29]), ([0, 1, 2, 3, 4, 5, 6, 7, 9], [10, 21, 22, 23, 24, 25, 26, 27, 28, 29]), ([0, 1, 2, 3, 4, 5, 6, 7, 8, 9, 10], [10, 21, 22, 23, 24, 25, 26, 27, 28, 29])] [(9, 10)] (Γx := []) ?_; dsimp only [prev0, List.length_nil, List.length_cons])
   | (refine isReg 10 ?_; refine WPc.drA [([], [14, 52]), ([0], [14, 48, 52]), ([0, 1], [14, 48, 49, 52]), ([0, 1, 2], [14, 48, 49, 50, 52]), ([], [14, 48, 49, 50, 51]), ([0, 1, 2, 3, 4], [14, 48, 49, 50, 51, 52]), ([0, 1, 2, 3, 4, 5], [14, 48, 49, 50, 51, 52, 53]), ([0, 1, 2, 3, 4, 5, 6], [14, 47, 48, 49, 50, 51, 52, 53, 55]), ([0, 1, 2, 3, 4, 5, 6], [14, 47, 48, 49, 50, 51, 52, 53, 54]), ([], [47, 48, 49, 50, 51, 52, 53, 54, 55]), ([0, 1, 2, 3, 4, 5, 6, 7, 9], [14, 47, 48, 49, 50, 51, 52, 53, 54, 55]), ([0, 1, 2, 3, 4, 5, 6, 7, 8, 9, 10], [14, 47, 48, 49, 50, 51, 52, 53, 54, 55])] [(9, 10)] (Γx := []) ?_; dsimp only [prev0, List.length_nil, List.length_cons])
   | (refine isReg 11 ?_; refine WPc.drA [([], []), ([0], [56]), ([0, 1], [56, 57]), ([0, 1, 2], [56, 57, 58, 64, 65, 66, 67]), ([0, 1, 2, 3], [56, 57, 58, 59, 64, 65, 66, 67]), ([0, 1, 2, 3, 4], [56, 57, 58, 59, 60, 64, 65, 66, 67]), ([0, 1, 2, 3, 4, 5], [56, 57, 58, 59, 60, 61, 64, 65, 66, 67]), ([0, 1, 2, 3, 4, 5, 6], [56, 57, 58, 59, 60, 61, 62, 64, 65, 66, 67]), ([0, 1, 2], [56, 57, 58, 59, 60, 61, 62, 63]), ([0, 1, 2, 8], [56, 57, 58, 59, 60, 61, 62, 63, 64]), ([0, 1, 2, 8, 9], [56, 57, 58, 59, 60, 61, 62, 63, 64, 65]), ([0, 1, 2, 8, 9, 10], [56, 57, 58, 59, 60, 61, 62, 63, 64, 65, 66]), ([0, 1, 2, 3, 4, 5, 6, 7, 8, 9, 10, 11], [56, 57, 58, 59, 60, 61, 62, 63, 64, 65, 66, 67]), ([0, 1, 2, 3, 4, 5, 6, 7, 8, 9, 10, 11, 12], [56, 57, 58, 59, 60, 61, 62, 63, 64, 65, 66, 67, 68])] [] (Γx := []) ?_; dsimp only [prev0, List.length_nil, List.length_cons])
   | (refine isReg 13 ?_; refine WPc.drA [([], [78, 79, 80, 81]), ([0], [73, 78, 79, 80, 81]), ([0, 1], [73, 74, 78, 79, 80, 81]), ([0, 1, 2], [73, 74, 75, 78, 79, 80, 81]), ([0, 1, 2, 3], [73, 74, 75, 76, 78, 79, 80, 81]), ([], [73, 74, 75, 76, 77]), ([5], [73, 74, 75, 76, 77, 78]), ([5, 6], [73, 74, 75, 76, 77, 78, 79]), ([5, 6, 7], [73, 74, 75, 76, 77, 78, 79, 80]), ([0, 1, 2, 3, 4, 5, 6, 7, 8], [73, 74, 75, 76, 77, 78, 79, 80, 81])] [] (Γx := []) ?_; dsimp only [prev0, List.length_nil, List.length_cons])
   | (refine isReg 16 ?_; refine WPc.drA [([], [90, 91, 92, 93, 94, 95, 96, 97]), ([0], [86, 90, 91, 92, 93, 94, 95, 96, 97]), ([0, 1], [86, 87, 90, 91, 92, 93, 94, 95, 96, 97]), ([0, 1, 2], [86, 87, 88, 90, 91, 92, 93, 94, 95, 96, 97]), ([], [86, 87, 88, 89, 91, 92, 93, 94, 95, 96, 97]), ([], [86, 87, 88, 89, 90, 95, 96, 97]), ([5], [86, 87, 88, 89, 90, 91, 95, 96, 97]), ([5, 6], [86, 87, 88, 89, 90, 91, 92, 95, 96, 97]), ([5, 6, 7], [86, 87, 88, 89, 90, 91, 92, 93, 95, 96, 97]), ([], [86, 87, 88, 89, 90, 91, 92, 93, 94, 96, 97, 98, 99]), ([], [86, 87, 88, 89, 90, 91, 92, 93, 94, 95, 97, 98, 99]), ([], [86, 87, 88, 89, 90, 91, 92, 93, 94, 95, 96, 98, 99, 100, 101]), ([0, 1, 2, 3, 4, 5, 6, 7, 8], [86, 87, 88, 89, 90, 91, 92, 93, 94, 95, 96, 97]), ([0, 1, 2, 3, 4, 5, 6, 7, 8, 12], [86, 87, 88, 89, 90, 91, 92, 93, 94, 95, 96, 97, 98]), ([0, 1, 2, 3, 4, 5, 6, 7, 8, 10, 12, 13], [86, 87, 88, 89, 90, 91, 92, 93, 94, 95, 96, 97, 98, 99]), ([0, 1, 2, 3, 4, 5, 6, 7, 8, 9, 10, 12, 13, 14], [86, 87, 88, 89, 90, 91, 92, 93, 94, 95, 96, 97, 98, 99]), ([0, 1, 2, 3, 4, 5, 6, 7, 8, 9, 10, 12, 13, 14, 15], [86, 87, 88, 89, 90, 91, 92, 93, 94, 95, 96, 97, 98, 99, 100]), ([0, 1, 2, 3, 4, 5, 6, 7, 8, 9, 10, 11, 12, 13, 14, 15, 16], [86, 87, 88, 89, 90, 91, 92, 93, 94, 95, 96, 97, 98, 99, 100, 101])] [] (Γx := []) ?_; dsimp only [prev0, List.length_nil, List.length_cons])
   | (refine gAny ?_; first | (refine gGd ?_; refine RGl.skp ?_) | (refine gD 17 ?_; refine RGl.rdX (fun e hk => by (try dsimp only [bndR, ensR, oksR, fcutR, List.append_nil, List.nil_append, List.cons_append, List.append_assoc] at hk ⊢); exact readP) ?_) | (refine gOp ?_; first | refine RGl.rdA ?_ | refine RGl.rdX (fun e hk => by (try dsimp only [bndR, ensR, oksR, fcutR, List.append_nil, List.nil_append, List.cons_append, List.append_assoc] at hk ⊢); exact readB) ?_) | (refine gAl ?_; refine RGl.nwA ?_) | (refine gSt ?_; refine RGl.stA ?_) | (refine RGl.fin (fun e hk => ?_); (try dsimp only [bndA, ensAR, oksA, List.append_nil, List.nil_append, List.cons_append, List.append_assoc] at hk ⊢); (repeat (obtain ⟨hk1, hk⟩ := hk))) | fail)
   | (refine isCond ?_; first | refine WPc.cT ?_ | refine WPc.cF ?_ | (refine WPc.cQ (fun hc => ?_) (fun hc => ?_) <;> try exact prA))
   | (refine isD 17 ?_; refine WPl.rdX (readP) ?_)
   | (refine isOp ?_; first | refine WPl.rd ?_ | refine WPl.sk ?_ | refine WPl.rdB ?_)
   | (refine isAl ?_; refine WPl.nw fun g => ?_)
   | (refine isBx ?_; refine WPl.nw fun g => ?_)
   | (refine isSt ?_; first | refine WPl.st1 ?_ | refine WPl.stA ?_ | refine WPl.stEB ?_ | refine WPl.stRB ?_)
   | (show WPl _ _ _ _ _ _ _ (⟨_, .indexAddr _ _ _, _, _, _, _⟩ :: _) _; refine WPl.rdX (ReadR.indexE rfl rfl hasA (by first | assumption | omega)) ?_)
   | (show WPl _ _ _ _ _ _ _ (⟨_, .fieldAddr _ _ _, _, _, _, _⟩ :: _) _; refine WPl.rdX (ReadR.fieldE rfl hasA (by first | assumption | omega)) ?_)
   | (show WPl _ _ _ _ _ _ _ (⟨_, .load _ _, _, _, _, _⟩ :: _) _; first | refine WPl.rdX (ReadR.loadE rfl hasA (by assumption)) ?_ | refine WPl.rdX (ReadR.loadES (by assumption) (by first | assumption | omega) rfl hasA) ?_)
   | (show WPl _ _ _ _ _ _ _ (⟨_, .slice _ _ _ _ _, _, _, _, _⟩ :: _) _; first | refine WPl.rdX (ReadR.sliceH rfl rfl hasA (by omega)) ?_ | refine WPl.rdX (ReadR.sliceL rfl rfl hasA (by omega)) ?_ | refine WPl.rdX (ReadR.sliceLH rfl rfl rfl hasA (by omega) (by omega)) ?_)
   | (refine WPl.spQ (fun hc => ?_) (fun hc => ?_) <;> try exact prA)
   | fail)
  all_goals try (first | exact WPq.dTp | exact WPq.dTs | exact WPq.dV | exact WPq.dR | exact WPq.dR2 | exact WPq.dH | exact WPq.dBH | exact WPq.dT)
theorem fDrop0_t (f : Fl) : Triple Try.prog 34 #[.pointer none, ag (flc f)] [] (RVal (.bool false)) := by
  have l1 := f.src.len
  have l2 := f.dst.len
  refine Triple.enter Try.func34 rfl Try.ntmps34 rfl (fun W => ?_)
  dsimp only [argsF, Nat.reduceAdd]
  repeat' (first
   | refine WPl.nil ?_ | refine WPq.then ?_ | refine WPq.thenR ?_ | refine WPq.thenE ?_ | refine WPq.blockN ?_ | refine WPq.blockR ?_ | refine WPq.blockE ?_ | refine WPq.blockO rfl ?_ | refine WPc.seq ?_ | refine WPc.block ?_ | refine WPc.ret ?_ | refine WPc.exit ?_ | refine WPc.skip ?_ | refine WPc.region ?_
   | (refine isCond ?_; first | refine WPc.cT ?_ | refine WPc.cF ?_ | (refine WPc.cQ (fun hc => ?_) (fun hc => ?_) <;> try exact prA))
   | (refine isD 6 ?_; refine WPl.rdX (readP) ?_)
   | (refine isOp ?_; first | refine WPl.rd ?_ | refine WPl.sk ?_ | refine WPl.rdB ?_)
   | (refine isBx ?_; refine WPl.nw fun g => ?_)
   | (show WPl _ _ _ _ _ _ _ (⟨_, .indexAddr _ _ _, _, _, _, _⟩ :: _) _; refine WPl.rdX (ReadR.indexE rfl rfl hasA (by first | assumption | omega)) ?_)
   | (show WPl _ _ _ _ _ _ _ (⟨_, .fieldAddr _ _ _, _, _, _, _⟩ :: _) _; refine WPl.rdX (ReadR.fieldE rfl hasA (by first | assumption | omega)) ?_)
   | (show WPl _ _ _ _ _ _ _ (⟨_, .load _ _, _, _, _, _⟩ :: _) _; first | refine WPl.rdX (ReadR.loadE rfl hasA (by assumption)) ?_ | refine WPl.rdX (ReadR.loadES (by assumption) (by first | assumption | omega) rfl hasA) ?_)
   | (show WPl _ _ _ _ _ _ _ (⟨_, .slice _ _ _ _ _, _, _, _, _⟩ :: _) _; first | refine WPl.rdX (ReadR.sliceH rfl rfl hasA (by omega)) ?_ | refine WPl.rdX (ReadR.sliceL rfl rfl hasA (by omega)) ?_ | refine WPl.rdX (ReadR.sliceLH rfl rfl rfl hasA (by omega) (by omega)) ?_)
   | (refine WPl.spQ (fun hc => ?_) (fun hc => ?_) <;> try exact prA)
   | fail)
  all_goals try (first | exact WPq.dTp | exact WPq.dTs | exact WPq.dV | exact WPq.dR | exact WPq.dR2 | exact WPq.dH | exact WPq.dBH | exact WPq.dT)
theorem fexpire0_t (now : Int) : Triple Try.prog 35 #[.pointer none, .int .u64 now] [] (RVal (.int .i64 0)) := by
  refine Triple.enter Try.func35 rfl Try.ntmps35 rfl (fun W => ?_)
  dsimp only [argsF, Nat.reduceAdd]
  repeat' (first
   | refine WPl.nil ?_ | refine WPq.then ?_ | refine WPq.thenR ?_ | refine WPq.thenE ?_ | refine WPq.blockN ?_ | refine WPq.blockR ?_ | refine WPq.blockE ?_ | refine WPq.blockO rfl ?_ | refine WPc.seq ?_ | refine WPc.block ?_ | refine WPc.ret ?_ | refine WPc.exit ?_ | refine WPc.skip ?_ | refine WPc.region ?_
   | (refine isCond ?_; first | refine WPc.cT ?_ | refine WPc.cF ?_ | (refine WPc.cQ (fun hc => ?_) (fun hc => ?_) <;> try exact prA))
   | (refine isD 6 ?_; refine WPl.rdX (readP) ?_)
   | (refine isOp ?_; first | refine WPl.rd ?_ | refine WPl.sk ?_ | refine WPl.rdB ?_)
   | (refine isBx ?_; refine WPl.nw fun g => ?_)
   | (show WPl _ _ _ _ _ _ _ (⟨_, .indexAddr _ _ _, _, _, _, _⟩ :: _) _; refine WPl.rdX (ReadR.indexE rfl rfl hasA (by first | assumption | omega)) ?_)
   | (show WPl _ _ _ _ _ _ _ (⟨_, .fieldAddr _ _ _, _, _, _, _⟩ :: _) _; refine WPl.rdX (ReadR.fieldE rfl hasA (by first | assumption | omega)) ?_)
   | (show WPl _ _ _ _ _ _ _ (⟨_, .load _ _, _, _, _, _⟩ :: _) _; first | refine WPl.rdX (ReadR.loadE rfl hasA (by assumption)) ?_ | refine WPl.rdX (ReadR.loadES (by assumption) (by first | assumption | omega) rfl hasA) ?_)
   | (show WPl _ _ _ _ _ _ _ (⟨_, .slice _ _ _ _ _, _, _, _, _⟩ :: _) _; first | refine WPl.rdX (ReadR.sliceH rfl rfl hasA (by omega)) ?_ | refine WPl.rdX (ReadR.sliceL rfl rfl hasA (by omega)) ?_ | refine WPl.rdX (ReadR.sliceLH rfl rfl rfl hasA (by omega) (by omega)) ?_)
   | (refine WPl.spQ (fun hc => ?_) (fun hc => ?_) <;> try exact prA)
   | fail)
  all_goals try (first | exact WPq.dTp | exact WPq.dTs | exact WPq.dV | exact WPq.dR | exact WPq.dR2 | exact WPq.dH | exact WPq.dBH | exact WPq.dT)
theorem fpurge0_t (a b : Int) : Triple Try.prog 36 #[.pointer none, .int .i64 a, .int .i64 b] [] (RVal (.int .i64 0)) := by
  refine Triple.enter Try.func36 rfl Try.ntmps36 rfl (fun W => ?_)
  dsimp only [argsF, Nat.reduceAdd]
  repeat' (first
   | refine WPl.nil ?_ | refine WPq.then ?_ | refine WPq.thenR ?_ | refine WPq.thenE ?_ | refine WPq.blockN ?_ | refine WPq.blockR ?_ | refine WPq.blockE ?_ | refine WPq.blockO rfl ?_ | refine WPc.seq ?_ | refine WPc.block ?_ | refine WPc.ret ?_ | refine WPc.exit ?_ | refine WPc.skip ?_ | refine WPc.region ?_
   | (refine isCond ?_; first | refine WPc.cT ?_ | refine WPc.cF ?_ | (refine WPc.cQ (fun hc => ?_) (fun hc => ?_) <;> try exact prA))
   | (refine isD 8 ?_; refine WPl.rdX (readP) ?_)
   | (refine isOp ?_; first | refine WPl.rd ?_ | refine WPl.sk ?_ | refine WPl.rdB ?_)
   | (refine isBx ?_; refine WPl.nw fun g => ?_)
   | (show WPl _ _ _ _ _ _ _ (⟨_, .indexAddr _ _ _, _, _, _, _⟩ :: _) _; refine WPl.rdX (ReadR.indexE rfl rfl hasA (by first | assumption | omega)) ?_)
   | (show WPl _ _ _ _ _ _ _ (⟨_, .fieldAddr _ _ _, _, _, _, _⟩ :: _) _; refine WPl.rdX (ReadR.fieldE rfl hasA (by first | assumption | omega)) ?_)
   | (show WPl _ _ _ _ _ _ _ (⟨_, .load _ _, _, _, _, _⟩ :: _) _; first | refine WPl.rdX (ReadR.loadE rfl hasA (by assumption)) ?_ | refine WPl.rdX (ReadR.loadES (by assumption) (by first | assumption | omega) rfl hasA) ?_)
   | (show WPl _ _ _ _ _ _ _ (⟨_, .slice _ _ _ _ _, _, _, _, _⟩ :: _) _; first | refine WPl.rdX (ReadR.sliceH rfl rfl hasA (by omega)) ?_ | refine WPl.rdX (ReadR.sliceL rfl rfl hasA (by omega)) ?_ | refine WPl.rdX (ReadR.sliceLH rfl rfl rfl hasA (by omega) (by omega)) ?_)
   | (refine WPl.spQ (fun hc => ?_) (fun hc => ?_) <;> try exact prA)
   | fail)
  all_goals try (first | exact WPq.dTp | exact WPq.dTs | exact WPq.dV | exact WPq.dR | exact WPq.dR2 | exact WPq.dH | exact WPq.dBH | exact WPq.dT)
theorem flen0_t : Triple Try.prog 26 #[.pointer none] [] (RVal (.int .i64 0)) := by
  refine Triple.enter Try.func26 rfl Try.ntmps26 rfl (fun W => ?_)
  dsimp only [argsF, Nat.reduceAdd]
  repeat' (first
   | refine WPl.nil ?_ | refine WPq.then ?_ | refine WPq.thenR ?_ | refine WPq.thenE ?_ | refine WPq.blockN ?_ | refine WPq.blockR ?_ | refine WPq.blockE ?_ | refine WPq.blockO rfl ?_ | refine WPc.seq ?_ | refine WPc.block ?_ | refine WPc.ret ?_ | refine WPc.exit ?_ | refine WPc.skip ?_ | refine WPc.region ?_
   | (refine isCond ?_; first | refine WPc.cT ?_ | refine WPc.cF ?_ | (refine WPc.cQ (fun hc => ?_) (fun hc => ?_) <;> try exact prA))
   | (refine isD 4 ?_; refine WPl.rdX (readP) ?_)
   | (refine isOp ?_; first | refine WPl.rd ?_ | refine WPl.sk ?_ | refine WPl.rdB ?_)
   | (show WPl _ _ _ _ _ _ _ (⟨_, .indexAddr _ _ _, _, _, _, _⟩ :: _) _; refine WPl.rdX (ReadR.indexE rfl rfl hasA (by first | assumption | omega)) ?_)
   | (show WPl _ _ _ _ _ _ _ (⟨_, .fieldAddr _ _ _, _, _, _, _⟩ :: _) _; refine WPl.rdX (ReadR.fieldE rfl hasA (by first | assumption | omega)) ?_)
   | (show WPl _ _ _ _ _ _ _ (⟨_, .load _ _, _, _, _, _⟩ :: _) _; first | refine WPl.rdX (ReadR.loadE rfl hasA (by assumption)) ?_ | refine WPl.rdX (ReadR.loadES (by assumption) (by first | assumption | omega) rfl hasA) ?_)
   | (show WPl _ _ _ _ _ _ _ (⟨_, .slice _ _ _ _ _, _, _, _, _⟩ :: _) _; first | refine WPl.rdX (ReadR.sliceH rfl rfl hasA (by omega)) ?_ | refine WPl.rdX (ReadR.sliceL rfl rfl hasA (by omega)) ?_ | refine WPl.rdX (ReadR.sliceLH rfl rfl rfl hasA (by omega) (by omega)) ?_)
   | (refine WPl.spQ (fun hc => ?_) (fun hc => ?_) <;> try exact prA)
   | fail)
  all_goals try (first | exact WPq.dTp | exact WPq.dTs | exact WPq.dV | exact WPq.dR | exact WPq.dR2 | exact WPq.dH | exact WPq.dBH | exact WPq.dT)
theorem flist0_t : Triple Try.prog 29 #[.pointer none] [] (RVal (.slice none 0 0)) := by
  refine Triple.enter Try.func29 rfl Try.ntmps29 rfl (fun W => ?_)
  dsimp only [argsF, Nat.reduceAdd]
  repeat' (first
   | refine WPl.nil ?_ | refine WPq.then ?_ | refine WPq.thenR ?_ | refine WPq.thenE ?_ | refine WPq.blockN ?_ | refine WPq.blockR ?_ | refine WPq.blockE ?_ | refine WPq.blockO rfl ?_ | refine WPc.seq ?_ | refine WPc.block ?_ | refine WPc.ret ?_ | refine WPc.exit ?_ | refine WPc.skip ?_ | refine WPc.region ?_
   | (refine isCond ?_; first | refine WPc.cT ?_ | refine WPc.cF ?_ | (refine WPc.cQ (fun hc => ?_) (fun hc => ?_) <;> try exact prA))
   | (refine isD 7 ?_; refine WPl.rdX (readP) ?_)
   | (refine isOp ?_; first | refine WPl.rd ?_ | refine WPl.sk ?_ | refine WPl.rdB ?_)
   | (refine isAl ?_; refine WPl.nw fun g => ?_)
   | (refine isSt ?_; first | refine WPl.st1 ?_ | refine WPl.stA ?_ | refine WPl.stEB ?_ | refine WPl.stRB ?_)
   | (show WPl _ _ _ _ _ _ _ (⟨_, .indexAddr _ _ _, _, _, _, _⟩ :: _) _; refine WPl.rdX (ReadR.indexE rfl rfl hasA (by first | assumption | omega)) ?_)
   | (show WPl _ _ _ _ _ _ _ (⟨_, .fieldAddr _ _ _, _, _, _, _⟩ :: _) _; refine WPl.rdX (ReadR.fieldE rfl hasA (by first | assumption | omega)) ?_)
   | (show WPl _ _ _ _ _ _ _ (⟨_, .load _ _, _, _, _, _⟩ :: _) _; first | refine WPl.rdX (ReadR.loadE rfl hasA (by assumption)) ?_ | refine WPl.rdX (ReadR.loadES (by assumption) (by first | assumption | omega) rfl hasA) ?_)
   | (show WPl _ _ _ _ _ _ _ (⟨_, .slice _ _ _ _ _, _, _, _, _⟩ :: _) _; first | refine WPl.rdX (ReadR.sliceH rfl rfl hasA (by omega)) ?_ | refine WPl.rdX (ReadR.sliceL rfl rfl hasA (by omega)) ?_ | refine WPl.rdX (ReadR.sliceLH rfl rfl rfl hasA (by omega) (by omega)) ?_)
   | (refine WPl.spQ (fun hc => ?_) (fun hc => ?_) <;> try exact prA)
   | fail)
  all_goals try (first | exact WPq.dTp | exact WPq.dTs | exact WPq.dV | exact WPq.dR | exact WPq.dR2 | exact WPq.dH | exact WPq.dBH | exact WPq.dT)
def flS : Fl := ⟨Adr.zero, Adr.zero, 5, 6, 17⟩
def enS : En := ⟨0, 0, Adr.zero, 9, 0, 5⟩
def flR : Fl := ⟨Adr.zero, Adr.zero, 9, 5, 17⟩
theorem mhas_nil {K V : Type} [DecidableEq K] {k : K} : mhas ([] : List (K × V)) k = false := rfl
theorem mhas_same {K V : Type} [DecidableEq K] {l : List (K × V)} {k : K} {vd : V} : mhas (mput l k vd) k = true := by rw [mhas_put, decide_eq_true rfl]; rfl
theorem mget_same' {K V : Type} [DecidableEq K] {M : MK K V} {l : List (K × V)} {k : K} {vd : V} : mget M (mput l k vd) k = vd := by rw [mget_put, if_pos rfl]
attribute [local irreducible] mp mpe mget mfind mput mdel
theorem flives_t : Triple Try.prog 27 #[] [] (RVal (.bool true)) := by
  have c0 := fnew_t 5 (by omega) (by omega)
  have cs := some_t
  have w1 : flW flS := by unfold flW flS; dsimp only; omega
  have w2 : flW flR := by unfold flW flR; dsimp only; omega
  have hr : replyF flS enS = flR := rfl
  obtain ⟨L, hL⟩ : ∃ L, L = mput ([] : List (Fl × En)) flS enS := ⟨_, rfl⟩
  obtain ⟨R, hR'⟩ : ∃ R, R = mput ([] : List (Fl × Fl)) flR flS := ⟨_, rfl⟩
  have c1 := fun gT m1 m2 => fput_t gT m1 m2 5 [] [] flS enS 1 w1 (hr ▸ w2) mhas_nil mhas_nil (by simp)
  rw [hr, ← hL, ← hR'] at c1
  have hg : mget flM L flS = enS := by rw [hL, mget_same']
  have hh : mhas L flS = true := by rw [hL, mhas_same]
  have v1 : getV L flS 4 = true := by unfold getV; rw [hg, hh]; decide +kernel
  have v2 : getV L flS 5 = false := by unfold getV; rw [hg, hh]; decide +kernel
  have v3 : getV L flS 1 = true := by unfold getV; rw [hg, hh]; decide +kernel
  have g1 : getE L flS 4 = enS := by unfold getE; rw [v1, hg]; rfl
  have g2 : getE L flS 5 = En.zero := by unfold getE; rw [v2]; rfl
  have g3 : getE L flS 1 = enS := by unfold getE; rw [v3, hg]; rfl
  have c2 := fun gT m1 m2 => fget_t gT m1 m2 5 L flS 4 w1
  have c3 := fun gT m1 m2 => fget_t gT m1 m2 5 L flS 5 w1
  have c4 := fun gT m1 m2 => fReply_t gT m1 m2 5 L R flR flS 1 w2 w1 (by rw [hR', mget_same'])
  have hh2 : mhas R flR = true := by rw [hR', mhas_same]
  rw [v1, g1] at c2
  rw [v2, g2] at c3
  rw [v3, g3, hh2] at c4
  simp only [Bool.and_self, if_true] at c4
  clear hL hR' hg hh v1 v2 v3 g1 g2 g3 hh2
  refine Triple.enter Try.func27 rfl Try.ntmps27 rfl (fun W => ?_)
  dsimp only [argsF, Nat.reduceAdd]
  repeat' (first
   | refine WPl.nil ?_ | refine WPq.then ?_ | refine WPq.thenR ?_ | refine WPq.thenE ?_ | refine WPq.blockN ?_ | refine WPq.blockR ?_ | refine WPq.blockE ?_ | refine WPq.blockO rfl ?_ | refine WPc.seq ?_ | refine WPc.block ?_ | refine WPc.ret ?_ | refine WPc.exit ?_ | refine WPc.skip ?_ | refine WPc.region ?_
   | (refine isReg 6 ?_; refine WPc.drA [([], []), ([0], [38]), ([0, 1], [38, 39]), ([0, 1, 2], [38, 39, 40]), ([0, 1, 2, 3], [38, 39, 40, 41]), ([0, 1, 2, 3, 4], [38, 39, 40, 41, 42]), ([0, 1, 2, 3, 4, 5], [38, 39, 40, 41, 42, 43]), ([0, 1, 2, 3, 4, 5, 6], [38, 39, 40, 41, 42, 43, 44]), ([0, 1, 2, 3, 4, 5, 6, 7], [38, 39, 40, 41, 42, 43, 44, 45]), ([0, 1, 2, 3, 4, 5, 6, 7, 8], [38, 39, 40, 41, 42, 43, 44, 45, 46]), ([0, 1, 2, 3, 4, 5, 6, 7, 8, 9], [38, 39, 40, 41, 42, 43, 44, 45, 46, 47]), ([0, 1, 2, 3, 4, 5, 6, 7, 8, 9, 10], [38, 39, 40, 41, 42, 43, 44, 45, 46, 47, 48]), ([0, 1, 2, 3, 4, 5, 6, 7, 8, 9, 10, 11], [38, 39, 40, 41, 42, 43, 44, 45, 46, 47, 48, 49]), ([0, 1, 2, 3, 4, 5, 6, 7, 8, 9, 10, 11, 12], [38, 39, 40, 41, 42, 43, 44, 45, 46, 47, 48, 49, 50]), ([0, 1, 2, 3, 4, 5, 6, 7, 8, 9, 10, 11, 12, 13], [38, 39, 40, 41, 42, 43, 44, 45, 46, 47, 48, 49, 50, 51]), ([0, 1, 2, 3, 4, 5, 6, 7, 8, 9, 10, 11, 12, 13, 14], [38, 39, 40, 41, 42, 43, 44, 45, 46, 47, 48, 49, 50, 51, 52]), ([0, 1, 2, 3, 4, 5, 6, 7, 8, 9, 10, 11, 12, 13, 14, 15], [38, 39, 40, 41, 42, 43, 44, 45, 46, 47, 48, 49, 50, 51, 52, 53]), ([0, 1, 2, 3, 4, 5, 6, 7, 8, 9, 10, 11, 12, 13, 14, 15, 16], [38, 39, 40, 41, 42, 43, 44, 45, 46, 47, 48, 49, 50, 51, 52, 53, 54, 56]), ([0, 1, 2, 3, 4, 5, 6, 7, 8, 9, 10, 11, 12, 13, 14, 15, 16], [38, 39, 40, 41, 42, 43, 44, 45, 46, 47, 48, 49, 50, 51, 52, 53, 54, 55]), ([0, 1, 2, 3, 4, 5, 6, 7, 8, 9, 10, 11, 12, 13, 14, 15, 16, 17, 18], [38, 39, 40, 41, 42, 43, 44, 45, 46, 47, 48, 49, 50, 51, 52, 53, 54, 55, 56]), ([0, 1, 2, 3, 4, 5, 6, 7, 8, 9, 10, 11, 12, 13, 14, 15, 16, 17, 18, 19], [38, 39, 40, 41, 42, 43, 44, 45, 46, 47, 48, 49, 50, 51, 52, 53, 54, 55, 56, 57]), ([0, 1, 2, 3, 4, 5, 6, 7, 8, 9, 10, 11, 12, 13, 14, 15, 16, 17, 18, 19, 20], [38, 39, 40, 41, 42, 43, 44, 45, 46, 47, 48, 49, 50, 51, 52, 53, 54, 55, 56, 57, 58])] [] (Γx := []) ?_; dsimp only [prev0, List.length_nil, List.length_cons])
   | (refine gAny ?_; first | (refine gGd ?_; refine RGl.skp ?_) | (refine gC 16 ?_; refine RGl.vl (fun e hk => OpT.callN (cs)) ?_) | (refine gC 18 ?_; refine RGl.turns (fun e hk => by (try dsimp only [bndR, ensR, oksR, fcutR, List.append_nil, List.nil_append, List.cons_append, List.append_assoc] at hk ⊢); exact OpT.callTs (c1 _ _ _)) ?_) | (refine gC 21 ?_; refine RGl.vl (fun e hk => OpT.callN (cs)) ?_) | (refine gC 22 ?_; refine RGl.turns (fun e hk => by (try dsimp only [bndR, ensR, oksR, fcutR, List.append_nil, List.nil_append, List.cons_append, List.append_assoc] at hk ⊢); exact OpT.callTs (c2 _ _ _)) ?_) | (refine gC 27 ?_; refine RGl.vl (fun e hk => OpT.callN (cs)) ?_) | (refine gC 28 ?_; refine RGl.turns (fun e hk => by (try dsimp only [bndR, ensR, oksR, fcutR, List.append_nil, List.nil_append, List.cons_append, List.append_assoc] at hk ⊢); exact OpT.callTs (c3 _ _ _)) ?_) | (refine gC 34 ?_; refine RGl.turns (fun e hk => by (try dsimp only [bndR, ensR, oksR, fcutR, List.append_nil, List.nil_append, List.cons_append, List.append_assoc] at hk ⊢); exact OpT.callTs (c4 _ _ _)) ?_) | (refine gC 56 ?_; refine RGl.vl (fun e hk => OpT.callN (cs)) ?_) | (refine gD 39 ?_; refine RGl.rdX (fun e hk => by (try dsimp only [bndR, ensR, oksR, fcutR, List.append_nil, List.nil_append, List.cons_append, List.append_assoc] at hk ⊢); exact ReadR.binE rfl rfl BinR.eql (congrArg Value.bool (decide_eq_true rfl))) ?_) | (refine gD 42 ?_; refine RGl.rdX (fun e hk => by (try dsimp only [bndR, ensR, oksR, fcutR, List.append_nil, List.nil_append, List.cons_append, List.append_assoc] at hk ⊢); exact ReadR.binE rfl rfl BinR.eql (congrArg Value.bool (decide_eq_true rfl))) ?_) | (refine gOp ?_; first | refine RGl.rdA ?_ | refine RGl.rdX (fun e hk => by (try dsimp only [bndR, ensR, oksR, fcutR, List.append_nil, List.nil_append, List.cons_append, List.append_assoc] at hk ⊢); exact readB) ?_) | (refine RGl.fin (fun e hk => ?_); (try dsimp only [bndA, ensAR, oksA, List.append_nil, List.nil_append, List.cons_append, List.append_assoc] at hk ⊢); (repeat (obtain ⟨hk1, hk⟩ := hk))) | fail)
   | (refine isCond ?_; first | refine WPc.cT ?_ | refine WPc.cF ?_ | (refine WPc.cQ (fun hc => ?_) (fun hc => ?_) <;> try exact prA))
   | (refine isC 12 ?_; refine WPl.cXs (c0) fun v Γ1 hR => ?_; obtain ⟨gT, m1, m2, rfl, rfl⟩ := hR; (try dsimp only [putF, List.cons_append, List.nil_append]))
   | (refine isC 16 ?_; refine WPl.cV (cs) ?_)
   | (refine isC 18 ?_; refine WPl.cTs (c1 _ _ _) ?_; (try dsimp only [putF, List.cons_append, List.nil_append]))
   | (refine isC 21 ?_; refine WPl.cV (cs) ?_)
   | (refine isC 22 ?_; refine WPl.cTs (c2 _ _ _) ?_; (try dsimp only [putF, List.cons_append, List.nil_append]))
   | (refine isC 27 ?_; refine WPl.cV (cs) ?_)
   | (refine isC 28 ?_; refine WPl.cTs (c3 _ _ _) ?_; (try dsimp only [putF, List.cons_append, List.nil_append]))
   | (refine isC 34 ?_; refine WPl.cTs (c4 _ _ _) ?_; (try dsimp only [putF, List.cons_append, List.nil_append]))
   | (refine isC 56 ?_; refine WPl.cV (cs) ?_)
   | (refine isD 39 ?_; refine WPl.rdX (ReadR.binE rfl rfl BinR.eql (congrArg Value.bool (decide_eq_true rfl))) ?_)
   | (refine isD 42 ?_; refine WPl.rdX (ReadR.binE rfl rfl BinR.eql (congrArg Value.bool (decide_eq_true rfl))) ?_)
   | (refine isOp ?_; first | refine WPl.rd ?_ | refine WPl.sk ?_ | refine WPl.rdB ?_)
   | (refine isAl ?_; refine WPl.nw fun g => ?_)
   | (refine isSt ?_; first | refine WPl.st1 ?_ | refine WPl.stA ?_ | refine WPl.stEB ?_ | refine WPl.stRB ?_)
   | (show WPl _ _ _ _ _ _ _ (⟨_, .indexAddr _ _ _, _, _, _, _⟩ :: _) _; refine WPl.rdX (ReadR.indexE rfl rfl hasA (by first | assumption | omega)) ?_)
   | (show WPl _ _ _ _ _ _ _ (⟨_, .fieldAddr _ _ _, _, _, _, _⟩ :: _) _; refine WPl.rdX (ReadR.fieldE rfl hasA (by first | assumption | omega)) ?_)
   | (show WPl _ _ _ _ _ _ _ (⟨_, .load _ _, _, _, _, _⟩ :: _) _; first | refine WPl.rdX (ReadR.loadE rfl hasA (by assumption)) ?_ | refine WPl.rdX (ReadR.loadES (by assumption) (by first | assumption | omega) rfl hasA) ?_)
   | (show WPl _ _ _ _ _ _ _ (⟨_, .slice _ _ _ _ _, _, _, _, _⟩ :: _) _; first | refine WPl.rdX (ReadR.sliceH rfl rfl hasA (by omega)) ?_ | refine WPl.rdX (ReadR.sliceL rfl rfl hasA (by omega)) ?_ | refine WPl.rdX (ReadR.sliceLH rfl rfl rfl hasA (by omega) (by omega)) ?_)
   | (refine WPl.spQ (fun hc => ?_) (fun hc => ?_) <;> try exact prA)
   | fail)
  exact WPq.dV (hc := by simp [resV, flS])
/-- What is done. -/
structure Fc where
  k : Int
  f : Fl
  a : En
  now : Int
abbrev fcC (x : Fc) : Ch := (1, [.int .i64 x.k]) :: (flc x.f ++ (enC x.a ++ [(1, [.int .u64 x.now])]))
end Go.Proofs.Ytncgponcedkihaa
