/- Layer 23 (flows): contracts. -/
import Derived.Test.YtncgponcedkihaaFa
namespace Go.Proofs.Ytncgponcedkihaa
open Go.RowKit
set_option linter.unusedSimpArgs false
set_option linter.unusedVariables false
set_option maxRecDepth 20000
set_option maxHeartbeats 4000000
attribute [local irreducible] WPc WPl WPq ReadR OpT BinR HasS bx rdN rowN Take Takes Prov Triple ResF BuildP Done ag Int.decLt Int.decLe Int.instDecidableEq
section
variable (gT m1 m2 : Nat) (most : Int)
attribute [local irreducible] mp mpe mget mfind mput mdel
theorem fdrop1_t (L : List (Fl × En)) (R : List (Fl × Fl)) (f : Fl) (a : En) (hf : flW f) (hr : flW (replyF f a)) (ha : mget flM L f = a) (hb : mhas L f = true) :
    Triple Try.prog 61 #[hPf gT, ag (flc f)] [(bx gT 141 (fxc most m1 m2)), mp flM m1 L, mp rpM m2 R] (RTurns (.bool true) [(bx gT 141 (fxc most m1 m2)), mp flM m1 (mdel L f), mp rpM m2 (mdel R (replyF f a))]) := by
  have l1 := f.src.len
  have l2 := f.dst.len
  have l3 := a.ad.len
  have hwf : flM.wf f := hf
  have hwr : rpM.wf (replyF f a) := hr
  have hget : flM.vc (mget flM L f) = ag (enC a) := by rw [ha]; rfl
  have c1 := freply_t f a
  refine Triple.enter Try.func61 rfl Try.ntmps61 rfl (fun W => ?_)
  dsimp only [argsF, Nat.reduceAdd]
  repeat' (first
   | refine WPl.nil ?_ | refine WPq.then ?_ | refine WPq.thenR ?_ | refine WPq.thenE ?_ | refine WPq.blockN ?_ | refine WPq.blockR ?_ | refine WPq.blockE ?_ | refine WPq.blockO rfl ?_ | refine WPc.seq ?_ | refine WPc.block ?_ | refine WPc.ret ?_ | refine WPc.exit ?_ | refine WPc.skip ?_ | refine WPc.region ?_
   | (refine isReg 1 ?_; refine WPc.drA [([], [5, 12]), ([0], [5, 8, 12]), ([0, 1], [5, 8, 9, 12]), ([0, 1, 2], [5, 8, 9, 10, 12]), ([], [5, 8, 9, 10, 11]), ([0, 1, 2, 3, 4], [5, 8, 9, 10, 11, 12]), ([0, 1, 2, 3, 4, 5], [5, 8, 9, 10, 11, 12, 13]), ([0, 1, 2, 3, 4, 5, 6], [5, 7, 8, 9, 10, 11, 12, 13, 15]), ([0, 1, 2, 3, 4, 5, 6], [5, 7, 8, 9, 10, 11, 12, 13, 14]), ([], [7, 8, 9, 10, 11, 12, 13, 14, 15]), ([0, 1, 2, 3, 4, 5, 6, 7, 9], [5, 7, 8, 9, 10, 11, 12, 13, 14, 15]), ([0, 1, 2, 3, 4, 5, 6, 7, 8, 9, 10], [5, 7, 8, 9, 10, 11, 12, 13, 14, 15])] [(9, 10)] (Γx := []) ?_; dsimp only [prev0, List.length_nil, List.length_cons])
   | (refine isReg 3 ?_; refine WPc.drA [([8], [21, 22, 23]), ([0, 8], [17, 21, 22, 23]), ([0, 1, 8], [17, 18, 21, 22, 23]), ([0, 1, 2, 8], [17, 18, 19, 21, 22, 23]), ([8], [17, 18, 19, 20, 22]), ([8], [17, 18, 19, 20, 21]), ([4, 5, 8], [17, 18, 19, 20, 21, 22]), ([0, 1, 2, 3, 4, 5, 6, 8], [17, 18, 19, 20, 21, 22, 23])] [(8, 7), (8, 0), (8, 1), (8, 2), (8, 3), (8, 4), (8, 5), (8, 6)] (Γx := [mp rpM m2 R]) (hox := ownsA) ?_; dsimp only [prev0, List.length_nil, List.length_cons])
   | (refine isReg 4 ?_; refine WPc.drA [([6], [28]), ([0, 6], [24, 28]), ([0, 1, 6], [24, 25, 28]), ([0, 1, 2, 6], [24, 25, 26, 28]), ([6], [24, 25, 26, 27]), ([0, 1, 2, 3, 4, 6], [24, 25, 26, 27, 28])] [(6, 5), (6, 0), (6, 1), (6, 2), (6, 3), (6, 4)] (Γx := [mp flM m1 L]) (hox := ownsA) ?_; dsimp only [prev0, List.length_nil, List.length_cons])
   | (refine gAny ?_; first | (refine gC 23 ?_; refine RGl.vl (fun e hk => OpT.callN (c1)) ?_) | (refine gOp ?_; refine RGl.turn (fun e hk => by (try dsimp only [bndR, ensR, oksR, fcutR, List.append_nil, List.nil_append, List.cons_append, List.append_assoc] at hk ⊢); exact OpT.mdel (k := replyF f a) (hwr) rfl rfl takesA) ?_) | (refine gOp ?_; refine RGl.turn (fun e hk => by (try dsimp only [bndR, ensR, oksR, fcutR, List.append_nil, List.nil_append, List.cons_append, List.append_assoc] at hk ⊢); exact OpT.mdel (k := f) (hwf) rfl rfl takesA) ?_) | (refine gD 13 ?_; refine RGl.rdX (fun e hk => by (try dsimp only [bndR, ensR, oksR, fcutR, List.append_nil, List.nil_append, List.cons_append, List.append_assoc] at hk ⊢); exact ReadR.lookOk (M := flM) (k := f) hwf rfl rfl memA hget hb) ?_) | (refine gOp ?_; first | refine RGl.rdA ?_ | refine RGl.rdX (fun e hk => by (try dsimp only [bndR, ensR, oksR, fcutR, List.append_nil, List.nil_append, List.cons_append, List.append_assoc] at hk ⊢); exact readB) ?_) | (refine gAl ?_; refine RGl.nwA ?_) | (refine gSt ?_; refine RGl.stA ?_) | (refine RGl.fin (fun e hk => ?_); (try dsimp only [bndA, ensAR, oksA, List.append_nil, List.nil_append, List.cons_append, List.append_assoc] at hk ⊢); (repeat (obtain ⟨hk1, hk⟩ := hk))) | fail)
   | (refine isCond ?_; first | refine WPc.cT ?_ | refine WPc.cF ?_ | (refine WPc.cQ (fun hc => ?_) (fun hc => ?_) <;> try exact prA))
   | (refine isD 13 ?_; refine WPl.rdX (ReadR.lookOk (M := flM) (k := f) hwf rfl rfl memA hget hb) ?_)
   | (refine isC 23 ?_; refine WPl.cV (c1) ?_)
   | (refine WPl.mdel (replyF f a) (hwr) ?_)
   | (refine WPl.mdel (f) (hwf) ?_)
   | (refine isOp ?_; first | refine WPl.rd ?_ | refine WPl.sk ?_ | refine WPl.rdB ?_)
   | (refine isAl ?_; refine WPl.nw fun g => ?_)
   | (refine isBx ?_; refine WPl.nw fun g => ?_)
   | (refine isSt ?_; first | refine WPl.st1 ?_ | refine WPl.stA ?_ | refine WPl.stEB ?_ | refine WPl.stRB ?_)
   | (show WPl _ _ _ _ _ _ _ (⟨_, .indexAddr _ _ _, _, _, _, _⟩ :: _) _; refine WPl.rdX (ReadR.indexE rfl rfl hasA (by first | assumption | omega)) ?_)
   | (show WPl _ _ _ _ _ _ _ (⟨_, .fieldAddr _ _ _, _, _, _, _⟩ :: _) _; refine WPl.rdX (ReadR.fieldE rfl hasA (by first | assumption | omega)) ?_)
   | (show WPl _ _ _ _ _ _ _ (⟨_, .load _ _, _, _, _, _⟩ :: _) _; first | refine WPl.rdX (ReadR.loadE rfl hasA (by assumption)) ?_ | refine WPl.rdX (ReadR.loadES (by assumption) (by first | assumption | omega) rfl hasA) ?_)
   | (show WPl _ _ _ _ _ _ _ (⟨_, .slice _ _ _ _ _, _, _, _, _⟩ :: _) _; first | refine WPl.rdX (ReadR.sliceH rfl rfl hasA (by omega)) ?_ | refine WPl.rdX (ReadR.sliceL rfl rfl hasA (by omega)) ?_ | refine WPl.rdX (ReadR.sliceLH rfl rfl rfl hasA (by omega) (by omega)) ?_)
   | (refine WPl.spQ (fun hc => ?_) (fun hc => ?_) <;> try exact prA)
   | fail)
  exact WPq.dTp
theorem fdrop0_t (L : List (Fl × En)) (f : Fl) (hf : flW f) (hb : mhas L f = false) :
    Triple Try.prog 61 #[hPf gT, ag (flc f)] [(bx gT 141 (fxc most m1 m2)), mp flM m1 L] (RTurns (.bool false) [(bx gT 141 (fxc most m1 m2)), mp flM m1 L]) := by
  have l1 := f.src.len
  have l2 := f.dst.len
  have hwf : flM.wf f := hf
  obtain ⟨a, ha⟩ : ∃ a, mget flM L f = a := ⟨_, rfl⟩
  have hget : flM.vc (mget flM L f) = ag (enC a) := by rw [ha]; rfl
  have l3 := a.ad.len
  refine Triple.enter Try.func61 rfl Try.ntmps61 rfl (fun W => ?_)
  dsimp only [argsF, Nat.reduceAdd]
  repeat' (first
   | refine WPl.nil ?_ | refine WPq.then ?_ | refine WPq.thenR ?_ | refine WPq.thenE ?_ | refine WPq.blockN ?_ | refine WPq.blockR ?_ | refine WPq.blockE ?_ | refine WPq.blockO rfl ?_ | refine WPc.seq ?_ | refine WPc.block ?_ | refine WPc.ret ?_ | refine WPc.exit ?_ | refine WPc.skip ?_ | refine WPc.region ?_
   | (refine isReg 1 ?_; refine WPc.drA [([], [5, 12]), ([0], [5, 8, 12]), ([0, 1], [5, 8, 9, 12]), ([0, 1, 2], [5, 8, 9, 10, 12]), ([], [5, 8, 9, 10, 11]), ([0, 1, 2, 3, 4], [5, 8, 9, 10, 11, 12]), ([0, 1, 2, 3, 4, 5], [5, 8, 9, 10, 11, 12, 13]), ([0, 1, 2, 3, 4, 5, 6], [5, 7, 8, 9, 10, 11, 12, 13, 15]), ([0, 1, 2, 3, 4, 5, 6], [5, 7, 8, 9, 10, 11, 12, 13, 14]), ([], [7, 8, 9, 10, 11, 12, 13, 14, 15]), ([0, 1, 2, 3, 4, 5, 6, 7, 9], [5, 7, 8, 9, 10, 11, 12, 13, 14, 15]), ([0, 1, 2, 3, 4, 5, 6, 7, 8, 9, 10], [5, 7, 8, 9, 10, 11, 12, 13, 14, 15])] [(9, 10)] (Γx := []) ?_; dsimp only [prev0, List.length_nil, List.length_cons])
   | (refine isReg 3 ?_; refine WPc.drA [([], [21, 22, 23]), ([0], [17, 21, 22, 23]), ([0, 1], [17, 18, 21, 22, 23]), ([0, 1, 2], [17, 18, 19, 21, 22, 23]), ([], [17, 18, 19, 20, 22]), ([], [17, 18, 19, 20, 21]), ([4, 5], [17, 18, 19, 20, 21, 22]), ([0, 1, 2, 3, 4, 5, 6], [17, 18, 19, 20, 21, 22, 23])] [] (Γx := []) ?_; dsimp only [prev0, List.length_nil, List.length_cons])
   | (refine isReg 4 ?_; refine WPc.drA [([], [28]), ([0], [24, 28]), ([0, 1], [24, 25, 28]), ([0, 1, 2], [24, 25, 26, 28]), ([], [24, 25, 26, 27]), ([0, 1, 2, 3, 4], [24, 25, 26, 27, 28])] [] (Γx := []) ?_; dsimp only [prev0, List.length_nil, List.length_cons])
   | (refine gAny ?_; first | (refine gD 13 ?_; refine RGl.rdX (fun e hk => by (try dsimp only [bndR, ensR, oksR, fcutR, List.append_nil, List.nil_append, List.cons_append, List.append_assoc] at hk ⊢); exact ReadR.lookOk (M := flM) (k := f) hwf rfl rfl memA hget hb) ?_) | (refine gOp ?_; first | refine RGl.rdA ?_ | refine RGl.rdX (fun e hk => by (try dsimp only [bndR, ensR, oksR, fcutR, List.append_nil, List.nil_append, List.cons_append, List.append_assoc] at hk ⊢); exact readB) ?_) | (refine gAl ?_; refine RGl.nwA ?_) | (refine gSt ?_; refine RGl.stA ?_) | (refine RGl.fin (fun e hk => ?_); (try dsimp only [bndA, ensAR, oksA, List.append_nil, List.nil_append, List.cons_append, List.append_assoc] at hk ⊢); (repeat (obtain ⟨hk1, hk⟩ := hk))) | fail)
   | (refine isCond ?_; first | refine WPc.cT ?_ | refine WPc.cF ?_ | (refine WPc.cQ (fun hc => ?_) (fun hc => ?_) <;> try exact prA))
   | (refine isD 13 ?_; refine WPl.rdX (ReadR.lookOk (M := flM) (k := f) hwf rfl rfl memA hget hb) ?_)
   | (refine isOp ?_; first | refine WPl.rd ?_ | refine WPl.sk ?_ | refine WPl.rdB ?_)
   | (refine isAl ?_; refine WPl.nw fun g => ?_)
   | (refine isBx ?_; refine WPl.nw fun g => ?_)
   | (refine isSt ?_; first | refine WPl.st1 ?_ | refine WPl.stA ?_ | refine WPl.stEB ?_ | refine WPl.stRB ?_)
   | (show WPl _ _ _ _ _ _ _ (⟨_, .indexAddr _ _ _, _, _, _, _⟩ :: _) _; refine WPl.rdX (ReadR.indexE rfl rfl hasA (by first | assumption | omega)) ?_)
   | (show WPl _ _ _ _ _ _ _ (⟨_, .fieldAddr _ _ _, _, _, _, _⟩ :: _) _; refine WPl.rdX (ReadR.fieldE rfl hasA (by first | assumption | omega)) ?_)
   | (show WPl _ _ _ _ _ _ _ (⟨_, .load _ _, _, _, _, _⟩ :: _) _; first | refine WPl.rdX (ReadR.loadE rfl hasA (by assumption)) ?_ | refine WPl.rdX (ReadR.loadES (by assumption) (by first | assumption | omega) rfl hasA) ?_)
   | (show WPl _ _ _ _ _ _ _ (⟨_, .slice _ _ _ _ _, _, _, _, _⟩ :: _) _; first | refine WPl.rdX (ReadR.sliceH rfl rfl hasA (by omega)) ?_ | refine WPl.rdX (ReadR.sliceL rfl rfl hasA (by omega)) ?_ | refine WPl.rdX (ReadR.sliceLH rfl rfl rfl hasA (by omega) (by omega)) ?_)
   | (refine WPl.spQ (fun hc => ?_) (fun hc => ?_) <;> try exact prA)
   | fail)
  exact WPq.dTp
theorem fReply_t (L : List (Fl × En)) (R : List (Fl × Fl)) (r f : Fl) (now : Int) (hr : flW r) (hf : flW f) (ha : mget rpM R r = f) :
    Triple Try.prog 31 #[hPf gT, ag (flc r), .int .u64 now] [(bx gT 141 (fxc most m1 m2)), mp flM m1 L, mp rpM m2 R] (RTurns (.tuple #[ag (flc (if mhas R r && getV L f now then f else Fl.none)), ag (enC (if mhas R r && getV L f now then getE L f now else En.zero)), .bool (mhas R r && getV L f now)]) [(bx gT 141 (fxc most m1 m2)), mp flM m1 L, mp rpM m2 R]) := by
  have l1 := f.src.len
  have l2 := f.dst.len
  have l3 := r.src.len
  have l4 := r.dst.len
  have hwr : rpM.wf r := hr
  have hget : rpM.vc (mget rpM R r) = ag (flc f) := by rw [ha]; rfl
  have c1 := fget_t gT m1 m2 most L f now hf
  obtain ⟨a, haa⟩ : ∃ a, a = getE L f now := ⟨_, rfl⟩
  rw [← haa] at c1 ⊢
  have l5 := a.ad.len
  cases hb : mhas R r with
  | false =>
    refine Triple.enter Try.func31 rfl Try.ntmps31 rfl (fun W => ?_)
    dsimp only [argsF, Nat.reduceAdd]
    repeat' (first
     | refine WPl.nil ?_ | refine WPq.then ?_ | refine WPq.thenR ?_ | refine WPq.thenE ?_ | refine WPq.blockN ?_ | refine WPq.blockR ?_ | refine WPq.blockE ?_ | refine WPq.blockO rfl ?_ | refine WPc.seq ?_ | refine WPc.block ?_ | refine WPc.ret ?_ | refine WPc.exit ?_ | refine WPc.skip ?_ | refine WPc.region ?_
     | (refine isReg 3 ?_; refine WPc.drA [([], [9, 22]), ([0], [9, 18, 22]), ([0, 1], [9, 18, 19, 22]), ([0, 1, 2], [9, 18, 19, 20, 22]), ([], [9, 18, 19, 20, 21]), ([0, 1, 2, 3, 4], [9, 18, 19, 20, 21, 22]), ([0, 1, 2, 3, 4, 5], [9, 18, 19, 20, 21, 22, 23]), ([0, 1, 2, 3, 4, 5, 6], [9, 17, 18, 19, 20, 21, 22, 23, 25]), ([0, 1, 2, 3, 4, 5, 6], [9, 17, 18, 19, 20, 21, 22, 23, 24]), ([], [17, 18, 19, 20, 21, 22, 23, 24, 25]), ([0, 1, 2, 3, 4, 5, 6, 7, 9], [9, 17, 18, 19, 20, 21, 22, 23, 24, 25]), ([0, 1, 2, 3, 4, 5, 6, 7, 8, 9, 10], [9, 17, 18, 19, 20, 21, 22, 23, 24, 25])] [(9, 10)] (Γx := []) ?_; dsimp only [prev0, List.length_nil, List.length_cons])
     | (refine isReg 7 ?_; refine WPc.drA [([], [42]), ([], [41]), ([0], [41, 42]), ([0, 1, 2], [41, 42]), ([0, 1, 2, 3], [41, 42])] [] (Γx := []) ?_; dsimp only [prev0, List.length_nil, List.length_cons])
     | (refine gAny ?_; first | (refine gC 30 ?_; refine RGl.turns (fun e hk => by (try dsimp only [bndR, ensR, oksR, fcutR, List.append_nil, List.nil_append, List.cons_append, List.append_assoc] at hk ⊢); exact OpT.callTs (c1)) ?_) | (refine gD 14 ?_; refine RGl.rdX (fun e hk => by (try dsimp only [bndR, ensR, oksR, fcutR, List.append_nil, List.nil_append, List.cons_append, List.append_assoc] at hk ⊢); exact readP) ?_) | (refine gD 23 ?_; refine RGl.rdX (fun e hk => by (try dsimp only [bndR, ensR, oksR, fcutR, List.append_nil, List.nil_append, List.cons_append, List.append_assoc] at hk ⊢); exact ReadR.lookOk (M := rpM) (k := r) hwr rfl rfl memA hget hb) ?_) | (refine gOp ?_; first | refine RGl.rdA ?_ | refine RGl.rdX (fun e hk => by (try dsimp only [bndR, ensR, oksR, fcutR, List.append_nil, List.nil_append, List.cons_append, List.append_assoc] at hk ⊢); exact readB) ?_) | (refine gAl ?_; refine RGl.nwA ?_) | (refine gSt ?_; refine RGl.stA ?_) | (refine RGl.fin (fun e hk => ?_); (try dsimp only [bndA, ensAR, oksA, List.append_nil, List.nil_append, List.cons_append, List.append_assoc] at hk ⊢); (repeat (obtain ⟨hk1, hk⟩ := hk))) | fail)
     | (refine isCond ?_; first | refine WPc.cT ?_ | refine WPc.cF ?_ | (refine WPc.cQ (fun hc => ?_) (fun hc => ?_) <;> try exact prA))
     | (refine isD 14 ?_; refine WPl.rdX (readP) ?_)
     | (refine isD 23 ?_; refine WPl.rdX (ReadR.lookOk (M := rpM) (k := r) hwr rfl rfl memA hget hb) ?_)
     | (refine isC 30 ?_; refine WPl.cTs (c1) ?_; (try dsimp only [putF, List.cons_append, List.nil_append]))
     | (refine isOp ?_; first | refine WPl.rd ?_ | refine WPl.sk ?_ | refine WPl.rdB ?_)
     | (refine isAl ?_; refine WPl.nw fun g => ?_)
     | (refine isBx ?_; refine WPl.nw fun g => ?_)
     | (refine isSt ?_; first | refine WPl.st1 ?_ | refine WPl.stA ?_ | refine WPl.stEB ?_ | refine WPl.stRB ?_)
     | (show WPl _ _ _ _ _ _ _ (⟨_, .indexAddr _ _ _, _, _, _, _⟩ :: _) _; refine WPl.rdX (ReadR.indexE rfl rfl hasA (by first | assumption | omega)) ?_)
     | (show WPl _ _ _ _ _ _ _ (⟨_, .fieldAddr _ _ _, _, _, _, _⟩ :: _) _; refine WPl.rdX (ReadR.fieldE rfl hasA (by first | assumption | omega)) ?_)
     | (show WPl _ _ _ _ _ _ _ (⟨_, .load _ _, _, _, _, _⟩ :: _) _; first | refine WPl.rdX (ReadR.loadE rfl hasA (by assumption)) ?_ | refine WPl.rdX (ReadR.loadES (by assumption) (by first | assumption | omega) rfl hasA) ?_)
     | (show WPl _ _ _ _ _ _ _ (⟨_, .slice _ _ _ _ _, _, _, _, _⟩ :: _) _; first | refine WPl.rdX (ReadR.sliceH rfl rfl hasA (by omega)) ?_ | refine WPl.rdX (ReadR.sliceL rfl rfl hasA (by omega)) ?_ | refine WPl.rdX (ReadR.sliceLH rfl rfl rfl hasA (by omega) (by omega)) ?_)
     | (refine WPl.spQ (fun hc => ?_) (fun hc => ?_) <;> try exact prA)
     | fail)
    exact WPq.dTp
  | true =>
    cases hv : getV L f now with
    | false =>
      rw [hv] at c1
      refine Triple.enter Try.func31 rfl Try.ntmps31 rfl (fun W => ?_)
      dsimp only [argsF, Nat.reduceAdd]
      repeat' (first
       | refine WPl.nil ?_ | refine WPq.then ?_ | refine WPq.thenR ?_ | refine WPq.thenE ?_ | refine WPq.blockN ?_ | refine WPq.blockR ?_ | refine WPq.blockE ?_ | refine WPq.blockO rfl ?_ | refine WPc.seq ?_ | refine WPc.block ?_ | refine WPc.ret ?_ | refine WPc.exit ?_ | refine WPc.skip ?_ | refine WPc.region ?_
       | (refine isReg 3 ?_; refine WPc.drA [([], [9, 22]), ([0], [9, 18, 22]), ([0, 1], [9, 18, 19, 22]), ([0, 1, 2], [9, 18, 19, 20, 22]), ([], [9, 18, 19, 20, 21]), ([0, 1, 2, 3, 4], [9, 18, 19, 20, 21, 22]), ([0, 1, 2, 3, 4, 5], [9, 18, 19, 20, 21, 22, 23]), ([0, 1, 2, 3, 4, 5, 6], [9, 17, 18, 19, 20, 21, 22, 23, 25]), ([0, 1, 2, 3, 4, 5, 6], [9, 17, 18, 19, 20, 21, 22, 23, 24]), ([], [17, 18, 19, 20, 21, 22, 23, 24, 25]), ([0, 1, 2, 3, 4, 5, 6, 7, 9], [9, 17, 18, 19, 20, 21, 22, 23, 24, 25]), ([0, 1, 2, 3, 4, 5, 6, 7, 8, 9, 10], [9, 17, 18, 19, 20, 21, 22, 23, 24, 25])] [(9, 10)] (Γx := []) ?_; dsimp only [prev0, List.length_nil, List.length_cons])
       | (refine isReg 7 ?_; refine WPc.drA [([], [42]), ([], [41]), ([0], [41, 42]), ([0, 1, 2], [41, 42]), ([0, 1, 2, 3], [41, 42])] [] (Γx := []) ?_; dsimp only [prev0, List.length_nil, List.length_cons])
       | (refine gAny ?_; first | (refine gC 30 ?_; refine RGl.turns (fun e hk => by (try dsimp only [bndR, ensR, oksR, fcutR, List.append_nil, List.nil_append, List.cons_append, List.append_assoc] at hk ⊢); exact OpT.callTs (c1)) ?_) | (refine gD 14 ?_; refine RGl.rdX (fun e hk => by (try dsimp only [bndR, ensR, oksR, fcutR, List.append_nil, List.nil_append, List.cons_append, List.append_assoc] at hk ⊢); exact readP) ?_) | (refine gD 23 ?_; refine RGl.rdX (fun e hk => by (try dsimp only [bndR, ensR, oksR, fcutR, List.append_nil, List.nil_append, List.cons_append, List.append_assoc] at hk ⊢); exact ReadR.lookOk (M := rpM) (k := r) hwr rfl rfl memA hget hb) ?_) | (refine gOp ?_; first | refine RGl.rdA ?_ | refine RGl.rdX (fun e hk => by (try dsimp only [bndR, ensR, oksR, fcutR, List.append_nil, List.nil_append, List.cons_append, List.append_assoc] at hk ⊢); exact readB) ?_) | (refine gAl ?_; refine RGl.nwA ?_) | (refine gSt ?_; refine RGl.stA ?_) | (refine RGl.fin (fun e hk => ?_); (try dsimp only [bndA, ensAR, oksA, List.append_nil, List.nil_append, List.cons_append, List.append_assoc] at hk ⊢); (repeat (obtain ⟨hk1, hk⟩ := hk))) | fail)
       | (refine isCond ?_; first | refine WPc.cT ?_ | refine WPc.cF ?_ | (refine WPc.cQ (fun hc => ?_) (fun hc => ?_) <;> try exact prA))
       | (refine isD 14 ?_; refine WPl.rdX (readP) ?_)
       | (refine isD 23 ?_; refine WPl.rdX (ReadR.lookOk (M := rpM) (k := r) hwr rfl rfl memA hget hb) ?_)
       | (refine isC 30 ?_; refine WPl.cTs (c1) ?_; (try dsimp only [putF, List.cons_append, List.nil_append]))
       | (refine isOp ?_; first | refine WPl.rd ?_ | refine WPl.sk ?_ | refine WPl.rdB ?_)
       | (refine isAl ?_; refine WPl.nw fun g => ?_)
       | (refine isBx ?_; refine WPl.nw fun g => ?_)
       | (refine isSt ?_; first | refine WPl.st1 ?_ | refine WPl.stA ?_ | refine WPl.stEB ?_ | refine WPl.stRB ?_)
       | (show WPl _ _ _ _ _ _ _ (⟨_, .indexAddr _ _ _, _, _, _, _⟩ :: _) _; refine WPl.rdX (ReadR.indexE rfl rfl hasA (by first | assumption | omega)) ?_)
       | (show WPl _ _ _ _ _ _ _ (⟨_, .fieldAddr _ _ _, _, _, _, _⟩ :: _) _; refine WPl.rdX (ReadR.fieldE rfl hasA (by first | assumption | omega)) ?_)
       | (show WPl _ _ _ _ _ _ _ (⟨_, .load _ _, _, _, _, _⟩ :: _) _; first | refine WPl.rdX (ReadR.loadE rfl hasA (by assumption)) ?_ | refine WPl.rdX (ReadR.loadES (by assumption) (by first | assumption | omega) rfl hasA) ?_)
       | (show WPl _ _ _ _ _ _ _ (⟨_, .slice _ _ _ _ _, _, _, _, _⟩ :: _) _; first | refine WPl.rdX (ReadR.sliceH rfl rfl hasA (by omega)) ?_ | refine WPl.rdX (ReadR.sliceL rfl rfl hasA (by omega)) ?_ | refine WPl.rdX (ReadR.sliceLH rfl rfl rfl hasA (by omega) (by omega)) ?_)
       | (refine WPl.spQ (fun hc => ?_) (fun hc => ?_) <;> try exact prA)
       | fail)
      exact WPq.dTp
    | true =>
      rw [hv] at c1
      refine Triple.enter Try.func31 rfl Try.ntmps31 rfl (fun W => ?_)
      dsimp only [argsF, Nat.reduceAdd]
      repeat' (first
       | refine WPl.nil ?_ | refine WPq.then ?_ | refine WPq.thenR ?_ | refine WPq.thenE ?_ | refine WPq.blockN ?_ | refine WPq.blockR ?_ | refine WPq.blockE ?_ | refine WPq.blockO rfl ?_ | refine WPc.seq ?_ | refine WPc.block ?_ | refine WPc.ret ?_ | refine WPc.exit ?_ | refine WPc.skip ?_ | refine WPc.region ?_
       | (refine isReg 3 ?_; refine WPc.drA [([], [9, 22]), ([0], [9, 18, 22]), ([0, 1], [9, 18, 19, 22]), ([0, 1, 2], [9, 18, 19, 20, 22]), ([], [9, 18, 19, 20, 21]), ([0, 1, 2, 3, 4], [9, 18, 19, 20, 21, 22]), ([0, 1, 2, 3, 4, 5], [9, 18, 19, 20, 21, 22, 23]), ([0, 1, 2, 3, 4, 5, 6], [9, 17, 18, 19, 20, 21, 22, 23, 25]), ([0, 1, 2, 3, 4, 5, 6], [9, 17, 18, 19, 20, 21, 22, 23, 24]), ([], [17, 18, 19, 20, 21, 22, 23, 24, 25]), ([0, 1, 2, 3, 4, 5, 6, 7, 9], [9, 17, 18, 19, 20, 21, 22, 23, 24, 25]), ([0, 1, 2, 3, 4, 5, 6, 7, 8, 9, 10], [9, 17, 18, 19, 20, 21, 22, 23, 24, 25])] [(9, 10)] (Γx := []) ?_; dsimp only [prev0, List.length_nil, List.length_cons])
       | (refine isReg 7 ?_; refine WPc.drA [([5, 6], [42]), ([5, 6], [41]), ([0, 5, 6], [41, 42]), ([0, 1, 2, 5, 6], [41, 42]), ([0, 1, 2, 3, 5, 6], [41, 42])] [(5, 2), (6, 3), (5, 0), (6, 0), (6, 1), (6, 2)] (Γx := [bx g6 60 (flc Fl.none), bx g7 62 (enC En.zero)]) ?_; dsimp only [prev0, List.length_nil, List.length_cons])
       | (refine gAny ?_; first | (refine gC 30 ?_; refine RGl.turns (fun e hk => by (try dsimp only [bndR, ensR, oksR, fcutR, List.append_nil, List.nil_append, List.cons_append, List.append_assoc] at hk ⊢); exact OpT.callTs (c1)) ?_) | (refine gD 14 ?_; refine RGl.rdX (fun e hk => by (try dsimp only [bndR, ensR, oksR, fcutR, List.append_nil, List.nil_append, List.cons_append, List.append_assoc] at hk ⊢); exact readP) ?_) | (refine gD 23 ?_; refine RGl.rdX (fun e hk => by (try dsimp only [bndR, ensR, oksR, fcutR, List.append_nil, List.nil_append, List.cons_append, List.append_assoc] at hk ⊢); exact ReadR.lookOk (M := rpM) (k := r) hwr rfl rfl memA hget hb) ?_) | (refine gOp ?_; first | refine RGl.rdA ?_ | refine RGl.rdX (fun e hk => by (try dsimp only [bndR, ensR, oksR, fcutR, List.append_nil, List.nil_append, List.cons_append, List.append_assoc] at hk ⊢); exact readB) ?_) | (refine gAl ?_; refine RGl.nwA ?_) | (refine gSt ?_; refine RGl.stA ?_) | (refine RGl.fin (fun e hk => ?_); (try dsimp only [bndA, ensAR, oksA, List.append_nil, List.nil_append, List.cons_append, List.append_assoc] at hk ⊢); (repeat (obtain ⟨hk1, hk⟩ := hk))) | fail)
       | (refine isCond ?_; first | refine WPc.cT ?_ | refine WPc.cF ?_ | (refine WPc.cQ (fun hc => ?_) (fun hc => ?_) <;> try exact prA))
       | (refine isD 6 ?_; first | (refine isAl ?_; refine WPl.nw fun g6 => ?_) | (refine isBx ?_; refine WPl.nw fun g6 => ?_))
       | (refine isD 7 ?_; first | (refine isAl ?_; refine WPl.nw fun g7 => ?_) | (refine isBx ?_; refine WPl.nw fun g7 => ?_))
       | (refine isD 14 ?_; refine WPl.rdX (readP) ?_)
       | (refine isD 23 ?_; refine WPl.rdX (ReadR.lookOk (M := rpM) (k := r) hwr rfl rfl memA hget hb) ?_)
       | (refine isC 30 ?_; refine WPl.cTs (c1) ?_; (try dsimp only [putF, List.cons_append, List.nil_append]))
       | (refine isOp ?_; first | refine WPl.rd ?_ | refine WPl.sk ?_ | refine WPl.rdB ?_)
       | (refine isAl ?_; refine WPl.nw fun g => ?_)
       | (refine isBx ?_; refine WPl.nw fun g => ?_)
       | (refine isSt ?_; first | refine WPl.st1 ?_ | refine WPl.stA ?_ | refine WPl.stEB ?_ | refine WPl.stRB ?_)
       | (show WPl _ _ _ _ _ _ _ (⟨_, .indexAddr _ _ _, _, _, _, _⟩ :: _) _; refine WPl.rdX (ReadR.indexE rfl rfl hasA (by first | assumption | omega)) ?_)
       | (show WPl _ _ _ _ _ _ _ (⟨_, .fieldAddr _ _ _, _, _, _, _⟩ :: _) _; refine WPl.rdX (ReadR.fieldE rfl hasA (by first | assumption | omega)) ?_)
       | (show WPl _ _ _ _ _ _ _ (⟨_, .load _ _, _, _, _, _⟩ :: _) _; first | refine WPl.rdX (ReadR.loadE rfl hasA (by assumption)) ?_ | refine WPl.rdX (ReadR.loadES (by assumption) (by first | assumption | omega) rfl hasA) ?_)
       | (show WPl _ _ _ _ _ _ _ (⟨_, .slice _ _ _ _ _, _, _, _, _⟩ :: _) _; first | refine WPl.rdX (ReadR.sliceH rfl rfl hasA (by omega)) ?_ | refine WPl.rdX (ReadR.sliceL rfl rfl hasA (by omega)) ?_ | refine WPl.rdX (ReadR.sliceLH rfl rfl rfl hasA (by omega) (by omega)) ?_)
       | (refine WPl.spQ (fun hc => ?_) (fun hc => ?_) <;> try exact prA)
       | fail)
      exact WPq.dTp
theorem fput_t (L : List (Fl × En)) (R : List (Fl × Fl)) (f : Fl) (a : En) (now : Int) (hf : flW f) (hr : flW (replyF f a)) (hb1 : mhas R (replyF f a) = false) (hb2 : mhas L f = false) (hm : ¬ (L.length : Int) ≥ most) :
    Triple Try.prog 25 #[hPf gT, ag (flc f), ag (enC a), .int .u64 now] [(bx gT 141 (fxc most m1 m2)), mp flM m1 L, mp rpM m2 R] (RTurns (.int .i64 0) [(bx gT 141 (fxc most m1 m2)), mp flM m1 (mput L f a), mp rpM m2 (mput R (replyF f a) f)]) := by
  have l1 := f.src.len
  have l2 := f.dst.len
  have l3 := a.ad.len
  have hwf : flM.wf f := hf
  have hwr : rpM.wf (replyF f a) := hr
  have c1 := freply_t f a
  have c2 := fdrop0_t gT m1 m2 most L f hf hb2
  obtain ⟨r, hrr⟩ : ∃ r, r = replyF f a := ⟨_, rfl⟩
  rw [← hrr] at hwr c1 hb1 ⊢
  have l4 := r.src.len
  have l5 := r.dst.len
  obtain ⟨f2, hf2⟩ : ∃ f2, mget rpM R r = f2 := ⟨_, rfl⟩
  have hget : rpM.vc (mget rpM R r) = ag (flc f2) := by rw [hf2]; rfl
  have l6 := f2.src.len
  have l7 := f2.dst.len
  obtain ⟨a2, ha2⟩ : ∃ a2, mget flM L f = a2 := ⟨_, rfl⟩
  have hget2 : flM.vc (mget flM L f) = ag (enC a2) := by rw [ha2]; rfl
  have l8 := a2.ad.len
  rw [← mput_mput (a := mget flM L f), ← mput_mput (a := mget rpM R r)]
  clear hr hrr hf2 ha2
  refine Triple.enter Try.func25 rfl Try.ntmps25 rfl (fun W => ?_)
  dsimp only [argsF, Nat.reduceAdd]
  repeat' (first
   | refine WPl.nil ?_ | refine WPq.then ?_ | refine WPq.thenR ?_ | refine WPq.thenE ?_ | refine WPq.blockN ?_ | refine WPq.blockR ?_ | refine WPq.blockE ?_ | refine WPq.blockO rfl ?_ | refine WPc.seq ?_ | refine WPc.block ?_ | refine WPc.ret ?_ | refine WPc.exit ?_ | refine WPc.skip ?_ | refine WPc.region ?_
   | (refine isReg 4 ?_; refine WPc.drA [([], [10, 26]), ([0], [10, 22, 26]), ([0, 1], [10, 22, 23, 26]), ([0, 1, 2], [10, 22, 23, 24, 26]), ([], [10, 22, 23, 24, 25]), ([0, 1, 2, 3, 4], [10, 22, 23, 24, 25, 26]), ([0, 1, 2, 3, 4, 5], [10, 22, 23, 24, 25, 26, 27]), ([0, 1, 2, 3, 4, 5, 6], [10, 21, 22, 23, 24, 25, 26, 27, 29]), ([0, 1, 2, 3, 4, 5, 6], [10, 21, 22, 23, 24, 25, 26, 27, 28]), ([], [21, 22, 23, 24, 25, 26, 27, 28, 29]), ([0, 1, 2, 3, 4, 5, 6, 7, 9], [10, 21, 22, 23, 24, 25, 26, 27, 28, 29]), ([0, 1, 2, 3, 4, 5, 6, 7, 8, 9, 10], [10, 21, 22, 23, 24, 25, 26, 27, 28, 29])] [(9, 10)] (Γx := []) ?_; dsimp only [prev0, List.length_nil, List.length_cons])
   | (refine isReg 10 ?_; refine WPc.drA [([], [14, 52]), ([0], [14, 48, 52]), ([0, 1], [14, 48, 49, 52]), ([0, 1, 2], [14, 48, 49, 50, 52]), ([], [14, 48, 49, 50, 51]), ([0, 1, 2, 3, 4], [14, 48, 49, 50, 51, 52]), ([0, 1, 2, 3, 4, 5], [14, 48, 49, 50, 51, 52, 53]), ([0, 1, 2, 3, 4, 5, 6], [14, 47, 48, 49, 50, 51, 52, 53, 55]), ([0, 1, 2, 3, 4, 5, 6], [14, 47, 48, 49, 50, 51, 52, 53, 54]), ([], [47, 48, 49, 50, 51, 52, 53, 54, 55]), ([0, 1, 2, 3, 4, 5, 6, 7, 9], [14, 47, 48, 49, 50, 51, 52, 53, 54, 55]), ([0, 1, 2, 3, 4, 5, 6, 7, 8, 9, 10], [14, 47, 48, 49, 50, 51, 52, 53, 54, 55])] [(9, 10)] (Γx := []) ?_; dsimp only [prev0, List.length_nil, List.length_cons])
   | (refine isReg 11 ?_; refine WPc.drA [([], []), ([0], [56]), ([0, 1], [56, 57]), ([0, 1, 2], [56, 57, 58, 64, 65, 66, 67]), ([0, 1, 2, 3], [56, 57, 58, 59, 64, 65, 66, 67]), ([0, 1, 2, 3, 4], [56, 57, 58, 59, 60, 64, 65, 66, 67]), ([0, 1, 2, 3, 4, 5], [56, 57, 58, 59, 60, 61, 64, 65, 66, 67]), ([0, 1, 2, 3, 4, 5, 6], [56, 57, 58, 59, 60, 61, 62, 64, 65, 66, 67]), ([0, 1, 2], [56, 57, 58, 59, 60, 61, 62, 63]), ([0, 1, 2, 8], [56, 57, 58, 59, 60, 61, 62, 63, 64]), ([0, 1, 2, 8, 9], [56, 57, 58, 59, 60, 61, 62, 63, 64, 65]), ([0, 1, 2, 8, 9, 10], [56, 57, 58, 59, 60, 61, 62, 63, 64, 65, 66]), ([0, 1, 2, 3, 4, 5, 6, 7, 8, 9, 10, 11], [56, 57, 58, 59, 60, 61, 62, 63, 64, 65, 66, 67]), ([0, 1, 2, 3, 4, 5, 6, 7, 8, 9, 10, 11, 12], [56, 57, 58, 59, 60, 61, 62, 63, 64, 65, 66, 67, 68])] [] (Γx := []) ?_; dsimp only [prev0, List.length_nil, List.length_cons])
   | (refine isReg 13 ?_; refine WPc.drA [([], [78, 79, 80, 81]), ([0], [73, 78, 79, 80, 81]), ([0, 1], [73, 74, 78, 79, 80, 81]), ([0, 1, 2], [73, 74, 75, 78, 79, 80, 81]), ([0, 1, 2, 3], [73, 74, 75, 76, 78, 79, 80, 81]), ([], [73, 74, 75, 76, 77]), ([5], [73, 74, 75, 76, 77, 78]), ([5, 6], [73, 74, 75, 76, 77, 78, 79]), ([5, 6, 7], [73, 74, 75, 76, 77, 78, 79, 80]), ([0, 1, 2, 3, 4, 5, 6, 7, 8], [73, 74, 75, 76, 77, 78, 79, 80, 81])] [] (Γx := []) ?_; dsimp only [prev0, List.length_nil, List.length_cons])
   | (refine isReg 16 ?_; refine WPc.drA [([18, 19], [90, 91, 92, 93, 94, 95, 96, 97]), ([0, 18, 19], [86, 90, 91, 92, 93, 94, 95, 96, 97]), ([0, 1, 18, 19], [86, 87, 90, 91, 92, 93, 94, 95, 96, 97]), ([0, 1, 2, 18, 19], [86, 87, 88, 90, 91, 92, 93, 94, 95, 96, 97]), ([18, 19], [86, 87, 88, 89, 91, 92, 93, 94, 95, 96, 97]), ([18, 19], [86, 87, 88, 89, 90, 95, 96, 97]), ([5, 18, 19], [86, 87, 88, 89, 90, 91, 95, 96, 97]), ([5, 6, 18, 19], [86, 87, 88, 89, 90, 91, 92, 95, 96, 97]), ([5, 6, 7, 18, 19], [86, 87, 88, 89, 90, 91, 92, 93, 95, 96, 97]), ([18, 19], [86, 87, 88, 89, 90, 91, 92, 93, 94, 96, 97, 98, 99]), ([18, 19], [86, 87, 88, 89, 90, 91, 92, 93, 94, 95, 97, 98, 99]), ([18, 19], [86, 87, 88, 89, 90, 91, 92, 93, 94, 95, 96, 98, 99, 100, 101]), ([0, 1, 2, 3, 4, 5, 6, 7, 8, 18, 19], [86, 87, 88, 89, 90, 91, 92, 93, 94, 95, 96, 97]), ([0, 1, 2, 3, 4, 5, 6, 7, 8, 12, 18, 19], [86, 87, 88, 89, 90, 91, 92, 93, 94, 95, 96, 97, 98]), ([0, 1, 2, 3, 4, 5, 6, 7, 8, 10, 12, 13, 18, 19], [86, 87, 88, 89, 90, 91, 92, 93, 94, 95, 96, 97, 98, 99]), ([0, 1, 2, 3, 4, 5, 6, 7, 8, 9, 10, 12, 13, 14, 18, 19], [86, 87, 88, 89, 90, 91, 92, 93, 94, 95, 96, 97, 98, 99]), ([0, 1, 2, 3, 4, 5, 6, 7, 8, 9, 10, 12, 13, 14, 15, 18, 19], [86, 87, 88, 89, 90, 91, 92, 93, 94, 95, 96, 97, 98, 99, 100]), ([0, 1, 2, 3, 4, 5, 6, 7, 8, 9, 10, 11, 12, 13, 14, 15, 16, 18, 19], [86, 87, 88, 89, 90, 91, 92, 93, 94, 95, 96, 97, 98, 99, 100, 101])] [(18, 12), (12, 14), (19, 15), (15, 17), (18, 0), (18, 1), (18, 2), (18, 3), (18, 4), (18, 5), (18, 6), (18, 7), (18, 8), (12, 13), (19, 0), (19, 1), (19, 2), (19, 3), (19, 4), (19, 5), (19, 6), (19, 7), (19, 8), (19, 9), (19, 10), (19, 12), (19, 13), (19, 14), (15, 16)] (Γx := [mp flM m1 L, mp rpM m2 R]) (hox := ownsA) ?_; dsimp only [prev0, List.length_nil, List.length_cons])
   | (refine gAny ?_; first | (refine gGd ?_; refine RGl.skp ?_) | (refine gC 20 ?_; refine RGl.vl (fun e hk => OpT.callN (c1)) ?_) | (refine gC 85 ?_; refine RGl.turns (fun e hk => by (try dsimp only [bndR, ensR, oksR, fcutR, List.append_nil, List.nil_append, List.cons_append, List.append_assoc] at hk ⊢); exact OpT.callTs (c2)) ?_) | (refine gD 17 ?_; refine RGl.rdX (fun e hk => by (try dsimp only [bndR, ensR, oksR, fcutR, List.append_nil, List.nil_append, List.cons_append, List.append_assoc] at hk ⊢); exact readP) ?_) | (refine gD 27 ?_; refine RGl.rdX (fun e hk => by (try dsimp only [bndR, ensR, oksR, fcutR, List.append_nil, List.nil_append, List.cons_append, List.append_assoc] at hk ⊢); exact ReadR.lookOk (M := rpM) (k := r) hwr rfl rfl memA hget hb1) ?_) | (refine gD 53 ?_; refine RGl.rdX (fun e hk => by (try dsimp only [bndR, ensR, oksR, fcutR, List.append_nil, List.nil_append, List.cons_append, List.append_assoc] at hk ⊢); exact ReadR.lookOk (M := flM) (k := f) hwf rfl rfl memA hget2 hb2) ?_) | (refine gD 63 ?_; refine RGl.rdX (fun e hk => by (try dsimp only [bndR, ensR, oksR, fcutR, List.append_nil, List.nil_append, List.cons_append, List.append_assoc] at hk ⊢); exact ReadR.mlen rfl memA) ?_) | (refine gD 68 ?_; refine RGl.rdX (fun e hk => by (try dsimp only [bndR, ensR, oksR, fcutR, List.append_nil, List.nil_append, List.cons_append, List.append_assoc] at hk ⊢); exact ReadR.binE rfl rfl BinR.geq (congrArg Value.bool (decide_eq_false hm))) ?_) | (refine gOp ?_; refine RGl.mapE (gm := m1) (lm := L) (km := f) (A := fun _ => mp flM m1 L) (fun e hk => by (try dsimp only [bndR, ensR, oksR, fcutR, List.append_nil, List.nil_append, List.cons_append, List.append_assoc] at hk ⊢); exact OpT.mapEntry hwf rfl rfl takesA) ?_) | (refine gOp ?_; refine RGl.mapE (gm := m2) (lm := R) (km := r) (A := fun _ => mp rpM m2 R) (fun e hk => by (try dsimp only [bndR, ensR, oksR, fcutR, List.append_nil, List.nil_append, List.cons_append, List.append_assoc] at hk ⊢); exact OpT.mapEntry hwr rfl rfl takesA) ?_) | (refine gOp ?_; refine RGl.turn (fun e hk => by (try dsimp only [bndR, ensR, oksR, fcutR, List.append_nil, List.nil_append, List.cons_append, List.append_assoc] at hk ⊢); exact OpT.entryStore (M := flM) (v := a) rfl rfl rfl takesA) ?_) | (refine gOp ?_; refine RGl.turn (fun e hk => by (try dsimp only [bndR, ensR, oksR, fcutR, List.append_nil, List.nil_append, List.cons_append, List.append_assoc] at hk ⊢); exact OpT.entryStore (M := rpM) (v := f) rfl rfl rfl takesA) ?_) | (refine gOp ?_; first | refine RGl.rdA ?_ | refine RGl.rdX (fun e hk => by (try dsimp only [bndR, ensR, oksR, fcutR, List.append_nil, List.nil_append, List.cons_append, List.append_assoc] at hk ⊢); exact readB) ?_) | (refine gAl ?_; refine RGl.nwA ?_) | (refine gSt ?_; refine RGl.stA ?_) | (refine RGl.fin (fun e hk => ?_); (try dsimp only [bndA, ensAR, oksA, List.append_nil, List.nil_append, List.cons_append, List.append_assoc] at hk ⊢); (repeat (obtain ⟨hk1, hk⟩ := hk))) | fail)
   | (refine isCond ?_; first | refine WPc.cT ?_ | refine WPc.cF ?_ | (refine WPc.cQ (fun hc => ?_) (fun hc => ?_) <;> try exact prA))
   | (refine isD 17 ?_; refine WPl.rdX (readP) ?_)
   | (refine isC 20 ?_; refine WPl.cV (c1) ?_)
   | (refine isD 27 ?_; refine WPl.rdX (ReadR.lookOk (M := rpM) (k := r) hwr rfl rfl memA hget hb1) ?_)
   | (refine isD 53 ?_; refine WPl.rdX (ReadR.lookOk (M := flM) (k := f) hwf rfl rfl memA hget2 hb2) ?_)
   | (refine isD 63 ?_; refine WPl.rdX (ReadR.mlen rfl memA) ?_)
   | (refine isD 68 ?_; refine WPl.rdX (ReadR.binE rfl rfl BinR.geq (congrArg Value.bool (decide_eq_false hm))) ?_)
   | (refine isC 85 ?_; refine WPl.cTs (c2) ?_; (try dsimp only [putF, List.cons_append, List.nil_append]))
   | (refine isOp ?_; first | refine WPl.rd ?_ | refine WPl.sk ?_ | refine WPl.rdB ?_)
   | (refine isAl ?_; refine WPl.nw fun g => ?_)
   | (refine isBx ?_; refine WPl.nw fun g => ?_)
   | (refine isSt ?_; first | refine WPl.st1 ?_ | refine WPl.stA ?_ | refine WPl.stEB ?_ | refine WPl.stRB ?_)
   | (show WPl _ _ _ _ _ _ _ (⟨_, .indexAddr _ _ _, _, _, _, _⟩ :: _) _; refine WPl.rdX (ReadR.indexE rfl rfl hasA (by first | assumption | omega)) ?_)
   | (show WPl _ _ _ _ _ _ _ (⟨_, .fieldAddr _ _ _, _, _, _, _⟩ :: _) _; refine WPl.rdX (ReadR.fieldE rfl hasA (by first | assumption | omega)) ?_)
   | (show WPl _ _ _ _ _ _ _ (⟨_, .load _ _, _, _, _, _⟩ :: _) _; first | refine WPl.rdX (ReadR.loadE rfl hasA (by assumption)) ?_ | refine WPl.rdX (ReadR.loadES (by assumption) (by first | assumption | omega) rfl hasA) ?_)
   | (show WPl _ _ _ _ _ _ _ (⟨_, .slice _ _ _ _ _, _, _, _, _⟩ :: _) _; first | refine WPl.rdX (ReadR.sliceH rfl rfl hasA (by omega)) ?_ | refine WPl.rdX (ReadR.sliceL rfl rfl hasA (by omega)) ?_ | refine WPl.rdX (ReadR.sliceLH rfl rfl rfl hasA (by omega) (by omega)) ?_)
   | (refine WPl.spQ (fun hc => ?_) (fun hc => ?_) <;> try exact prA)
   | fail)
  all_goals (show WPq _ _ _ _ _ _ _; exact WPq.dTp)
end
end Go.Proofs.Ytncgponcedkihaa
