/- Law 05 (cache): contracts; what lives. -/
import Derived.Test.YtepmikgjnmjheaaCj
namespace Go.Proofs.Ytepmikgjnmjheaa
open Go.RowKit
set_option linter.unusedSimpArgs false
set_option linter.unusedVariables false
set_option maxRecDepth 20000
set_option maxHeartbeats 4000000
attribute [local irreducible] WPc WPl WPq ReadR OpT BinR HasS bx rdN rowN Take Takes Prov Triple ResF BuildP Done ag Int.decLt Int.decLe Int.instDecidableEq
attribute [local irreducible] mp rmp rg rgo bag vrow secs mput mget mfind mdel intsV skeys vault frs pickG secF
theorem full5_t (b : UInt8) : Triple Try.prog 36 #[.int .u8 ((b.toNat : Nat) : Int)] [] (ROb (List.replicate 256 b)) := by
  refine Triple.enter Try.func36 rfl Try.ntmps36 rfl (fun W => ?_)
  dsimp only [argsF, Nat.reduceAdd]
  repeat' (first
   | refine WPl.nil ?_ | refine WPq.then ?_ | refine WPq.thenR ?_ | refine WPq.thenE ?_ | refine WPq.blockN ?_ | refine WPq.blockR ?_ | refine WPq.blockE ?_ | refine WPq.blockO rfl ?_ | refine WPc.seq ?_ | refine WPc.block ?_ | refine WPc.ret ?_ | refine WPc.exit ?_ | refine WPc.skip ?_ | refine WPc.region ?_
   | (refine isCond ?_; first | refine WPc.cT ?_ | refine WPc.cF ?_ | (refine WPc.cQ (fun hc => ?_) (fun hc => ?_) <;> try exact prA))
   | (refine isMk ?_; refine WPl.mk fun v hv => ?_)
   | (refine isOp ?_; first | refine WPl.rd ?_ | refine WPl.sk ?_ | refine WPl.rdB ?_)
   | (refine isSt ?_; first | refine WPl.st1 ?_ | refine WPl.stA ?_ | refine WPl.stEB ?_ | refine WPl.stRB ?_)
   | (show WPl _ _ _ _ _ _ _ (⟨_, .indexAddr _ _ _, _, _, _, _⟩ :: _) _; refine WPl.rdX (ReadR.indexE rfl rfl hasA (by first | assumption | omega)) ?_)
   | (show WPl _ _ _ _ _ _ _ (⟨_, .fieldAddr _ _ _, _, _, _, _⟩ :: _) _; refine WPl.rdX (ReadR.fieldE rfl hasA (by first | assumption | omega)) ?_)
   | (show WPl _ _ _ _ _ _ _ (⟨_, .load _ _, _, _, _, _⟩ :: _) _; first | refine WPl.rdX (ReadR.loadE rfl hasA (by assumption)) ?_ | refine WPl.rdX (ReadR.loadES (by assumption) (by first | assumption | omega) rfl hasA) ?_)
   | (show WPl _ _ _ _ _ _ _ (⟨_, .slice _ _ _ _ _, _, _, _, _⟩ :: _) _; first | refine WPl.rdX (ReadR.sliceH rfl rfl hasA (by omega)) ?_ | refine WPl.rdX (ReadR.sliceL rfl rfl hasA (by omega)) ?_ | refine WPl.rdX (ReadR.sliceLH rfl rfl rfl hasA (by omega) (by omega)) ?_)
   | (refine WPl.spQ (fun hc => ?_) (fun hc => ?_) <;> try exact prA)
   | fail)
  first | refine WPc.loop (σ := Nat) (fun st => st ≤ 256) (fun st => [ob v (List.replicate st b ++ (List.replicate 256 (0 : UInt8)).drop st)]) (fun st => [(0, .int .u8 ((b.toNat : Nat) : Int)), (3, v), (4, .int .i64 (st : Int))]) (fun st => 256 - st) (0) ?_ takesA frsA (fun st km hx hk => ?_)
  · omega
  have hl : (List.replicate st b ++ (List.replicate 256 (0 : UInt8)).drop st).length = 256 := by simp; omega
  repeat' (first
   | refine WPl.nil ?_ | refine WPq.then ?_ | refine WPq.thenR ?_ | refine WPq.thenE ?_ | refine WPq.blockN ?_ | refine WPq.blockR ?_ | refine WPq.blockE ?_ | refine WPq.blockO rfl ?_ | refine WPc.seq ?_ | refine WPc.block ?_ | refine WPc.ret ?_ | refine WPc.exit ?_ | refine WPc.skip ?_ | refine WPc.region ?_
   | (refine isCond ?_; first | refine WPc.cT ?_ | refine WPc.cF ?_ | (refine WPc.cQ (fun hc => ?_) (fun hc => ?_) <;> try exact prA))
   | (show WPl _ _ _ _ _ _ _ (⟨_, .store _ (.tmp 13) _, _, _, _, _⟩ :: _) _; first | refine WPl.stEB (b := b) ?_ | refine WPl.stRB (b := b) ?_)
   | (refine isMk ?_; refine WPl.mk fun v hv => ?_)
   | (refine isOp ?_; first | refine WPl.rd ?_ | refine WPl.sk ?_ | refine WPl.rdB ?_)
   | (refine isSt ?_; first | refine WPl.st1 ?_ | refine WPl.stA ?_ | refine WPl.stEB ?_ | refine WPl.stRB ?_)
   | (show WPl _ _ _ _ _ _ _ (⟨_, .indexAddr _ _ _, _, _, _, _⟩ :: _) _; refine WPl.rdX (ReadR.indexE rfl rfl hasA (by first | assumption | omega)) ?_)
   | (show WPl _ _ _ _ _ _ _ (⟨_, .fieldAddr _ _ _, _, _, _, _⟩ :: _) _; refine WPl.rdX (ReadR.fieldE rfl hasA (by first | assumption | omega)) ?_)
   | (show WPl _ _ _ _ _ _ _ (⟨_, .load _ _, _, _, _, _⟩ :: _) _; first | refine WPl.rdX (ReadR.loadE rfl hasA (by assumption)) ?_ | refine WPl.rdX (ReadR.loadES (by assumption) (by first | assumption | omega) rfl hasA) ?_)
   | (show WPl _ _ _ _ _ _ _ (⟨_, .slice _ _ _ _ _, _, _, _, _⟩ :: _) _; first | refine WPl.rdX (ReadR.sliceH rfl rfl hasA (by omega)) ?_ | refine WPl.rdX (ReadR.sliceL rfl rfl hasA (by omega)) ?_ | refine WPl.rdX (ReadR.sliceLH rfl rfl rfl hasA (by omega) (by omega)) ?_)
   | (refine WPl.spQ (fun hc => ?_) (fun hc => ?_) <;> try exact prA)
   | fail)
  · rw [rep_set (by simp; omega)]
    exact WPq.rnd (st + 1) (by omega) (by omega)
  · rw [show st = 256 by omega, List.drop_of_length_le (by simp), List.append_nil]
    exact WPq.dR
theorem csyncN_t : Triple Try.prog 37 #[.pointer none] [] (RVal (.int .i64 1)) := by
  refine Triple.enter Try.func37 rfl Try.ntmps37 rfl (fun W => ?_)
  dsimp only [argsF, Nat.reduceAdd]
  repeat' (first
   | refine WPl.nil ?_ | refine WPq.then ?_ | refine WPq.thenR ?_ | refine WPq.thenE ?_ | refine WPq.blockN ?_ | refine WPq.blockR ?_ | refine WPq.blockE ?_ | refine WPq.blockO rfl ?_ | refine WPc.seq ?_ | refine WPc.block ?_ | refine WPc.ret ?_ | refine WPc.exit ?_ | refine WPc.skip ?_ | refine WPc.region ?_
   | (refine isReg 7 ?_; refine WPc.drA [([], [23, 24, 25, 26, 27]), ([0], [19, 23, 24, 25, 26, 27]), ([0, 1], [19, 20, 23, 24, 25, 26, 27]), ([0, 1, 2], [19, 20, 21, 23, 24, 25, 26, 27]), ([], [19, 20, 21, 22, 24, 25, 26, 27]), ([], [19, 20, 21, 22, 23]), ([5], [19, 20, 21, 22, 23, 24]), ([5, 6], [19, 20, 21, 22, 23, 24, 25]), ([5, 6, 7], [19, 20, 21, 22, 23, 24, 25, 26]), ([0, 1, 2, 3, 4, 5, 6, 7, 8], [19, 20, 21, 22, 23, 24, 25, 26, 27]), ([0, 1, 2, 3, 4, 5, 6, 7, 8, 9], [19, 20, 21, 22, 23, 24, 25, 26, 27, 28])] [] (Γx := []) ?_; dsimp only [prev0, List.length_nil, List.length_cons])
   | (refine gAny ?_; first | (refine gD 8 ?_; refine RGl.rdX (fun e hk => by (try dsimp only [bndR, ensR, oksR, fcutR, List.append_nil, List.nil_append, List.cons_append, List.append_assoc] at hk ⊢); exact readP) ?_) | (refine gOp ?_; first | refine RGl.rdA ?_ | refine RGl.rdX (fun e hk => by (try dsimp only [bndR, ensR, oksR, fcutR, List.append_nil, List.nil_append, List.cons_append, List.append_assoc] at hk ⊢); exact readB) ?_) | (refine RGl.fin (fun e hk => ?_); (try dsimp only [bndA, ensAR, oksA, List.append_nil, List.nil_append, List.cons_append, List.append_assoc] at hk ⊢); (repeat (obtain ⟨hk1, hk⟩ := hk))) | fail)
   | (refine isCond ?_; first | refine WPc.cT ?_ | refine WPc.cF ?_ | (refine WPc.cQ (fun hc => ?_) (fun hc => ?_) <;> try exact prA))
   | (refine isD 8 ?_; refine WPl.rdX (readP) ?_)
   | (refine isOp ?_; first | refine WPl.rd ?_ | refine WPl.sk ?_ | refine WPl.rdB ?_)
   | (refine isSt ?_; first | refine WPl.st1 ?_ | refine WPl.stA ?_ | refine WPl.stEB ?_ | refine WPl.stRB ?_)
   | (show WPl _ _ _ _ _ _ _ (⟨_, .indexAddr _ _ _, _, _, _, _⟩ :: _) _; refine WPl.rdX (ReadR.indexE rfl rfl hasA (by first | assumption | omega)) ?_)
   | (show WPl _ _ _ _ _ _ _ (⟨_, .fieldAddr _ _ _, _, _, _, _⟩ :: _) _; refine WPl.rdX (ReadR.fieldE rfl hasA (by first | assumption | omega)) ?_)
   | (show WPl _ _ _ _ _ _ _ (⟨_, .load _ _, _, _, _, _⟩ :: _) _; first | refine WPl.rdX (ReadR.loadE rfl hasA (by assumption)) ?_ | refine WPl.rdX (ReadR.loadES (by assumption) (by first | assumption | omega) rfl hasA) ?_)
   | (show WPl _ _ _ _ _ _ _ (⟨_, .slice _ _ _ _ _, _, _, _, _⟩ :: _) _; first | refine WPl.rdX (ReadR.sliceH rfl rfl hasA (by omega)) ?_ | refine WPl.rdX (ReadR.sliceL rfl rfl hasA (by omega)) ?_ | refine WPl.rdX (ReadR.sliceLH rfl rfl rfl hasA (by omega) (by omega)) ?_)
   | (refine WPl.spQ (fun hc => ?_) (fun hc => ?_) <;> try exact prA)
   | fail)
  all_goals exact WPq.dV
def Cv.dnos (C : Cv) : List Int := C.fs.filterMap fun o => match o with | some f => if f.dirty then some f.no else none | none => none
def Cv.hnos (C : Cv) : List Int := C.fs.filterMap fun o => o.map (·.no)
theorem dnos_vw (C : CS) : nosF (fun f => f.full && f.dirty) C.fs = C.vw.dnos := by
  unfold Cv.dnos CS.vw nosF
  dsimp only
  induction C.fs with
  | nil => rfl
  | cons f l ih =>
    rw [List.filter_cons, List.map_cons, List.filterMap_cons]
    unfold Frm.vw
    cases f.full with
    | false => exact ih
    | true =>
      cases hd : f.dirty with
      | false => exact ih
      | true =>
        exact congrArg (List.cons f.no) ih
theorem hnos_vw (C : CS) : nosF (·.full) C.fs = C.vw.hnos := by
  unfold Cv.hnos CS.vw nosF
  dsimp only
  induction C.fs with
  | nil => rfl
  | cons f l ih =>
    rw [List.filter_cons, List.map_cons, List.filterMap_cons]
    unfold Frm.vw
    cases f.full with
    | false => exact ih
    | true =>
      exact congrArg (List.cons f.no) ih
def Cv.dirty (C : Cv) : List Int := C.dnos.mergeSort fun x y => decide (x ≤ y)
def Cv.held (C : Cv) : List Int := C.hnos.mergeSort fun x y => decide (x ≤ y)
section
variable (gK gV : Nat) (vF : Value) (mD : Nat) (vd : Value) (n m p k : Nat) (C : CS) (S : DS)
theorem cheld_t (h : CInv n m p C) (hm : m ≤ 64) : Triple Try.prog 33 #[hC gK] [rbx gK 86 (cxc gV vF (C.hand : Int)), rdN vF C.fs.length (frs C.fs)] (RRow 3 1 C.vw.held.length (intsV C.vw.held)) := by
  have := held_t gK gV vF (C.hand : Int) C.fs (fun f hf => (h.each f hf).one) (by have := h.len; omega)
  rw [hnos_vw] at this
  unfold Cv.held
  rw [List.length_mergeSort]
  exact this
theorem cdirty_t (h : CInv n m p C) (hm : m ≤ 64) : Triple Try.prog 40 #[hC gK] [rbx gK 86 (cxc gV vF (C.hand : Int)), rdN vF C.fs.length (frs C.fs)] (RRow 3 1 C.vw.dirty.length (intsV C.vw.dirty)) := by
  have := dirty_t gK gV vF (C.hand : Int) C.fs (fun f hf => (h.each f hf).one) (by have := h.len; omega)
  rw [dnos_vw] at this
  unfold Cv.dirty
  rw [List.length_mergeSort]
  exact this
def cl0 : Cv := ⟨List.replicate 8 none, 0⟩
def cl1 : Cv := ⟨(List.replicate 8 none).set 0 (some ⟨3, 0, true, true, secF 7⟩), 0⟩
def dl0 : Dv := ⟨f4, List.replicate 16 (secF 0), fun _ => [], 0⟩
theorem lput_t (hCv : C.vw = cl0) (hSv : S.vw = dl0) (h : CInv 16 8 0 C) (hd : DInv 16 0 S) (bv : Value) : Triple Try.prog 35 #[hC gK, .int .i64 3, bv] ([rb bv (secF 7).b] ++ cdA gK gV vF C mD vd S) (RPut gK gV vF mD vd 16 8 0 1 (cl1, dl0, 0)) := by
  have := cput_t gK gV vF mD vd 16 8 0 0 C S 3 bv (secF 7) h hd (by omega) (by omega) (by omega) (by omega) (by omega)
  rw [hCv, hSv, show cl0.put dl0 3 (secF 7) = (cl1, dl0, 0) by with_unfolding_all rfl] at this
  exact this
theorem lget_t (hCv : C.vw = cl1) (hSv : S.vw = dl0) (h : CInv 16 8 0 C) (hd : DInv 16 1 S) : Triple Try.prog 31 #[hC gK, .int .i64 3] (cdA gK gV vF C mD vd S) (RGet gK gV vF mD vd 16 8 0 2 (cl1, dl0, (secF 7).b, 0)) := by
  have := cget_t gK gV vF mD vd 16 8 0 1 C S 3 h hd (by omega) (by omega) (by omega) (by omega) (by omega)
  rw [hCv, hSv, show cl1.get dl0 3 = (cl1, dl0, (secF 7).b, 0) by with_unfolding_all rfl] at this
  exact this
theorem ldirty_t (hCv : C.vw = cl1) (h : CInv 16 8 0 C) : Triple Try.prog 40 #[hC gK] [rbx gK 86 (cxc gV vF (C.hand : Int)), rdN vF C.fs.length (frs C.fs)] (RRow 3 1 1 (intsV [3])) := by
  have := cdirty_t gK gV vF 16 8 0 C h (by omega)
  rw [hCv, show cl1.dirty = [3] by with_unfolding_all (unfold Cv.dirty; rw [show cl1.dnos = [3] by with_unfolding_all rfl]; exact List.mergeSort_singleton 3)] at this
  exact this
end
theorem clives_t : Triple Try.prog 34 #[] [] (RVal (.bool true)) := by
  have c9 := dnew_t 16 (by omega) (by omega)
  have hbb : (secF 7).b = List.replicate 256 (7 : UInt8) := by with_unfolding_all rfl
  have c24 := full5_t 7
  rw [← hbb] at c24
  refine Triple.enter Try.func34 rfl Try.ntmps34 rfl (fun W => ?_)
  dsimp only [argsF, Nat.reduceAdd]
  repeat' (first
   | refine WPl.nil ?_ | refine WPq.then ?_ | refine WPq.thenR ?_ | refine WPq.thenE ?_ | refine WPq.blockN ?_ | refine WPq.blockR ?_ | refine WPq.blockE ?_ | refine WPq.blockO rfl ?_ | refine WPc.seq ?_ | refine WPc.block ?_ | refine WPc.ret ?_ | refine WPc.exit ?_ | refine WPc.skip ?_ | refine WPc.region ?_
   | (refine isReg 7 ?_; refine WPc.drA [([], []), ([0], [31]), ([0, 1], [31, 32]), ([0, 1, 2], [31, 32, 33]), ([0, 1, 2, 3], [31, 32, 33, 34]), ([0, 1, 2, 3, 4], [31, 32, 33, 34, 35]), ([0, 1, 2, 3, 4, 5], [31, 32, 33, 34, 35, 36]), ([0, 1, 2, 3, 4, 5, 6], [31, 32, 33, 34, 35, 36, 37, 40, 41]), ([0, 1, 2, 3, 4, 5, 6, 7], [31, 32, 33, 34, 35, 36, 37, 38, 40, 41]), ([0, 1, 2, 3, 4, 5, 6], [31, 32, 33, 34, 35, 36, 37, 38, 39]), ([0, 1, 2, 3, 4, 5, 6, 9], [31, 32, 33, 34, 35, 36, 37, 38, 39, 40]), ([0, 1, 2, 3, 4, 5, 6, 7, 8, 9, 10], [31, 32, 33, 34, 35, 36, 37, 38, 39, 40, 41]), ([0, 1, 2, 3, 4, 5, 6, 7, 8, 9, 10, 11], [31, 32, 33, 34, 35, 36, 37, 38, 39, 40, 41, 42]), ([0, 1, 2, 3, 4, 5, 6, 7, 8, 9, 10, 11, 12], [31, 32, 33, 34, 35, 36, 37, 38, 39, 40, 41, 42, 43]), ([0, 1, 2, 3, 4, 5, 6, 7, 8, 9, 10, 11, 12, 13], [31, 32, 33, 34, 35, 36, 37, 38, 39, 40, 41, 42, 43, 44]), ([0, 1, 2, 3, 4, 5, 6, 7, 8, 9, 10, 11, 12, 13, 14], [31, 32, 33, 34, 35, 36, 37, 38, 39, 40, 41, 42, 43, 44, 45]), ([0, 1, 2, 3, 4, 5, 6, 7, 8, 9, 10, 11, 12, 13, 14, 15], [31, 32, 33, 34, 35, 36, 37, 38, 39, 40, 41, 42, 43, 44, 45, 46]), ([0, 1, 2, 3, 4, 5, 6, 7, 8, 9, 10, 11, 12, 13, 14, 15, 16], [31, 32, 33, 34, 35, 36, 37, 38, 39, 40, 41, 42, 43, 44, 45, 46, 47]), ([0, 1, 2, 3, 4, 5, 6, 7, 8, 9, 10, 11, 12, 13, 14, 15, 16, 17], [31, 32, 33, 34, 35, 36, 37, 38, 39, 40, 41, 42, 43, 44, 45, 46, 47, 48]), ([0, 1, 2, 3, 4, 5, 6, 7, 8, 9, 10, 11, 12, 13, 14, 15, 16, 17, 18], [31, 32, 33, 34, 35, 36, 37, 38, 39, 40, 41, 42, 43, 44, 45, 46, 47, 48, 49])] [] (Γx := []) ?_; dsimp only [prev0, List.length_nil, List.length_cons])
   | (refine gAny ?_; first | (refine gGd ?_; refine RGl.skp ?_) | (refine gC 24 ?_; refine RGl.row (Γ1 := fun _ => []) (fun e hk => OpT.callN (c24)) ?_) | (refine gC 40 ?_; refine RGl.row (Γ1 := fun _ => []) (fun e hk => OpT.callN (c24)) ?_) | (refine gD 18 ?_; refine RGl.rdX (fun e hk => by (try dsimp only [bndR, ensR, oksR, fcutR, List.append_nil, List.nil_append, List.cons_append, List.append_assoc] at hk ⊢); exact readP) ?_) | (refine gD 32 ?_; refine RGl.rdX (fun e hk => by (try dsimp only [bndR, ensR, oksR, fcutR, List.append_nil, List.nil_append, List.cons_append, List.append_assoc] at hk ⊢); exact ReadR.binE rfl rfl BinR.eql (congrArg Value.bool (decide_eq_true rfl))) ?_) | (refine gD 35 ?_; refine RGl.rdX (fun e hk => by (try dsimp only [bndR, ensR, oksR, fcutR, List.append_nil, List.nil_append, List.cons_append, List.append_assoc] at hk ⊢); exact ReadR.binE rfl rfl BinR.eql (congrArg Value.bool (decide_eq_true rfl))) ?_) | (refine gD 42 ?_; refine RGl.rdX (fun e hk => by (try dsimp only [bndR, ensR, oksR, fcutR, List.append_nil, List.nil_append, List.cons_append, List.append_assoc] at hk ⊢); exact ReadR.binE rfl rfl BinR.strUE (congrArg Value.bool (decide_eq_true rfl))) ?_) | (refine gOp ?_; (refine gC 46 ?_; refine RGl.row (Γ1 := fun _ => []) (fun e hk => OpT.callN c46 (hΔ := by (try dsimp only [bndR, ensR, oksR, fcutR, List.append_nil, List.nil_append, List.cons_append, List.append_assoc] at hk ⊢); exact provsW)) ?_)) | (refine gD 48 ?_; refine RGl.rdX (fun e hk => by (try dsimp only [bndR, ensR, oksR, fcutR, List.append_nil, List.nil_append, List.cons_append, List.append_assoc] at hk ⊢); exact ReadR.binE rfl rfl BinR.eql (congrArg Value.bool (decide_eq_true rfl))) ?_) | (refine gOp ?_; first | refine RGl.rdA ?_ | refine RGl.rdX (fun e hk => by (try dsimp only [bndR, ensR, oksR, fcutR, List.append_nil, List.nil_append, List.cons_append, List.append_assoc] at hk ⊢); exact readB) ?_) | (refine RGl.fin (fun e hk => ?_); (try dsimp only [bndA, ensAR, oksA, List.append_nil, List.nil_append, List.cons_append, List.append_assoc] at hk ⊢); (repeat (obtain ⟨hk1, hk⟩ := hk))) | fail)
   | (refine isCond ?_; first | refine WPc.cT ?_ | refine WPc.cF ?_ | (refine WPc.cQ (fun hc => ?_) (fun hc => ?_) <;> try exact prA))
   | (refine isC 9 ?_; refine WPl.cXs (c9) fun v Γ1 hR => ?_; (obtain ⟨gV, mD, vd, S0, rfl, hvd, hS0, hD0, rfl⟩ := hR; have c14 := cnew_t gV 8 (by omega) (by omega)); (try dsimp only [putF, List.cons_append, List.nil_append]))
   | (refine isC 14 ?_; refine WPl.cXs (c14) fun v Γ1 hR => ?_; (obtain ⟨gK, vF, C0, rfl, hvF, hC0, hI0, rfl⟩ := hR; have c25 := lput_t gK gV vF mD vd C0 S0 hC0 hS0 (hI0 16) hD0); (try dsimp only [putF, List.cons_append, List.nil_append]))
   | (refine isD 18 ?_; refine WPl.rdX (readP) ?_)
   | (refine isC 24 ?_; refine WPl.cR (c24) fun bv hbv => ?_)
   | (refine isC 25 ?_; refine WPl.cO (c25 bv) (fun v Γ1 hR => ?_) ?_; rotate_left; exact fpA; (obtain ⟨C1, S1, rfl, hC1, hS1, hI1, hD1, rfl⟩ := hR; have c28 := lget_t gK gV vF mD vd C1 S1 hC1 hS1 hI1 hD1); (try dsimp only [putF, List.cons_append, List.nil_append]))
   | (refine isC 28 ?_; refine WPl.cXs (c28) fun v Γ1 hR => ?_; (obtain ⟨C2, S2, sv, rfl, hsv, hC2, hS2, hI2, hD2, rfl⟩ := hR; have c46 := ldirty_t gK gV vF C2 hC2 hI2); (try dsimp only [putF, List.cons_append, List.nil_append]))
   | (refine isC 40 ?_; refine WPl.cR (c24) fun v hv => ?_)
   | (refine isOp ?_; first | refine WPl.rd ?_ | refine WPl.sk ?_ | refine WPl.rdB ?_)
   | (show WPl _ _ _ _ _ _ _ (⟨_, .indexAddr _ _ _, _, _, _, _⟩ :: _) _; refine WPl.rdX (ReadR.indexE rfl rfl hasA (by first | assumption | omega)) ?_)
   | (show WPl _ _ _ _ _ _ _ (⟨_, .fieldAddr _ _ _, _, _, _, _⟩ :: _) _; refine WPl.rdX (ReadR.fieldE rfl hasA (by first | assumption | omega)) ?_)
   | (show WPl _ _ _ _ _ _ _ (⟨_, .load _ _, _, _, _, _⟩ :: _) _; first | refine WPl.rdX (ReadR.loadE rfl hasA (by assumption)) ?_ | refine WPl.rdX (ReadR.loadES (by assumption) (by first | assumption | omega) rfl hasA) ?_)
   | (show WPl _ _ _ _ _ _ _ (⟨_, .slice _ _ _ _ _, _, _, _, _⟩ :: _) _; first | refine WPl.rdX (ReadR.sliceH rfl rfl hasA (by omega)) ?_ | refine WPl.rdX (ReadR.sliceL rfl rfl hasA (by omega)) ?_ | refine WPl.rdX (ReadR.sliceLH rfl rfl rfl hasA (by omega) (by omega)) ?_)
   | (refine WPl.spQ (fun hc => ?_) (fun hc => ?_) <;> try exact prA)
   | fail)
  all_goals exact WPq.dV
end Go.Proofs.Ytepmikgjnmjheaa
