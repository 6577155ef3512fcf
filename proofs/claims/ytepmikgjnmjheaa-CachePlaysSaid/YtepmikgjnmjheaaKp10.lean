/- What the row of cachePlays_holds needs: part 10. -/
import Derived.Test.YtepmikgjnmjheaaKp9
/- Reference of layer 5 (cache): Pin, Drop, Those, New. -/
namespace Go.Proofs.Ytepmikgjnmjheaa
open Go.RowKit
set_option linter.unusedSimpArgs false
set_option linter.unusedVariables false
set_option maxRecDepth 20000
set_option maxHeartbeats 4000000
attribute [local irreducible] WPc WPl WPq ReadR OpT BinR HasS bx rdN rowN Take Takes Prov Triple ResF BuildP Done ag Int.decLt Int.decLe Int.instDecidableEq
attribute [local irreducible] mp rmp rg rgo bag vrow secs mput mget mfind mdel intsV skeys vault pickG fburn fb1 valsV zAt zB vers crashT intsN frs rfs those
def Cv.pinBy (C : Cv) (no : Int) (d : Int) : Cv × Bool := match C.at no with
  | some i => (match C.fs[i]? with
    | some (some f) => if f.pins + d < 0 then (C, false) else (setF C i (some { f with pins := f.pins + d }), true)
    | _ => (C, false))
  | none => (C, false)
def RKPin (gY gX n m p : Nat) (rs : List (Value × Sec)) (r : Cv × Bool) : Value → List Asn → Prop := fun v Γ => ∃ K, v = .bool r.2 ∧ K.vw = r.1 ∧ KInv n m p rs K ∧ Γ = [bx gY 73 (krc gX K.v (K.hand : Int)), rowN 97 5 K.v K.fs.length (rfs K.fs)]
theorem pinBy_pin {n m p : Nat} {rs : List (Value × Sec)} {K : KS} (h : KInv n m p rs K) (no : Int) : K.vw.pinBy no 1 = K.vw.pin no := by
  unfold Cv.pinBy Cv.pin
  rw [atK_vw h]
  cases hco : atK K.fs no with
  | none => rfl
  | some i =>
    obtain ⟨f, hf, hfno, h0, hfi, hin, him, hat, hfv⟩ := atK_hit h hco
    dsimp only
    rw [hfv]
    dsimp only
    have := hfi.pin0
    rw [if_neg (by omega)]
theorem pinBy_unpin {n m p : Nat} {rs : List (Value × Sec)} {K : KS} (h : KInv n m p rs K) (no : Int) : K.vw.pinBy no (-1) = K.vw.unpin no := by
  unfold Cv.pinBy Cv.unpin
  rw [atK_vw h]
  cases hco : atK K.fs no with
  | none => rfl
  | some i =>
    obtain ⟨f, hf, hfno, h0, hfi, hin, him, hat, hfv⟩ := atK_hit h hco
    dsimp only
    rw [hfv]
    dsimp only
    have := hfi.pin0
    by_cases hz : f.pins = 0
    · rw [if_pos hz, if_pos (by omega)]
    · rw [if_neg hz, if_neg (by omega)]; rfl
section
variable (gY gX n m p : Nat) (rs : List (Value × Sec)) (K : KS)
theorem kpin_t (no d : Int) (h : KInv n m p rs K) (hm : m ≤ 64) (hp : p ≤ 1000000) (hd0 : -1 ≤ d) (hd1 : d ≤ 1) :
    Triple Try.prog 63 #[hC gY, .int .i64 no, .int .i64 d] [bx gY 73 (krc gX K.v (K.hand : Int)), rowN 97 5 K.v K.fs.length (rfs K.fs)] (RKPin gY gX n m (p + 1) rs (K.vw.pinBy no d)) := by
  have hlen := h.len
  have hhand := h.hand
  have hL := rfs_len (l := K.fs)
  have cA := kat_t gY gX K.v (K.hand : Int) K.fs no (by omega)
  cases hco : atK K.fs no with
  | some i =>
    obtain ⟨f, hf, hfno, h0, hfi, hin, him, hat, hfv⟩ := atK_hit h hco
    rw [hco] at cA
    have cA : Triple _ _ _ _ (RVal (.int .i64 (i : Int))) := cA
    have hp0 := hfi.pin0
    have hp1 := hfi.pin1
    have c1 : (rfs K.fs)[i * 5 + 1]? = some (.int .i64 f.pins) := rfs_cell hf (by omega)
    by_cases hz : f.pins + d < 0
    · have hr : K.vw.pinBy no d = (K.vw, false) := by unfold Cv.pinBy; rw [hat]; dsimp only; rw [hfv]; dsimp only; rw [if_pos hz]
      rw [hr]
      refine Triple.enter Try.func63 rfl Try.ntmps63 rfl (fun W => ?_)
      dsimp only [argsF, Nat.reduceAdd]
      repeat' (first
       | refine WPl.nil ?_ | refine WPq.then ?_ | refine WPq.thenR ?_ | refine WPq.thenE ?_ | refine WPq.blockN ?_ | refine WPq.blockR ?_ | refine WPq.blockE ?_ | refine WPq.blockO rfl ?_ | refine WPc.seq ?_ | refine WPc.block ?_ | refine WPc.ret ?_ | refine WPc.exit ?_ | refine WPc.skip ?_ | refine WPc.region ?_
       | (refine isCond ?_; first | refine WPc.cT ?_ | refine WPc.cF ?_ | (refine WPc.cQ (fun hc => ?_) (fun hc => ?_) <;> try exact prA))
       | (refine isC 10 ?_; refine WPl.cV cA ?_ (hΔ := provsW))
       | (refine isD 12 ?_; refine WPl.rdX (ReadR.binE rfl rfl BinR.lss (congrArg Value.bool (decide_eq_false (show ¬ (i : Int) < 0 by omega)))) ?_)
       | (refine isD 19 ?_; refine WPl.rdX (ReadR.indexE (i := i) rfl rfl hasA him) ?_)
       | (refine isD 20 ?_; refine WPl.rdX (ReadR.fieldE rfl hasA (by omega)) ?_)
       | (refine isD 21 ?_; refine WPl.rdX (ReadR.loadE rfl hasA c1) ?_)
       | (refine isD 23 ?_; refine WPl.rdX (ReadR.binE rfl rfl (BinR.addI (by omega) (by omega)) rfl) ?_)
       | (refine isD 24 ?_; refine WPl.rdX (ReadR.binE rfl rfl BinR.lss (congrArg Value.bool (decide_eq_true hz))) ?_)
       | (refine isOp ?_; first | refine WPl.rd ?_ | refine WPl.sk ?_ | refine WPl.rdB ?_)
       | (refine isSt ?_; first | refine WPl.st1 ?_ | refine WPl.stA ?_ | refine WPl.stEB ?_ | refine WPl.stRB ?_)
       | (show WPl _ _ _ _ _ _ _ (⟨_, .indexAddr _ _ _, _, _, _, _⟩ :: _) _; refine WPl.rdX (ReadR.indexE rfl rfl hasA (by first | assumption | omega)) ?_)
       | (show WPl _ _ _ _ _ _ _ (⟨_, .fieldAddr _ _ _, _, _, _, _⟩ :: _) _; refine WPl.rdX (ReadR.fieldE rfl hasA (by first | assumption | omega)) ?_)
       | (show WPl _ _ _ _ _ _ _ (⟨_, .load _ _, _, _, _, _⟩ :: _) _; first | refine WPl.rdX (ReadR.loadE rfl hasA (by assumption)) ?_ | refine WPl.rdX (ReadR.loadES (by assumption) (by first | assumption | omega) rfl hasA) ?_)
       | (show WPl _ _ _ _ _ _ _ (⟨_, .slice _ _ _ _ _, _, _, _, _⟩ :: _) _; first | refine WPl.rdX (ReadR.sliceH rfl rfl hasA (by omega)) ?_ | refine WPl.rdX (ReadR.sliceL rfl rfl hasA (by omega)) ?_ | refine WPl.rdX (ReadR.sliceLH rfl rfl rfl hasA (by omega) (by omega)) ?_)
       | (refine WPl.spQ (fun hc => ?_) (fun hc => ?_) <;> try exact prA)
       | fail)
      exact WPq.dX (ho := ownsW) (vs := [.bool false]) [bx gY 73 (krc gX K.v (K.hand : Int)), rowN 97 5 K.v K.fs.length (rfs K.fs)] ⟨K, rfl, rfl, h.mono (Nat.le_succ _), rfl⟩
    have hr : K.vw.pinBy no d = (setF K.vw i (some ⟨f.no, f.pins + d, f.dirty, f.used, f.s⟩), true) := by unfold Cv.pinBy; rw [hat]; dsimp only; rw [hfv]; dsimp only; rw [if_neg hz]
    rw [hr]
    obtain ⟨f', hf'⟩ : ∃ f' : FR, f' = { f with pins := f.pins + d } := ⟨_, rfl⟩
    have hf'n : ¬ f'.no < 0 := by rw [hf']; show ¬ f.no < 0; omega
    have hf'v : f'.vw = some ⟨f.no, f.pins + d, f.dirty, f.used, f.s⟩ := by rw [FR.vw_some hf'n, hf']
    have hfi' : FRInv n (p + 1) rs f' := by rw [hf']; exact ⟨hfi.one, hfi.here, fun h9 => absurd h9 (by show ¬ f.no < 0; omega), by dsimp only; omega, by dsimp only; omega⟩
    have hs := rfs_1 (f' := f') (o := 1) (u := .int .i64 (f.pins + d)) hf (by omega) (by rw [hf']; rfl)
    refine Triple.enter Try.func63 rfl Try.ntmps63 rfl (fun W => ?_)
    dsimp only [argsF, Nat.reduceAdd]
    repeat' (first
     | refine WPl.nil ?_ | refine WPq.then ?_ | refine WPq.thenR ?_ | refine WPq.thenE ?_ | refine WPq.blockN ?_ | refine WPq.blockR ?_ | refine WPq.blockE ?_ | refine WPq.blockO rfl ?_ | refine WPc.seq ?_ | refine WPc.block ?_ | refine WPc.ret ?_ | refine WPc.exit ?_ | refine WPc.skip ?_ | refine WPc.region ?_
     | (refine isReg 4 ?_; refine WPc.drA [([18], [30, 31, 32, 33, 34, 35, 36, 37, 38, 39, 40]), ([0, 18], [26, 30, 31, 32, 33, 34, 35, 36, 37, 38, 39, 40]), ([0, 1, 18], [26, 27, 30, 31, 32, 33, 34, 35, 36, 37, 38, 39, 40]), ([0, 1, 2, 18], [26, 27, 28, 30, 31, 32, 33, 34, 35, 36, 37, 38, 39, 40]), ([18], [26, 27, 28, 29, 31, 32, 33, 34, 35, 36, 37, 38, 39, 40]), ([18], [26, 27, 28, 29, 30, 35, 39]), ([5, 18], [26, 27, 28, 29, 30, 31, 35, 39]), ([5, 6, 18], [26, 27, 28, 29, 30, 31, 32, 35, 39]), ([5, 6, 7, 18], [26, 27, 28, 29, 30, 31, 32, 33, 35, 39]), ([18], [26, 27, 28, 29, 30, 31, 32, 33, 34, 39]), ([5, 6, 7, 8, 9, 18], [26, 27, 28, 29, 30, 31, 32, 33, 34, 35, 39]), ([5, 6, 7, 8, 9, 10, 18], [26, 27, 28, 29, 30, 31, 32, 33, 34, 35, 36, 39]), ([5, 6, 7, 8, 9, 10, 11, 18], [26, 27, 28, 29, 30, 31, 32, 33, 34, 35, 36, 37, 39]), ([18], [26, 27, 28, 29, 30, 31, 32, 33, 34, 35, 36, 37, 38]), ([5, 6, 7, 8, 9, 10, 11, 12, 13, 18], [26, 27, 28, 29, 30, 31, 32, 33, 34, 35, 36, 37, 38, 39]), ([0, 1, 2, 3, 4, 5, 6, 7, 8, 9, 10, 11, 12, 13, 14, 18], [26, 27, 28, 29, 30, 31, 32, 33, 34, 35, 36, 37, 38, 39, 40]), ([0, 1, 2, 3, 4, 5, 6, 7, 8, 9, 10, 11, 12, 13, 14, 15, 18], [26, 27, 28, 29, 30, 31, 32, 33, 34, 35, 36, 37, 38, 39, 40, 41]), ([0, 1, 2, 3, 4, 5, 6, 7, 8, 9, 10, 11, 12, 13, 14, 15, 16, 18], [26, 27, 28, 29, 30, 31, 32, 33, 34, 35, 36, 37, 38, 39, 40, 41, 42])] [(18, 17), (18, 0), (18, 1), (18, 2), (18, 3), (18, 4), (18, 5), (18, 6), (18, 7), (18, 8), (18, 9), (18, 10), (18, 11), (18, 12), (18, 13), (18, 14), (18, 15), (18, 16)] (Γx := [rowN 97 5 K.v K.fs.length (rfs K.fs)]) ?_; dsimp only [prev0, List.length_nil, List.length_cons])
     | (refine gAny ?_; first | (refine gD 12 ?_; refine RGl.rdX (fun e hk => by (try dsimp only [bndR, ensR, oksR, fcutR, List.append_nil, List.nil_append, List.cons_append, List.append_assoc] at hk ⊢); exact ReadR.binE rfl rfl BinR.lss (congrArg Value.bool (decide_eq_false (show ¬ (i : Int) < 0 by omega)))) ?_) | (refine gD 19 ?_; refine RGl.rdX (fun e hk => by (try dsimp only [bndR, ensR, oksR, fcutR, List.append_nil, List.nil_append, List.cons_append, List.append_assoc] at hk ⊢); exact ReadR.indexE (i := i) rfl rfl hasA him) ?_) | (refine gD 20 ?_; refine RGl.rdX (fun e hk => by (try dsimp only [bndR, ensR, oksR, fcutR, List.append_nil, List.nil_append, List.cons_append, List.append_assoc] at hk ⊢); exact ReadR.fieldE rfl hasA (by omega)) ?_) | (refine gD 21 ?_; refine RGl.rdX (fun e hk => by (try dsimp only [bndR, ensR, oksR, fcutR, List.append_nil, List.nil_append, List.cons_append, List.append_assoc] at hk ⊢); exact ReadR.loadE rfl hasA c1) ?_) | (refine gD 23 ?_; refine RGl.rdX (fun e hk => by (try dsimp only [bndR, ensR, oksR, fcutR, List.append_nil, List.nil_append, List.cons_append, List.append_assoc] at hk ⊢); exact ReadR.binE rfl rfl (BinR.addI (by omega) (by omega)) rfl) ?_) | (refine gD 24 ?_; refine RGl.rdX (fun e hk => by (try dsimp only [bndR, ensR, oksR, fcutR, List.append_nil, List.nil_append, List.cons_append, List.append_assoc] at hk ⊢); exact ReadR.binE rfl rfl BinR.lss (congrArg Value.bool (decide_eq_false hz))) ?_) | (refine gD 36 ?_; refine RGl.rdX (fun e hk => by (try dsimp only [bndR, ensR, oksR, fcutR, List.append_nil, List.nil_append, List.cons_append, List.append_assoc] at hk ⊢); exact ReadR.indexE (i := i) rfl rfl hasA him) ?_) | (refine gD 37 ?_; refine RGl.rdX (fun e hk => by (try dsimp only [bndR, ensR, oksR, fcutR, List.append_nil, List.nil_append, List.cons_append, List.append_assoc] at hk ⊢); exact ReadR.fieldE rfl hasA (by omega)) ?_) | (refine gD 38 ?_; refine RGl.rdX (fun e hk => by (try dsimp only [bndR, ensR, oksR, fcutR, List.append_nil, List.nil_append, List.cons_append, List.append_assoc] at hk ⊢); exact ReadR.loadE rfl hasA c1) ?_) | (refine gD 40 ?_; refine RGl.rdX (fun e hk => by (try dsimp only [bndR, ensR, oksR, fcutR, List.append_nil, List.nil_append, List.cons_append, List.append_assoc] at hk ⊢); exact ReadR.binE rfl rfl (BinR.addI (by omega) (by omega)) rfl) ?_) | (refine gD 41 ?_; refine RGl.rdX (fun e hk => by (try dsimp only [bndR, ensR, oksR, fcutR, List.append_nil, List.nil_append, List.cons_append, List.append_assoc] at hk ⊢); exact ReadR.indexE (i := i) rfl rfl hasA him) ?_) | (refine gD 42 ?_; refine RGl.rdX (fun e hk => by (try dsimp only [bndR, ensR, oksR, fcutR, List.append_nil, List.nil_append, List.cons_append, List.append_assoc] at hk ⊢); exact ReadR.fieldE rfl hasA (by omega)) ?_) | (refine gOp ?_; (refine RGl.turn (fun e hk => by (try dsimp only [bndR, ensR, oksR, fcutR, List.append_nil, List.nil_append, List.cons_append, List.append_assoc] at hk ⊢); exact OpT.storeEN (i := i * 5 + 1) rfl rfl takesA rfl (by omega)) ?_)) | (refine gOp ?_; first | refine RGl.rdA ?_ | refine RGl.rdX (fun e hk => by (try dsimp only [bndR, ensR, oksR, fcutR, List.append_nil, List.nil_append, List.cons_append, List.append_assoc] at hk ⊢); exact readB) ?_) | (refine gSt ?_; refine RGl.stA ?_) | (refine RGl.fin (fun e hk => ?_); (try dsimp only [bndA, ensAR, oksA, List.append_nil, List.nil_append, List.cons_append, List.append_assoc] at hk ⊢); (repeat (obtain ⟨hk1, hk⟩ := hk))) | fail)
     | (refine isCond ?_; first | refine WPc.cT ?_ | refine WPc.cF ?_ | (refine WPc.cQ (fun hc => ?_) (fun hc => ?_) <;> try exact prA))
     | (refine isC 10 ?_; refine WPl.cV cA ?_ (hΔ := provsW))
     | (refine isD 12 ?_; refine WPl.rdX (ReadR.binE rfl rfl BinR.lss (congrArg Value.bool (decide_eq_false (show ¬ (i : Int) < 0 by omega)))) ?_)
     | (refine isD 19 ?_; refine WPl.rdX (ReadR.indexE (i := i) rfl rfl hasA him) ?_)
     | (refine isD 20 ?_; refine WPl.rdX (ReadR.fieldE rfl hasA (by omega)) ?_)
     | (refine isD 21 ?_; refine WPl.rdX (ReadR.loadE rfl hasA c1) ?_)
     | (refine isD 23 ?_; refine WPl.rdX (ReadR.binE rfl rfl (BinR.addI (by omega) (by omega)) rfl) ?_)
     | (refine isD 24 ?_; refine WPl.rdX (ReadR.binE rfl rfl BinR.lss (congrArg Value.bool (decide_eq_false hz))) ?_)
     | (refine isD 36 ?_; refine WPl.rdX (ReadR.indexE (i := i) rfl rfl hasA him) ?_)
     | (refine isD 37 ?_; refine WPl.rdX (ReadR.fieldE rfl hasA (by omega)) ?_)
     | (refine isD 38 ?_; refine WPl.rdX (ReadR.loadE rfl hasA c1) ?_)
     | (refine isD 40 ?_; refine WPl.rdX (ReadR.binE rfl rfl (BinR.addI (by omega) (by omega)) rfl) ?_)
     | (refine isD 41 ?_; refine WPl.rdX (ReadR.indexE (i := i) rfl rfl hasA him) ?_)
     | (refine isD 42 ?_; refine WPl.rdX (ReadR.fieldE rfl hasA (by omega)) ?_)
     | (refine isOp ?_; first | refine WPl.rd ?_ | refine WPl.sk ?_ | refine WPl.rdB ?_)
     | (refine isSt ?_; first | refine WPl.st1 ?_ | refine WPl.stA ?_ | refine WPl.stEB ?_ | refine WPl.stRB ?_)
     | (show WPl _ _ _ _ _ _ _ (⟨_, .indexAddr _ _ _, _, _, _, _⟩ :: _) _; refine WPl.rdX (ReadR.indexE rfl rfl hasA (by first | assumption | omega)) ?_)
     | (show WPl _ _ _ _ _ _ _ (⟨_, .fieldAddr _ _ _, _, _, _, _⟩ :: _) _; refine WPl.rdX (ReadR.fieldE rfl hasA (by first | assumption | omega)) ?_)
     | (show WPl _ _ _ _ _ _ _ (⟨_, .load _ _, _, _, _, _⟩ :: _) _; first | refine WPl.rdX (ReadR.loadE rfl hasA (by assumption)) ?_ | refine WPl.rdX (ReadR.loadES (by assumption) (by first | assumption | omega) rfl hasA) ?_)
     | (show WPl _ _ _ _ _ _ _ (⟨_, .slice _ _ _ _ _, _, _, _, _⟩ :: _) _; first | refine WPl.rdX (ReadR.sliceH rfl rfl hasA (by omega)) ?_ | refine WPl.rdX (ReadR.sliceL rfl rfl hasA (by omega)) ?_ | refine WPl.rdX (ReadR.sliceLH rfl rfl rfl hasA (by omega) (by omega)) ?_)
     | (refine WPl.spQ (fun hc => ?_) (fun hc => ?_) <;> try exact prA)
     | fail)
    rw [hs]
    refine WPq.dX (ho := ownsW) (vs := [.bool true]) [bx gY 73 (krc gX K.v (K.hand : Int)), rowN 97 5 K.v K.fs.length (rfs (K.fs.set i f'))] ⟨⟨K.fs.set i f', K.hand, K.v⟩, rfl, ?_, (h.mono (Nat.le_succ _)).set hfi' h.hand, by show _ = [_, rowN _ 5 K.v (K.fs.set i f').length _]; rw [List.length_set]⟩
    show Cv.mk _ _ = setF _ _ _
    rw [List.map_set, hf'v]; rfl
  | none =>
    have hat : K.vw.at no = none := by rw [atK_vw h]; exact hco
    rw [hco] at cA
    have cA : Triple _ _ _ _ (RVal (.int .i64 (-1))) := cA
    have hr : K.vw.pinBy no d = (K.vw, false) := by unfold Cv.pinBy; rw [hat]
    rw [hr]
    refine Triple.enter Try.func63 rfl Try.ntmps63 rfl (fun W => ?_)
    dsimp only [argsF, Nat.reduceAdd]
    repeat' (first
     | refine WPl.nil ?_ | refine WPq.then ?_ | refine WPq.thenR ?_ | refine WPq.thenE ?_ | refine WPq.blockN ?_ | refine WPq.blockR ?_ | refine WPq.blockE ?_ | refine WPq.blockO rfl ?_ | refine WPc.seq ?_ | refine WPc.block ?_ | refine WPc.ret ?_ | refine WPc.exit ?_ | refine WPc.skip ?_ | refine WPc.region ?_
     | (refine isCond ?_; first | refine WPc.cT ?_ | refine WPc.cF ?_ | (refine WPc.cQ (fun hc => ?_) (fun hc => ?_) <;> try exact prA))
     | (refine isC 10 ?_; refine WPl.cV cA ?_ (hΔ := provsW))
     | (refine isD 12 ?_; refine WPl.rdX (ReadR.binE rfl rfl BinR.lss (congrArg Value.bool (decide_eq_true (show (-1 : Int) < 0 by omega)))) ?_)
     | (refine isOp ?_; first | refine WPl.rd ?_ | refine WPl.sk ?_ | refine WPl.rdB ?_)
     | (refine isSt ?_; first | refine WPl.st1 ?_ | refine WPl.stA ?_ | refine WPl.stEB ?_ | refine WPl.stRB ?_)
     | (show WPl _ _ _ _ _ _ _ (⟨_, .indexAddr _ _ _, _, _, _, _⟩ :: _) _; refine WPl.rdX (ReadR.indexE rfl rfl hasA (by first | assumption | omega)) ?_)
     | (show WPl _ _ _ _ _ _ _ (⟨_, .fieldAddr _ _ _, _, _, _, _⟩ :: _) _; refine WPl.rdX (ReadR.fieldE rfl hasA (by first | assumption | omega)) ?_)
     | (show WPl _ _ _ _ _ _ _ (⟨_, .load _ _, _, _, _, _⟩ :: _) _; first | refine WPl.rdX (ReadR.loadE rfl hasA (by assumption)) ?_ | refine WPl.rdX (ReadR.loadES (by assumption) (by first | assumption | omega) rfl hasA) ?_)
     | (show WPl _ _ _ _ _ _ _ (⟨_, .slice _ _ _ _ _, _, _, _, _⟩ :: _) _; first | refine WPl.rdX (ReadR.sliceH rfl rfl hasA (by omega)) ?_ | refine WPl.rdX (ReadR.sliceL rfl rfl hasA (by omega)) ?_ | refine WPl.rdX (ReadR.sliceLH rfl rfl rfl hasA (by omega) (by omega)) ?_)
     | (refine WPl.spQ (fun hc => ?_) (fun hc => ?_) <;> try exact prA)
     | fail)
    exact WPq.dX (ho := ownsW) (vs := [.bool false]) [bx gY 73 (krc gX K.v (K.hand : Int)), rowN 97 5 K.v K.fs.length (rfs K.fs)] ⟨K, rfl, rfl, h.mono (Nat.le_succ _), rfl⟩
theorem kdrop_t (no : Int) (h : KInv n m p rs K) (hm : m ≤ 64) :
    Triple Try.prog 64 #[hC gY, .int .i64 no] [bx gY 73 (krc gX K.v (K.hand : Int)), rowN 97 5 K.v K.fs.length (rfs K.fs)] (RKPin gY gX n m p rs (K.vw.drop no)) := by
  have hlen := h.len
  have hhand := h.hand
  have hL := rfs_len (l := K.fs)
  have cA := kat_t gY gX K.v (K.hand : Int) K.fs no (by omega)
  cases hco : atK K.fs no with
  | some i =>
    obtain ⟨f, hf, hfno, h0, hfi, hin, him, hat, hfv⟩ := atK_hit h hco
    rw [hco] at cA
    have cA : Triple _ _ _ _ (RVal (.int .i64 (i : Int))) := cA
    have hp0 := hfi.pin0
    have hp1 := hfi.pin1
    have c1 : (rfs K.fs)[i * 5 + 1]? = some (.int .i64 f.pins) := rfs_cell hf (by omega)
    by_cases hz : f.pins > 0
    · have hr : K.vw.drop no = (K.vw, false) := by unfold Cv.drop; rw [hat]; dsimp only; rw [hfv]; dsimp only; rw [if_pos hz]
      rw [hr]
      refine Triple.enter Try.func64 rfl Try.ntmps64 rfl (fun W => ?_)
      dsimp only [argsF, Nat.reduceAdd]
      repeat' (first
       | refine WPl.nil ?_ | refine WPq.then ?_ | refine WPq.thenR ?_ | refine WPq.thenE ?_ | refine WPq.blockN ?_ | refine WPq.blockR ?_ | refine WPq.blockE ?_ | refine WPq.blockO rfl ?_ | refine WPc.seq ?_ | refine WPc.block ?_ | refine WPc.ret ?_ | refine WPc.exit ?_ | refine WPc.skip ?_ | refine WPc.region ?_
       | (refine isCond ?_; first | refine WPc.cT ?_ | refine WPc.cF ?_ | (refine WPc.cQ (fun hc => ?_) (fun hc => ?_) <;> try exact prA))
       | (refine isC 8 ?_; refine WPl.cV cA ?_ (hΔ := provsW))
       | (refine isD 10 ?_; refine WPl.rdX (ReadR.binE rfl rfl BinR.lss (congrArg Value.bool (decide_eq_false (show ¬ (i : Int) < 0 by omega)))) ?_)
       | (refine isD 17 ?_; refine WPl.rdX (ReadR.indexE (i := i) rfl rfl hasA him) ?_)
       | (refine isD 18 ?_; refine WPl.rdX (ReadR.fieldE rfl hasA (by omega)) ?_)
       | (refine isD 19 ?_; refine WPl.rdX (ReadR.loadE rfl hasA c1) ?_)
       | (refine isD 20 ?_; refine WPl.rdX (ReadR.binE rfl rfl BinR.gtr (congrArg Value.bool (decide_eq_true hz))) ?_)
       | (refine isOp ?_; first | refine WPl.rd ?_ | refine WPl.sk ?_ | refine WPl.rdB ?_)
       | (refine isSt ?_; first | refine WPl.st1 ?_ | refine WPl.stA ?_ | refine WPl.stEB ?_ | refine WPl.stRB ?_)
       | (show WPl _ _ _ _ _ _ _ (⟨_, .indexAddr _ _ _, _, _, _, _⟩ :: _) _; refine WPl.rdX (ReadR.indexE rfl rfl hasA (by first | assumption | omega)) ?_)
       | (show WPl _ _ _ _ _ _ _ (⟨_, .fieldAddr _ _ _, _, _, _, _⟩ :: _) _; refine WPl.rdX (ReadR.fieldE rfl hasA (by first | assumption | omega)) ?_)
       | (show WPl _ _ _ _ _ _ _ (⟨_, .load _ _, _, _, _, _⟩ :: _) _; first | refine WPl.rdX (ReadR.loadE rfl hasA (by assumption)) ?_ | refine WPl.rdX (ReadR.loadES (by assumption) (by first | assumption | omega) rfl hasA) ?_)
       | (show WPl _ _ _ _ _ _ _ (⟨_, .slice _ _ _ _ _, _, _, _, _⟩ :: _) _; first | refine WPl.rdX (ReadR.sliceH rfl rfl hasA (by omega)) ?_ | refine WPl.rdX (ReadR.sliceL rfl rfl hasA (by omega)) ?_ | refine WPl.rdX (ReadR.sliceLH rfl rfl rfl hasA (by omega) (by omega)) ?_)
       | (refine WPl.spQ (fun hc => ?_) (fun hc => ?_) <;> try exact prA)
       | fail)
      exact WPq.dX (ho := ownsW) (vs := [.bool false]) [bx gY 73 (krc gX K.v (K.hand : Int)), rowN 97 5 K.v K.fs.length (rfs K.fs)] ⟨K, rfl, rfl, h, rfl⟩
    have hr : K.vw.drop no = (setF K.vw i none, true) := by unfold Cv.drop; rw [hat]; dsimp only; rw [hfv]; dsimp only; rw [if_neg hz]
    rw [hr]
    have hz2 := rfs_set (f := frR0) him
    have hfz : FOk (frRC frR0) := FRInv.fok (n := n) (p := p) (rs := rs) .zero
    refine Triple.enter Try.func64 rfl Try.ntmps64 rfl (fun W => ?_)
    dsimp only [argsF, Nat.reduceAdd]
    repeat' (first
     | refine WPl.nil ?_ | refine WPq.then ?_ | refine WPq.thenR ?_ | refine WPq.thenE ?_ | refine WPq.blockN ?_ | refine WPq.blockR ?_ | refine WPq.blockE ?_ | refine WPq.blockO rfl ?_ | refine WPc.seq ?_ | refine WPc.block ?_ | refine WPc.ret ?_ | refine WPc.exit ?_ | refine WPc.skip ?_ | refine WPc.region ?_
     | (refine isCond ?_; first | refine WPc.cT ?_ | refine WPc.cF ?_ | (refine WPc.cQ (fun hc => ?_) (fun hc => ?_) <;> try exact prA))
     | (refine isC 8 ?_; refine WPl.cV cA ?_ (hΔ := provsW))
     | (refine isD 10 ?_; refine WPl.rdX (ReadR.binE rfl rfl BinR.lss (congrArg Value.bool (decide_eq_false (show ¬ (i : Int) < 0 by omega)))) ?_)
     | (refine isD 17 ?_; refine WPl.rdX (ReadR.indexE (i := i) rfl rfl hasA him) ?_)
     | (refine isD 18 ?_; refine WPl.rdX (ReadR.fieldE rfl hasA (by omega)) ?_)
     | (refine isD 19 ?_; refine WPl.rdX (ReadR.loadE rfl hasA c1) ?_)
     | (refine isD 20 ?_; refine WPl.rdX (ReadR.binE rfl rfl BinR.gtr (congrArg Value.bool (decide_eq_false hz))) ?_)
     | (refine isD 27 ?_; refine WPl.rdX (ReadR.build (cs' := frRC frR0) buildA) ?_)
     | (refine isD 28 ?_; refine WPl.rdX (ReadR.indexE (i := i) rfl rfl hasA him) ?_)
     | (show WPl _ _ _ _ _ _ _ (⟨_, .store _ (.tmp 28) _, _, _, _, _⟩ :: _) _; refine WPl.stES (new := frRC frR0) (i := i * 5) (k := 5) (m := K.fs.length) (xs := rfs K.fs) hfz rfl (by omega) (by omega) ?_; rw [hz2])
     | (refine isOp ?_; first | refine WPl.rd ?_ | refine WPl.sk ?_ | refine WPl.rdB ?_)
     | (refine isSt ?_; first | refine WPl.st1 ?_ | refine WPl.stA ?_ | refine WPl.stEB ?_ | refine WPl.stRB ?_)
     | (show WPl _ _ _ _ _ _ _ (⟨_, .indexAddr _ _ _, _, _, _, _⟩ :: _) _; refine WPl.rdX (ReadR.indexE rfl rfl hasA (by first | assumption | omega)) ?_)
     | (show WPl _ _ _ _ _ _ _ (⟨_, .fieldAddr _ _ _, _, _, _, _⟩ :: _) _; refine WPl.rdX (ReadR.fieldE rfl hasA (by first | assumption | omega)) ?_)
     | (show WPl _ _ _ _ _ _ _ (⟨_, .load _ _, _, _, _, _⟩ :: _) _; first | refine WPl.rdX (ReadR.loadE rfl hasA (by assumption)) ?_ | refine WPl.rdX (ReadR.loadES (by assumption) (by first | assumption | omega) rfl hasA) ?_)
     | (show WPl _ _ _ _ _ _ _ (⟨_, .slice _ _ _ _ _, _, _, _, _⟩ :: _) _; first | refine WPl.rdX (ReadR.sliceH rfl rfl hasA (by omega)) ?_ | refine WPl.rdX (ReadR.sliceL rfl rfl hasA (by omega)) ?_ | refine WPl.rdX (ReadR.sliceLH rfl rfl rfl hasA (by omega) (by omega)) ?_)
     | (refine WPl.spQ (fun hc => ?_) (fun hc => ?_) <;> try exact prA)
     | fail)
    exact WPq.dX (ho := ownsW) (vs := [.bool true]) [bx gY 73 (krc gX K.v (K.hand : Int)), rowN 97 5 K.v K.fs.length (rfs (K.fs.set i frR0))] ⟨⟨K.fs.set i frR0, K.hand, K.v⟩, rfl, by show Cv.mk _ _ = Cv.mk _ _; rw [List.map_set, FR.vw_none (f := frR0) (show (-1 : Int) < 0 by omega)]; rfl, h.set .zero h.hand, by show _ = [_, rowN _ 5 K.v (K.fs.set i frR0).length _]; rw [List.length_set]⟩
  | none =>
    have hat : K.vw.at no = none := by rw [atK_vw h]; exact hco
    rw [hco] at cA
    have cA : Triple _ _ _ _ (RVal (.int .i64 (-1))) := cA
    have hr : K.vw.drop no = (K.vw, false) := by unfold Cv.drop; rw [hat]
    rw [hr]
    refine Triple.enter Try.func64 rfl Try.ntmps64 rfl (fun W => ?_)
    dsimp only [argsF, Nat.reduceAdd]
    repeat' (first
     | refine WPl.nil ?_ | refine WPq.then ?_ | refine WPq.thenR ?_ | refine WPq.thenE ?_ | refine WPq.blockN ?_ | refine WPq.blockR ?_ | refine WPq.blockE ?_ | refine WPq.blockO rfl ?_ | refine WPc.seq ?_ | refine WPc.block ?_ | refine WPc.ret ?_ | refine WPc.exit ?_ | refine WPc.skip ?_ | refine WPc.region ?_
     | (refine isCond ?_; first | refine WPc.cT ?_ | refine WPc.cF ?_ | (refine WPc.cQ (fun hc => ?_) (fun hc => ?_) <;> try exact prA))
     | (refine isC 8 ?_; refine WPl.cV cA ?_ (hΔ := provsW))
     | (refine isD 10 ?_; refine WPl.rdX (ReadR.binE rfl rfl BinR.lss (congrArg Value.bool (decide_eq_true (show (-1 : Int) < 0 by omega)))) ?_)
     | (refine isOp ?_; first | refine WPl.rd ?_ | refine WPl.sk ?_ | refine WPl.rdB ?_)
     | (refine isSt ?_; first | refine WPl.st1 ?_ | refine WPl.stA ?_ | refine WPl.stEB ?_ | refine WPl.stRB ?_)
     | (show WPl _ _ _ _ _ _ _ (⟨_, .indexAddr _ _ _, _, _, _, _⟩ :: _) _; refine WPl.rdX (ReadR.indexE rfl rfl hasA (by first | assumption | omega)) ?_)
     | (show WPl _ _ _ _ _ _ _ (⟨_, .fieldAddr _ _ _, _, _, _, _⟩ :: _) _; refine WPl.rdX (ReadR.fieldE rfl hasA (by first | assumption | omega)) ?_)
     | (show WPl _ _ _ _ _ _ _ (⟨_, .load _ _, _, _, _, _⟩ :: _) _; first | refine WPl.rdX (ReadR.loadE rfl hasA (by assumption)) ?_ | refine WPl.rdX (ReadR.loadES (by assumption) (by first | assumption | omega) rfl hasA) ?_)
     | (show WPl _ _ _ _ _ _ _ (⟨_, .slice _ _ _ _ _, _, _, _, _⟩ :: _) _; first | refine WPl.rdX (ReadR.sliceH rfl rfl hasA (by omega)) ?_ | refine WPl.rdX (ReadR.sliceL rfl rfl hasA (by omega)) ?_ | refine WPl.rdX (ReadR.sliceLH rfl rfl rfl hasA (by omega) (by omega)) ?_)
     | (refine WPl.spQ (fun hc => ?_) (fun hc => ?_) <;> try exact prA)
     | fail)
    exact WPq.dX (ho := ownsW) (vs := [.bool false]) [bx gY 73 (krc gX K.v (K.hand : Int)), rowN 97 5 K.v K.fs.length (rfs K.fs)] ⟨K, rfl, rfl, h, rfl⟩
theorem those_next {C : Cv} {d : Bool} {j : Nat} : those (j + 1) C d = those j C d ++ (if dAt C d j = true then [(j : Int)] else []) := by
  with_unfolding_all
    unfold those intsN
    rw [List.range_succ, List.filter_append, List.map_append]
    congr 1
    by_cases h : dAt C d j = true
    · rw [if_pos h, List.filter_cons_of_pos h]; rfl
    · rw [if_neg h, List.filter_cons_of_neg h]; rfl
theorem those_len {n : Nat} {C : Cv} {d : Bool} : (those n C d).length ≤ n := by
  with_unfolding_all
    unfold those
    rw [intsN_len]
    refine Nat.le_trans (List.length_filter_le _ _) ?_
    rw [List.length_range]; exact Nat.le_refl _
end
abbrev krO (gY gX : Nat) (K : KS) (R : RfS) : List Asn := [rbx gY 73 (krc gX K.v (K.hand : Int)), rdN K.v K.fs.length (rfs K.fs), rbx gX 51 (rdc R.vL R.vA R.vB R.fu R.wr), rdN R.vL R.L.length (valsV R.L)]
section
variable (gY gX n m p : Nat) (K : KS) (R : RfS)
theorem kthose_t (dq : Bool) (h : KInv n m p R.rs K) (hnl : R.L.length = n) (hm : m ≤ 64) (hn : n ≤ 100000) :
    Triple Try.prog 43 #[hC gY, .bool dq] (krO gY gX K R) (RRow 3 1 (those n K.vw dq).length (intsV (those n K.vw dq))) := by
  have hlen := h.len
  have hL := rfs_len (l := K.fs)
  have e1 : ∀ v, rowN 3 1 v 0 [] = rowN 3 1 v (those 0 K.vw dq).length (intsV (those 0 K.vw dq)) := fun v => by with_unfolding_all rfl
  have cA := fun no => kat_t gY gX K.v (K.hand : Int) K.fs no (by omega)
  refine Triple.enter Try.func43 rfl Try.ntmps43 rfl (fun W => ?_)
  dsimp only [argsF, Nat.reduceAdd]
  repeat' (first
   | refine WPl.nil ?_ | refine WPq.then ?_ | refine WPq.thenR ?_ | refine WPq.thenE ?_ | refine WPq.blockN ?_ | refine WPq.blockR ?_ | refine WPq.blockE ?_ | refine WPq.blockO rfl ?_ | refine WPc.seq ?_ | refine WPc.block ?_ | refine WPc.ret ?_ | refine WPc.exit ?_ | refine WPc.skip ?_ | refine WPc.region ?_
   | (refine isCond ?_; first | refine WPc.cT ?_ | refine WPc.cF ?_ | (refine WPc.cQ (fun hc => ?_) (fun hc => ?_) <;> try exact prA))
   | (refine isD 8 ?_; refine WPl.litS0 fun v8 hv8 => ?_)
   | (refine isOp ?_; first | refine WPl.rd ?_ | refine WPl.sk ?_ | refine WPl.rdB ?_)
   | (show WPl _ _ _ _ _ _ _ (⟨_, .indexAddr _ _ _, _, _, _, _⟩ :: _) _; refine WPl.rdX (ReadR.indexE rfl rfl hasA (by first | assumption | omega)) ?_)
   | (show WPl _ _ _ _ _ _ _ (⟨_, .fieldAddr _ _ _, _, _, _, _⟩ :: _) _; refine WPl.rdX (ReadR.fieldE rfl hasA (by first | assumption | omega)) ?_)
   | (show WPl _ _ _ _ _ _ _ (⟨_, .load _ _, _, _, _, _⟩ :: _) _; first | refine WPl.rdX (ReadR.loadE rfl hasA (by assumption)) ?_ | refine WPl.rdX (ReadR.loadES (by assumption) (by first | assumption | omega) rfl hasA) ?_)
   | (show WPl _ _ _ _ _ _ _ (⟨_, .slice _ _ _ _ _, _, _, _, _⟩ :: _) _; first | refine WPl.rdX (ReadR.sliceH rfl rfl hasA (by omega)) ?_ | refine WPl.rdX (ReadR.sliceL rfl rfl hasA (by omega)) ?_ | refine WPl.rdX (ReadR.sliceLH rfl rfl rfl hasA (by omega) (by omega)) ?_)
   | (refine WPl.spQ (fun hc => ?_) (fun hc => ?_) <;> try exact prA)
   | fail)
  rw [e1]
  first | refine WPc.loop (σ := Nat × Value) (fun st => st.1 ≤ n ∧ st.2.oneCell' = true) (fun st => [rbx gY 73 (krc gX K.v (K.hand : Int)), rdN K.v K.fs.length (rfs K.fs), rbx gX 51 (rdc R.vL R.vA R.vB R.fu R.wr), rdN R.vL R.L.length (valsV R.L), rowN 3 1 st.2 (those st.1 K.vw dq).length (intsV (those st.1 K.vw dq))]) (fun st => [(0, hC gY), (1, .bool dq), (5, st.2), (6, .int .i64 (st.1 : Int))]) (fun st => n - st.1) ((0, v8)) ?_ takesA frsA (fun st km hx hk => ?_)
  · exact ⟨Nat.zero_le _, hv8⟩
  obtain ⟨q, vo⟩ := st
  obtain ⟨hq, hvo⟩ := hx
  dsimp only at hq hvo hk ⊢
  have hkm : km = n - q := hk
  clear hk
  have hnx := those_next (C := K.vw) (d := dq) (j := q)
  have hlq := those_len (n := q) (C := K.vw) (d := dq)
  obtain ⟨cur, hcur⟩ : ∃ cur, cur = those q K.vw dq := ⟨_, rfl⟩
  rw [← hcur] at hnx hlq ⊢
  have cA := cA (q : Int)
  have hadd : ∀ v2, dAt K.vw dq q = true → rowN 3 1 v2 (cur.length + 1) (intsV cur ++ [Value.int .i64 (q : Int)]) = rowN 3 1 v2 (those (q + 1) K.vw dq).length (intsV (those (q + 1) K.vw dq)) := fun v2 hd => by
    rw [hnx, if_pos hd, List.length_append]
    with_unfolding_all (unfold intsV; rw [List.map_append]; rfl)
  have hno : dAt K.vw dq q = false → cur = those (q + 1) K.vw dq := fun hd => by rw [hnx, if_neg (by rw [hd]; simp), List.append_nil]
  by_cases hlt : q < n
  · have hlt' : (q : Int) < (R.L.length : Int) := by omega
    cases hco : atK K.fs (q : Int) with
    | some i =>
      obtain ⟨f, hf, hfno, h0, hfi, hin, him, hat, hfv⟩ := atK_hit h hco
      rw [hco] at cA
      have cA : Triple _ _ _ _ (RVal (.int .i64 (i : Int))) := cA
      have c2 : (rfs K.fs)[i * 5 + 2]? = some (.bool f.dirty) := rfs_cell hf (by omega)
      have hd : dAt K.vw dq q = (f.dirty || !dq) := by unfold dAt; rw [hat]; dsimp only; rw [hfv]
      cases hfd : f.dirty with
      | true =>
        rw [hfd] at hd c2
        have hd : dAt K.vw dq q = true := hd
        repeat' (first
         | refine WPl.nil ?_ | refine WPq.then ?_ | refine WPq.thenR ?_ | refine WPq.thenE ?_ | refine WPq.blockN ?_ | refine WPq.blockR ?_ | refine WPq.blockE ?_ | refine WPq.blockO rfl ?_ | refine WPc.seq ?_ | refine WPc.block ?_ | refine WPc.ret ?_ | refine WPc.exit ?_ | refine WPc.skip ?_ | refine WPc.region ?_
         | (refine isCond ?_; first | refine WPc.cT ?_ | refine WPc.cF ?_ | (refine WPc.cQ (fun hc => ?_) (fun hc => ?_) <;> try first | exact prA | (exfalso; first | omega)))
         | (refine isD 13 ?_; refine WPl.rdX (ReadR.loadO memA rfl rfl) ?_)
         | (refine isD 16 ?_; refine WPl.rdX (ReadR.loadO memA rfl rfl) ?_)
         | (refine isD 18 ?_; refine WPl.rdX (ReadR.binE rfl rfl BinR.lss (congrArg Value.bool (decide_eq_true hlt'))) ?_)
         | (refine isC 23 ?_; refine WPl.cV cA ?_ (hΔ := provsM))
         | (refine isD 25 ?_; refine WPl.rdX (ReadR.binE rfl rfl BinR.geq (congrArg Value.bool (decide_eq_true (show (i : Int) ≥ 0 by omega)))) ?_)
         | (refine isD 30 ?_; refine WPl.rdX (ReadR.loadO memA rfl rfl) ?_)
         | (refine isD 32 ?_; refine WPl.rdX (ReadR.indexE (i := i) rfl rfl hasA him) ?_)
         | (refine isD 33 ?_; refine WPl.rdX (ReadR.fieldE rfl hasA (by omega)) ?_)
         | (refine isD 34 ?_; refine WPl.rdX (ReadR.loadE rfl hasA c2) ?_)
         | (refine isLit ?_; refine WPl.lits fun w42 hw42 => ?_)
         | (refine isD 43 ?_; refine WPl.appN (m := cur.length) (m2 := 1) (xs := intsV cur) (ys := [Value.int .i64 (q : Int)]) rfl (fun u hu => by rw [List.mem_singleton.1 hu]; rfl) (by omega) fun v43 hv43 => ?_)
         | (refine isOp ?_; first | refine WPl.rd ?_ | refine WPl.sk ?_ | refine WPl.rdB ?_)
         | (show WPl _ _ _ _ _ _ _ (⟨_, .indexAddr _ _ _, _, _, _, _⟩ :: _) _; refine WPl.rdX (ReadR.indexE rfl rfl hasA (by first | assumption | omega)) ?_)
         | (show WPl _ _ _ _ _ _ _ (⟨_, .fieldAddr _ _ _, _, _, _, _⟩ :: _) _; refine WPl.rdX (ReadR.fieldE rfl hasA (by first | assumption | omega)) ?_)
         | (show WPl _ _ _ _ _ _ _ (⟨_, .load _ _, _, _, _, _⟩ :: _) _; first | refine WPl.rdX (ReadR.loadE rfl hasA (by assumption)) ?_ | refine WPl.rdX (ReadR.loadES (by assumption) (by first | assumption | omega) rfl hasA) ?_)
         | (show WPl _ _ _ _ _ _ _ (⟨_, .slice _ _ _ _ _, _, _, _, _⟩ :: _) _; first | refine WPl.rdX (ReadR.sliceH rfl rfl hasA (by omega)) ?_ | refine WPl.rdX (ReadR.sliceL rfl rfl hasA (by omega)) ?_ | refine WPl.rdX (ReadR.sliceLH rfl rfl rfl hasA (by omega) (by omega)) ?_)
         | (refine WPl.spQ (fun hc => ?_) (fun hc => ?_) <;> try first | exact prA | (exfalso; first | omega))
         | fail)
        rw [hadd _ hd]
        exact WPq.rnd (q + 1, v43) ⟨hlt, hv43⟩ (by dsimp only; omega)
      | false =>
        rw [hfd] at hd c2
        cases hdq : dq with
        | false =>
          subst hdq
          have hd : dAt K.vw false q = true := hd
          repeat' (first
           | refine WPl.nil ?_ | refine WPq.then ?_ | refine WPq.thenR ?_ | refine WPq.thenE ?_ | refine WPq.blockN ?_ | refine WPq.blockR ?_ | refine WPq.blockE ?_ | refine WPq.blockO rfl ?_ | refine WPc.seq ?_ | refine WPc.block ?_ | refine WPc.ret ?_ | refine WPc.exit ?_ | refine WPc.skip ?_ | refine WPc.region ?_
           | (refine isCond ?_; first | refine WPc.cT ?_ | refine WPc.cF ?_ | (refine WPc.cQ (fun hc => ?_) (fun hc => ?_) <;> try first | exact prA | (exfalso; first | omega)))
           | (refine isD 13 ?_; refine WPl.rdX (ReadR.loadO memA rfl rfl) ?_)
           | (refine isD 16 ?_; refine WPl.rdX (ReadR.loadO memA rfl rfl) ?_)
           | (refine isD 18 ?_; refine WPl.rdX (ReadR.binE rfl rfl BinR.lss (congrArg Value.bool (decide_eq_true hlt'))) ?_)
           | (refine isC 23 ?_; refine WPl.cV cA ?_ (hΔ := provsM))
           | (refine isD 25 ?_; refine WPl.rdX (ReadR.binE rfl rfl BinR.geq (congrArg Value.bool (decide_eq_true (show (i : Int) ≥ 0 by omega)))) ?_)
           | (refine isD 30 ?_; refine WPl.rdX (ReadR.loadO memA rfl rfl) ?_)
           | (refine isD 32 ?_; refine WPl.rdX (ReadR.indexE (i := i) rfl rfl hasA him) ?_)
           | (refine isD 33 ?_; refine WPl.rdX (ReadR.fieldE rfl hasA (by omega)) ?_)
           | (refine isD 34 ?_; refine WPl.rdX (ReadR.loadE rfl hasA c2) ?_)
           | (refine isLit ?_; refine WPl.lits fun w42 hw42 => ?_)
           | (refine isD 43 ?_; refine WPl.appN (m := cur.length) (m2 := 1) (xs := intsV cur) (ys := [Value.int .i64 (q : Int)]) rfl (fun u hu => by rw [List.mem_singleton.1 hu]; rfl) (by omega) fun v43 hv43 => ?_)
           | (refine isOp ?_; first | refine WPl.rd ?_ | refine WPl.sk ?_ | refine WPl.rdB ?_)
           | (show WPl _ _ _ _ _ _ _ (⟨_, .indexAddr _ _ _, _, _, _, _⟩ :: _) _; refine WPl.rdX (ReadR.indexE rfl rfl hasA (by first | assumption | omega)) ?_)
           | (show WPl _ _ _ _ _ _ _ (⟨_, .fieldAddr _ _ _, _, _, _, _⟩ :: _) _; refine WPl.rdX (ReadR.fieldE rfl hasA (by first | assumption | omega)) ?_)
           | (show WPl _ _ _ _ _ _ _ (⟨_, .load _ _, _, _, _, _⟩ :: _) _; first | refine WPl.rdX (ReadR.loadE rfl hasA (by assumption)) ?_ | refine WPl.rdX (ReadR.loadES (by assumption) (by first | assumption | omega) rfl hasA) ?_)
           | (show WPl _ _ _ _ _ _ _ (⟨_, .slice _ _ _ _ _, _, _, _, _⟩ :: _) _; first | refine WPl.rdX (ReadR.sliceH rfl rfl hasA (by omega)) ?_ | refine WPl.rdX (ReadR.sliceL rfl rfl hasA (by omega)) ?_ | refine WPl.rdX (ReadR.sliceLH rfl rfl rfl hasA (by omega) (by omega)) ?_)
           | (refine WPl.spQ (fun hc => ?_) (fun hc => ?_) <;> try first | exact prA | (exfalso; first | omega))
           | fail)
          rw [hadd _ hd]
          exact WPq.rnd (q + 1, v43) ⟨hlt, hv43⟩ (by dsimp only; omega)
        | true =>
          subst hdq
          have hd : dAt K.vw true q = false := hd
          repeat' (first
           | refine WPl.nil ?_ | refine WPq.then ?_ | refine WPq.thenR ?_ | refine WPq.thenE ?_ | refine WPq.blockN ?_ | refine WPq.blockR ?_ | refine WPq.blockE ?_ | refine WPq.blockO rfl ?_ | refine WPc.seq ?_ | refine WPc.block ?_ | refine WPc.ret ?_ | refine WPc.exit ?_ | refine WPc.skip ?_ | refine WPc.region ?_
           | (refine isCond ?_; first | refine WPc.cT ?_ | refine WPc.cF ?_ | (refine WPc.cQ (fun hc => ?_) (fun hc => ?_) <;> try first | exact prA | (exfalso; first | omega)))
           | (refine isD 13 ?_; refine WPl.rdX (ReadR.loadO memA rfl rfl) ?_)
           | (refine isD 16 ?_; refine WPl.rdX (ReadR.loadO memA rfl rfl) ?_)
           | (refine isD 18 ?_; refine WPl.rdX (ReadR.binE rfl rfl BinR.lss (congrArg Value.bool (decide_eq_true hlt'))) ?_)
           | (refine isC 23 ?_; refine WPl.cV cA ?_ (hΔ := provsM))
           | (refine isD 25 ?_; refine WPl.rdX (ReadR.binE rfl rfl BinR.geq (congrArg Value.bool (decide_eq_true (show (i : Int) ≥ 0 by omega)))) ?_)
           | (refine isD 30 ?_; refine WPl.rdX (ReadR.loadO memA rfl rfl) ?_)
           | (refine isD 32 ?_; refine WPl.rdX (ReadR.indexE (i := i) rfl rfl hasA him) ?_)
           | (refine isD 33 ?_; refine WPl.rdX (ReadR.fieldE rfl hasA (by omega)) ?_)
           | (refine isD 34 ?_; refine WPl.rdX (ReadR.loadE rfl hasA c2) ?_)
           | (refine isOp ?_; first | refine WPl.rd ?_ | refine WPl.sk ?_ | refine WPl.rdB ?_)
           | (show WPl _ _ _ _ _ _ _ (⟨_, .indexAddr _ _ _, _, _, _, _⟩ :: _) _; refine WPl.rdX (ReadR.indexE rfl rfl hasA (by first | assumption | omega)) ?_)
           | (show WPl _ _ _ _ _ _ _ (⟨_, .fieldAddr _ _ _, _, _, _, _⟩ :: _) _; refine WPl.rdX (ReadR.fieldE rfl hasA (by first | assumption | omega)) ?_)
           | (show WPl _ _ _ _ _ _ _ (⟨_, .load _ _, _, _, _, _⟩ :: _) _; first | refine WPl.rdX (ReadR.loadE rfl hasA (by assumption)) ?_ | refine WPl.rdX (ReadR.loadES (by assumption) (by first | assumption | omega) rfl hasA) ?_)
           | (show WPl _ _ _ _ _ _ _ (⟨_, .slice _ _ _ _ _, _, _, _, _⟩ :: _) _; first | refine WPl.rdX (ReadR.sliceH rfl rfl hasA (by omega)) ?_ | refine WPl.rdX (ReadR.sliceL rfl rfl hasA (by omega)) ?_ | refine WPl.rdX (ReadR.sliceLH rfl rfl rfl hasA (by omega) (by omega)) ?_)
           | (refine WPl.spQ (fun hc => ?_) (fun hc => ?_) <;> try first | exact prA | (exfalso; first | omega))
           | fail)
          rw [hno hd]
          exact WPq.rnd (q + 1, vo) ⟨hlt, hvo⟩ (by dsimp only; omega)
    | none =>
      have hat : K.vw.at (q : Int) = none := by rw [atK_vw h]; exact hco
      rw [hco] at cA
      have cA : Triple _ _ _ _ (RVal (.int .i64 (-1))) := cA
      have hd : dAt K.vw dq q = false := by unfold dAt; rw [hat]
      repeat' (first
       | refine WPl.nil ?_ | refine WPq.then ?_ | refine WPq.thenR ?_ | refine WPq.thenE ?_ | refine WPq.blockN ?_ | refine WPq.blockR ?_ | refine WPq.blockE ?_ | refine WPq.blockO rfl ?_ | refine WPc.seq ?_ | refine WPc.block ?_ | refine WPc.ret ?_ | refine WPc.exit ?_ | refine WPc.skip ?_ | refine WPc.region ?_
       | (refine isCond ?_; first | refine WPc.cT ?_ | refine WPc.cF ?_ | (refine WPc.cQ (fun hc => ?_) (fun hc => ?_) <;> try first | exact prA | (exfalso; first | omega)))
       | (refine isD 13 ?_; refine WPl.rdX (ReadR.loadO memA rfl rfl) ?_)
       | (refine isD 16 ?_; refine WPl.rdX (ReadR.loadO memA rfl rfl) ?_)
       | (refine isD 18 ?_; refine WPl.rdX (ReadR.binE rfl rfl BinR.lss (congrArg Value.bool (decide_eq_true hlt'))) ?_)
       | (refine isC 23 ?_; refine WPl.cV cA ?_ (hΔ := provsM))
       | (refine isD 25 ?_; refine WPl.rdX (ReadR.binE rfl rfl BinR.geq (congrArg Value.bool (decide_eq_false (show ¬ (-1 : Int) ≥ 0 by omega)))) ?_)
       | (refine isOp ?_; first | refine WPl.rd ?_ | refine WPl.sk ?_ | refine WPl.rdB ?_)
       | (show WPl _ _ _ _ _ _ _ (⟨_, .indexAddr _ _ _, _, _, _, _⟩ :: _) _; refine WPl.rdX (ReadR.indexE rfl rfl hasA (by first | assumption | omega)) ?_)
       | (show WPl _ _ _ _ _ _ _ (⟨_, .fieldAddr _ _ _, _, _, _, _⟩ :: _) _; refine WPl.rdX (ReadR.fieldE rfl hasA (by first | assumption | omega)) ?_)
       | (show WPl _ _ _ _ _ _ _ (⟨_, .load _ _, _, _, _, _⟩ :: _) _; first | refine WPl.rdX (ReadR.loadE rfl hasA (by assumption)) ?_ | refine WPl.rdX (ReadR.loadES (by assumption) (by first | assumption | omega) rfl hasA) ?_)
       | (show WPl _ _ _ _ _ _ _ (⟨_, .slice _ _ _ _ _, _, _, _, _⟩ :: _) _; first | refine WPl.rdX (ReadR.sliceH rfl rfl hasA (by omega)) ?_ | refine WPl.rdX (ReadR.sliceL rfl rfl hasA (by omega)) ?_ | refine WPl.rdX (ReadR.sliceLH rfl rfl rfl hasA (by omega) (by omega)) ?_)
       | (refine WPl.spQ (fun hc => ?_) (fun hc => ?_) <;> try first | exact prA | (exfalso; first | omega))
       | fail)
      rw [hno hd]
      exact WPq.rnd (q + 1, vo) ⟨hlt, hvo⟩ (by dsimp only; omega)
  · have hqn : q = n := by omega
    rw [hqn] at hcur
    rw [hcur]
    have hlt' : ¬ (q : Int) < (R.L.length : Int) := by omega
    repeat' (first
     | refine WPl.nil ?_ | refine WPq.then ?_ | refine WPq.thenR ?_ | refine WPq.thenE ?_ | refine WPq.blockN ?_ | refine WPq.blockR ?_ | refine WPq.blockE ?_ | refine WPq.blockO rfl ?_ | refine WPc.seq ?_ | refine WPc.block ?_ | refine WPc.ret ?_ | refine WPc.exit ?_ | refine WPc.skip ?_ | refine WPc.region ?_
     | (refine isCond ?_; first | refine WPc.cT ?_ | refine WPc.cF ?_ | (refine WPc.cQ (fun hc => ?_) (fun hc => ?_) <;> try first | exact prA | (exfalso; first | omega)))
     | (refine isD 13 ?_; refine WPl.rdX (ReadR.loadO memA rfl rfl) ?_)
     | (refine isD 16 ?_; refine WPl.rdX (ReadR.loadO memA rfl rfl) ?_)
     | (refine isD 18 ?_; refine WPl.rdX (ReadR.binE rfl rfl BinR.lss (congrArg Value.bool (decide_eq_false hlt'))) ?_)
     | (refine isOp ?_; first | refine WPl.rd ?_ | refine WPl.sk ?_ | refine WPl.rdB ?_)
     | (show WPl _ _ _ _ _ _ _ (⟨_, .indexAddr _ _ _, _, _, _, _⟩ :: _) _; refine WPl.rdX (ReadR.indexE rfl rfl hasA (by first | assumption | omega)) ?_)
     | (show WPl _ _ _ _ _ _ _ (⟨_, .fieldAddr _ _ _, _, _, _, _⟩ :: _) _; refine WPl.rdX (ReadR.fieldE rfl hasA (by first | assumption | omega)) ?_)
     | (show WPl _ _ _ _ _ _ _ (⟨_, .load _ _, _, _, _, _⟩ :: _) _; first | refine WPl.rdX (ReadR.loadE rfl hasA (by assumption)) ?_ | refine WPl.rdX (ReadR.loadES (by assumption) (by first | assumption | omega) rfl hasA) ?_)
     | (show WPl _ _ _ _ _ _ _ (⟨_, .slice _ _ _ _ _, _, _, _, _⟩ :: _) _; first | refine WPl.rdX (ReadR.sliceH rfl rfl hasA (by omega)) ?_ | refine WPl.rdX (ReadR.sliceL rfl rfl hasA (by omega)) ?_ | refine WPl.rdX (ReadR.sliceLH rfl rfl rfl hasA (by omega) (by omega)) ?_)
     | (refine WPl.spQ (fun hc => ?_) (fun hc => ?_) <;> try first | exact prA | (exfalso; first | omega))
     | fail)
    exact WPq.dR
theorem rfs_snoc {l : List FR} {f : FR} : rfs l ++ flat (frRC f) = rfs (l ++ [f]) := by
  rw [rfs_app]
  with_unfolding_all (unfold rfs; rw [List.map_singleton]; simp)
def RKNew (gX m : Nat) : Value → List Asn → Prop := fun v Γ => ∃ gY K, v = hC gY ∧ K.vw = ⟨List.replicate m none, 0⟩ ∧ (∀ n rs, KInv n m 0 rs K) ∧ Γ = [bx gY 73 (krc gX K.v (K.hand : Int)), rowN 97 5 K.v K.fs.length (rfs K.fs)]
theorem knew_t (h8 : 8 ≤ m) (hm : m ≤ 64) : Triple Try.prog 41 #[hD gX, .int .i64 (m : Int)] [] (RKNew gX m) := by
  have e1 : rowN 97 5 (.slice none 0 0) 0 [] = rowN 97 5 (.slice none 0 0) 0 (rfs (List.replicate 0 frR0)) := by with_unfolding_all rfl
  have hfz : FOk (frRC frR0) := FRInv.fok (n := 0) (p := 0) (rs := []) .zero
  have hfl : (flat (frRC frR0)).length = 5 := rfl
  refine Triple.enter Try.func41 rfl Try.ntmps41 rfl (fun W => ?_)
  dsimp only [argsF, Nat.reduceAdd]
  repeat' (first
   | refine WPl.nil ?_ | refine WPq.then ?_ | refine WPq.thenR ?_ | refine WPq.thenE ?_ | refine WPq.blockN ?_ | refine WPq.blockR ?_ | refine WPq.blockE ?_ | refine WPq.blockO rfl ?_ | refine WPc.seq ?_ | refine WPc.block ?_ | refine WPc.ret ?_ | refine WPc.exit ?_ | refine WPc.skip ?_ | refine WPc.region ?_
   | (refine isCond ?_; first | refine WPc.cT ?_ | refine WPc.cF ?_ | (refine WPc.cQ (fun hc => ?_) (fun hc => ?_) <;> try exact prA))
   | (refine isD 8 ?_; refine WPl.rdX (ReadR.build (cs' := krc gX (.slice none 0 0) 0) buildA) ?_)
   | (refine isD 9 ?_; refine WPl.boxC (krc gX (.slice none 0 0) 0) (.one1 rfl (.one1 rfl (.one1 rfl .nil))) rfl (fun g9 => ?_))
   | (refine isOp ?_; first | refine WPl.rd ?_ | refine WPl.sk ?_ | refine WPl.rdB ?_)
   | (refine isBx ?_; refine WPl.nw fun g => ?_)
   | (refine isSt ?_; first | refine WPl.st1 ?_ | refine WPl.stA ?_ | refine WPl.stEB ?_ | refine WPl.stRB ?_)
   | (show WPl _ _ _ _ _ _ _ (⟨_, .indexAddr _ _ _, _, _, _, _⟩ :: _) _; refine WPl.rdX (ReadR.indexE rfl rfl hasA (by first | assumption | omega)) ?_)
   | (show WPl _ _ _ _ _ _ _ (⟨_, .fieldAddr _ _ _, _, _, _, _⟩ :: _) _; refine WPl.rdX (ReadR.fieldE rfl hasA (by first | assumption | omega)) ?_)
   | (show WPl _ _ _ _ _ _ _ (⟨_, .load _ _, _, _, _, _⟩ :: _) _; first | refine WPl.rdX (ReadR.loadE rfl hasA (by assumption)) ?_ | refine WPl.rdX (ReadR.loadES (by assumption) (by first | assumption | omega) rfl hasA) ?_)
   | (show WPl _ _ _ _ _ _ _ (⟨_, .slice _ _ _ _ _, _, _, _, _⟩ :: _) _; first | refine WPl.rdX (ReadR.sliceH rfl rfl hasA (by omega)) ?_ | refine WPl.rdX (ReadR.sliceL rfl rfl hasA (by omega)) ?_ | refine WPl.rdX (ReadR.sliceLH rfl rfl rfl hasA (by omega) (by omega)) ?_)
   | (refine WPl.spQ (fun hc => ?_) (fun hc => ?_) <;> try exact prA)
   | fail)
  refine WPc.nilRowN 97 5 ?_
  rw [e1]
  first | refine WPc.loop (σ := Nat × Value) (fun st => st.1 ≤ m ∧ st.2.oneCell' = true) (fun st => [bx g9 73 (krc gX st.2 0), rowN 97 5 st.2 st.1 (rfs (List.replicate st.1 frR0))]) (fun st => [(1, .int .i64 (m : Int)), (5, hC g9), (6, .int .i64 (st.1 : Int))]) (fun st => m - st.1) ((0, .slice none 0 0)) ?_ takesA frsA (fun st km hx hk => ?_)
  · exact ⟨Nat.zero_le _, rfl⟩
  obtain ⟨q, vo⟩ := st
  obtain ⟨hq, hvo⟩ := hx
  dsimp only at hq hvo hk ⊢
  have hkm : km = m - q := hk
  clear hk
  have hLq : (rfs (List.replicate q frR0)).length = q * 5 := by rw [rfs_len, List.length_replicate]
  have hsn : rfs (List.replicate q frR0) ++ flat (frRC frR0) = rfs (List.replicate (q + 1) frR0) := by rw [rfs_snoc, ← List.replicate_succ']
  by_cases hlt : q < m
  · have hlt' : (q : Int) < (m : Int) := by omega
    repeat' (first
     | refine WPl.nil ?_ | refine WPq.then ?_ | refine WPq.thenR ?_ | refine WPq.thenE ?_ | refine WPq.blockN ?_ | refine WPq.blockR ?_ | refine WPq.blockE ?_ | refine WPq.blockO rfl ?_ | refine WPc.seq ?_ | refine WPc.block ?_ | refine WPc.ret ?_ | refine WPc.exit ?_ | refine WPc.skip ?_ | refine WPc.region ?_
     | (refine isCond ?_; first | refine WPc.cT ?_ | refine WPc.cF ?_ | (refine WPc.cQ (fun hc => ?_) (fun hc => ?_) <;> try first | exact prA | (exfalso; first | omega)))
     | (refine isD 12 ?_; refine WPl.rdX (ReadR.binE rfl rfl BinR.lss (congrArg Value.bool (decide_eq_true hlt'))) ?_)
     | (refine isD 20 ?_; refine WPl.rdX (ReadR.build (cs' := frRC frR0) buildA) ?_)
     | (refine isD 21 ?_; refine WPl.litS1 fun w21 hw21 => ?_)
     | (refine isD 22 ?_; refine WPl.appN (m := q) (m2 := 1) (xs := rfs (List.replicate q frR0)) (ys := flat (frRC frR0)) (by rw [hfl]) hfz.one (by omega) fun v22 hv22 => ?_)
     | (refine isOp ?_; first | refine WPl.rd ?_ | refine WPl.sk ?_ | refine WPl.rdB ?_)
     | (refine isBx ?_; refine WPl.nw fun g => ?_)
     | (refine isSt ?_; first | refine WPl.st1 ?_ | refine WPl.stA ?_ | refine WPl.stEB ?_ | refine WPl.stRB ?_)
     | (show WPl _ _ _ _ _ _ _ (⟨_, .indexAddr _ _ _, _, _, _, _⟩ :: _) _; refine WPl.rdX (ReadR.indexE rfl rfl hasA (by first | assumption | omega)) ?_)
     | (show WPl _ _ _ _ _ _ _ (⟨_, .fieldAddr _ _ _, _, _, _, _⟩ :: _) _; refine WPl.rdX (ReadR.fieldE rfl hasA (by first | assumption | omega)) ?_)
     | (show WPl _ _ _ _ _ _ _ (⟨_, .load _ _, _, _, _, _⟩ :: _) _; first | refine WPl.rdX (ReadR.loadE rfl hasA (by assumption)) ?_ | refine WPl.rdX (ReadR.loadES (by assumption) (by first | assumption | omega) rfl hasA) ?_)
     | (show WPl _ _ _ _ _ _ _ (⟨_, .slice _ _ _ _ _, _, _, _, _⟩ :: _) _; first | refine WPl.rdX (ReadR.sliceH rfl rfl hasA (by omega)) ?_ | refine WPl.rdX (ReadR.sliceL rfl rfl hasA (by omega)) ?_ | refine WPl.rdX (ReadR.sliceLH rfl rfl rfl hasA (by omega) (by omega)) ?_)
     | (refine WPl.spQ (fun hc => ?_) (fun hc => ?_) <;> try first | exact prA | (exfalso; first | omega))
     | fail)
    rw [hsn]
    exact WPq.rnd (q + 1, v22) ⟨hlt, hv22⟩ (by dsimp only; omega)
  · have hqn : q = m := by omega
    subst hqn
    have hlt' : ¬ (q : Int) < (q : Int) := by omega
    repeat' (first
     | refine WPl.nil ?_ | refine WPq.then ?_ | refine WPq.thenR ?_ | refine WPq.thenE ?_ | refine WPq.blockN ?_ | refine WPq.blockR ?_ | refine WPq.blockE ?_ | refine WPq.blockO rfl ?_ | refine WPc.seq ?_ | refine WPc.block ?_ | refine WPc.ret ?_ | refine WPc.exit ?_ | refine WPc.skip ?_ | refine WPc.region ?_
     | (refine isCond ?_; first | refine WPc.cT ?_ | refine WPc.cF ?_ | (refine WPc.cQ (fun hc => ?_) (fun hc => ?_) <;> try first | exact prA | (exfalso; first | omega)))
     | (refine isD 12 ?_; refine WPl.rdX (ReadR.binE rfl rfl BinR.lss (congrArg Value.bool (decide_eq_false hlt'))) ?_)
     | (refine isOp ?_; first | refine WPl.rd ?_ | refine WPl.sk ?_ | refine WPl.rdB ?_)
     | (refine isBx ?_; refine WPl.nw fun g => ?_)
     | (refine isSt ?_; first | refine WPl.st1 ?_ | refine WPl.stA ?_ | refine WPl.stEB ?_ | refine WPl.stRB ?_)
     | (show WPl _ _ _ _ _ _ _ (⟨_, .indexAddr _ _ _, _, _, _, _⟩ :: _) _; refine WPl.rdX (ReadR.indexE rfl rfl hasA (by first | assumption | omega)) ?_)
     | (show WPl _ _ _ _ _ _ _ (⟨_, .fieldAddr _ _ _, _, _, _, _⟩ :: _) _; refine WPl.rdX (ReadR.fieldE rfl hasA (by first | assumption | omega)) ?_)
     | (show WPl _ _ _ _ _ _ _ (⟨_, .load _ _, _, _, _, _⟩ :: _) _; first | refine WPl.rdX (ReadR.loadE rfl hasA (by assumption)) ?_ | refine WPl.rdX (ReadR.loadES (by assumption) (by first | assumption | omega) rfl hasA) ?_)
     | (show WPl _ _ _ _ _ _ _ (⟨_, .slice _ _ _ _ _, _, _, _, _⟩ :: _) _; first | refine WPl.rdX (ReadR.sliceH rfl rfl hasA (by omega)) ?_ | refine WPl.rdX (ReadR.sliceL rfl rfl hasA (by omega)) ?_ | refine WPl.rdX (ReadR.sliceLH rfl rfl rfl hasA (by omega) (by omega)) ?_)
     | (refine WPl.spQ (fun hc => ?_) (fun hc => ?_) <;> try first | exact prA | (exfalso; first | omega))
     | fail)
    refine WPq.dX (ho := ownsW) (vs := [hC g9]) [bx g9 73 (krc gX vo 0), rowN 97 5 vo q (rfs (List.replicate q frR0))] ⟨g9, ⟨List.replicate q frR0, 0, vo⟩, rfl, ?_, fun n rs => ⟨hvo, List.length_replicate, by show 0 < q; omega, fun f hf => by rw [List.eq_of_mem_replicate hf]; exact .zero⟩, ?_⟩
    · show Cv.mk _ _ = _
      rw [List.map_replicate, FR.vw_none (f := frR0) (show (-1 : Int) < 0 by omega)]
    · show _ = [_, rowN _ 5 vo (List.replicate q frR0).length _]
      rw [List.length_replicate]; rfl
end
end Go.Proofs.Ytepmikgjnmjheaa
/- Reference of layer 5 (cache): Get, Put without a sector; Sync. -/
namespace Go.Proofs.Ytepmikgjnmjheaa
open Go.RowKit
set_option linter.unusedSimpArgs false
set_option linter.unusedVariables false
set_option maxRecDepth 20000
set_option maxHeartbeats 400000
attribute [local irreducible] WPc WPl WPq ReadR OpT BinR HasS bx rdN rowN Take Takes Prov Triple ResF BuildP Done ag Int.decLt Int.decLe Int.instDecidableEq
attribute [local irreducible] mp rmp rg rgo bag vrow secs mput mget mfind mdel intsV skeys vault pickG fburn fb1 valsV zAt zB vers crashT intsN frs rfs those dl
section
variable (gY gX n m p k : Nat) (K : KS) (R : RfS)
theorem kgetNo_t (no : Int) (h : KInv n m p R.rs K) (hr : RInv n k R) (hn : n ≤ 1600) (hno : no < 0 ∨ (n : Int) ≤ no) :
    Triple Try.prog 66 #[hC gY, .int .i64 no] (krA gY gX K R) (RKGet gY gX n m p k (K.vw, R.vw, [], 1)) := by
  have hnl := hr.nl
  by_cases hneg : no < 0
  · skip
    refine Triple.enter Try.func66 rfl Try.ntmps66 rfl (fun W => ?_)
    dsimp only [argsF, Nat.reduceAdd]
    repeat' (first
     | refine WPl.nil ?_ | refine WPq.then ?_ | refine WPq.thenR ?_ | refine WPq.thenE ?_ | refine WPq.blockN ?_ | refine WPq.blockR ?_ | refine WPq.blockE ?_ | refine WPq.blockO rfl ?_ | refine WPc.seq ?_ | refine WPc.block ?_ | refine WPc.ret ?_ | refine WPc.exit ?_ | refine WPc.skip ?_ | refine WPc.region ?_
     | (refine isCond ?_; first | refine WPc.cT ?_ | refine WPc.cF ?_ | (refine WPc.cQ (fun hc => ?_) (fun hc => ?_) <;> try exact prA))
     | (refine isD 12 ?_; refine WPl.rdX (ReadR.binE rfl rfl BinR.lss (congrArg Value.bool (decide_eq_true hneg))) ?_)
     | (refine isLit ?_; refine WPl.lit fun v25 hv25 => ?_)
     | (refine isOp ?_; first | refine WPl.rd ?_ | refine WPl.sk ?_ | refine WPl.rdB ?_)
     | (refine isSt ?_; first | refine WPl.st1 ?_ | refine WPl.stA ?_ | refine WPl.stEB ?_ | refine WPl.stRB ?_)
     | (show WPl _ _ _ _ _ _ _ (⟨_, .indexAddr _ _ _, _, _, _, _⟩ :: _) _; refine WPl.rdX (ReadR.indexE rfl rfl hasA (by first | assumption | omega)) ?_)
     | (show WPl _ _ _ _ _ _ _ (⟨_, .fieldAddr _ _ _, _, _, _, _⟩ :: _) _; refine WPl.rdX (ReadR.fieldE rfl hasA (by first | assumption | omega)) ?_)
     | (show WPl _ _ _ _ _ _ _ (⟨_, .load _ _, _, _, _, _⟩ :: _) _; first | refine WPl.rdX (ReadR.loadE rfl hasA (by assumption)) ?_ | refine WPl.rdX (ReadR.loadES (by assumption) (by first | assumption | omega) rfl hasA) ?_)
     | (show WPl _ _ _ _ _ _ _ (⟨_, .slice _ _ _ _ _, _, _, _, _⟩ :: _) _; first | refine WPl.rdX (ReadR.sliceH rfl rfl hasA (by omega)) ?_ | refine WPl.rdX (ReadR.sliceL rfl rfl hasA (by omega)) ?_ | refine WPl.rdX (ReadR.sliceLH rfl rfl rfl hasA (by omega) (by omega)) ?_)
     | (refine WPl.spQ (fun hc => ?_) (fun hc => ?_) <;> try exact prA)
     | fail)
    exact WPq.dX (ho := ownsW) (vs := [v25, .int .i64 1]) (ob v25 [] :: krA gY gX K R) ⟨K, R, v25, rfl, hv25, rfl, rfl, h, hr, .inr ⟨by show (1 : Int) ≠ 0; omega, rfl, rfl⟩⟩
  · skip
    refine Triple.enter Try.func66 rfl Try.ntmps66 rfl (fun W => ?_)
    dsimp only [argsF, Nat.reduceAdd]
    repeat' (first
     | refine WPl.nil ?_ | refine WPq.then ?_ | refine WPq.thenR ?_ | refine WPq.thenE ?_ | refine WPq.blockN ?_ | refine WPq.blockR ?_ | refine WPq.blockE ?_ | refine WPq.blockO rfl ?_ | refine WPc.seq ?_ | refine WPc.block ?_ | refine WPc.ret ?_ | refine WPc.exit ?_ | refine WPc.skip ?_ | refine WPc.region ?_
     | (refine isCond ?_; first | refine WPc.cT ?_ | refine WPc.cF ?_ | (refine WPc.cQ (fun hc => ?_) (fun hc => ?_) <;> try exact prA))
     | (refine isD 12 ?_; refine WPl.rdX (ReadR.binE rfl rfl BinR.lss (congrArg Value.bool (decide_eq_false hneg))) ?_)
     | (refine isD 18 ?_; refine WPl.rdX (ReadR.loadO memA rfl rfl) ?_)
     | (refine isD 21 ?_; refine WPl.rdX (ReadR.loadO memA rfl rfl) ?_)
     | (refine isD 23 ?_; refine WPl.rdX (ReadR.binE rfl rfl BinR.geq (congrArg Value.bool (decide_eq_true (show no ≥ (R.L.length : Int) by omega)))) ?_)
     | (refine isLit ?_; refine WPl.lit fun v25 hv25 => ?_)
     | (refine isOp ?_; first | refine WPl.rd ?_ | refine WPl.sk ?_ | refine WPl.rdB ?_)
     | (refine isSt ?_; first | refine WPl.st1 ?_ | refine WPl.stA ?_ | refine WPl.stEB ?_ | refine WPl.stRB ?_)
     | (show WPl _ _ _ _ _ _ _ (⟨_, .indexAddr _ _ _, _, _, _, _⟩ :: _) _; refine WPl.rdX (ReadR.indexE rfl rfl hasA (by first | assumption | omega)) ?_)
     | (show WPl _ _ _ _ _ _ _ (⟨_, .fieldAddr _ _ _, _, _, _, _⟩ :: _) _; refine WPl.rdX (ReadR.fieldE rfl hasA (by first | assumption | omega)) ?_)
     | (show WPl _ _ _ _ _ _ _ (⟨_, .load _ _, _, _, _, _⟩ :: _) _; first | refine WPl.rdX (ReadR.loadE rfl hasA (by assumption)) ?_ | refine WPl.rdX (ReadR.loadES (by assumption) (by first | assumption | omega) rfl hasA) ?_)
     | (show WPl _ _ _ _ _ _ _ (⟨_, .slice _ _ _ _ _, _, _, _, _⟩ :: _) _; first | refine WPl.rdX (ReadR.sliceH rfl rfl hasA (by omega)) ?_ | refine WPl.rdX (ReadR.sliceL rfl rfl hasA (by omega)) ?_ | refine WPl.rdX (ReadR.sliceLH rfl rfl rfl hasA (by omega) (by omega)) ?_)
     | (refine WPl.spQ (fun hc => ?_) (fun hc => ?_) <;> try exact prA)
     | fail)
    exact WPq.dX (ho := ownsW) (vs := [v25, .int .i64 1]) (ob v25 [] :: krA gY gX K R) ⟨K, R, v25, rfl, hv25, rfl, rfl, h, hr, .inr ⟨by show (1 : Int) ≠ 0; omega, rfl, rfl⟩⟩
theorem kputNo_t (no : Int) (bv : Value) (s : Sec) (h : KInv n m p R.rs K) (hr : RInv n k R) (hn : n ≤ 1600) (hno : no < 0 ∨ (n : Int) ≤ no) :
    Triple Try.prog 62 #[hC gY, .int .i64 no, bv] (rb bv s.b :: krA gY gX K R) (RKPut gY gX n m p k (K.vw, R.vw, 1)) := by
  have hnl := hr.nl
  have hsl := s.len
  by_cases hneg : no < 0
  · skip
    refine Triple.enter Try.func62 rfl Try.ntmps62 rfl (fun W => ?_)
    dsimp only [argsF, Nat.reduceAdd]
    repeat' (first
     | refine WPl.nil ?_ | refine WPq.then ?_ | refine WPq.thenR ?_ | refine WPq.thenE ?_ | refine WPq.blockN ?_ | refine WPq.blockR ?_ | refine WPq.blockE ?_ | refine WPq.blockO rfl ?_ | refine WPc.seq ?_ | refine WPc.block ?_ | refine WPc.ret ?_ | refine WPc.exit ?_ | refine WPc.skip ?_ | refine WPc.region ?_
     | (refine isCond ?_; first | refine WPc.cT ?_ | refine WPc.cF ?_ | (refine WPc.cQ (fun hc => ?_) (fun hc => ?_) <;> try exact prA))
     | (refine isD 11 ?_; refine WPl.rdX (ReadR.binE rfl rfl BinR.lss (congrArg Value.bool (decide_eq_true hneg))) ?_)
     | (refine isOp ?_; first | refine WPl.rd ?_ | refine WPl.sk ?_ | refine WPl.rdB ?_)
     | (refine isSt ?_; first | refine WPl.st1 ?_ | refine WPl.stA ?_ | refine WPl.stEB ?_ | refine WPl.stRB ?_)
     | (show WPl _ _ _ _ _ _ _ (⟨_, .indexAddr _ _ _, _, _, _, _⟩ :: _) _; refine WPl.rdX (ReadR.indexE rfl rfl hasA (by first | assumption | omega)) ?_)
     | (show WPl _ _ _ _ _ _ _ (⟨_, .fieldAddr _ _ _, _, _, _, _⟩ :: _) _; refine WPl.rdX (ReadR.fieldE rfl hasA (by first | assumption | omega)) ?_)
     | (show WPl _ _ _ _ _ _ _ (⟨_, .load _ _, _, _, _, _⟩ :: _) _; first | refine WPl.rdX (ReadR.loadE rfl hasA (by assumption)) ?_ | refine WPl.rdX (ReadR.loadES (by assumption) (by first | assumption | omega) rfl hasA) ?_)
     | (show WPl _ _ _ _ _ _ _ (⟨_, .slice _ _ _ _ _, _, _, _, _⟩ :: _) _; first | refine WPl.rdX (ReadR.sliceH rfl rfl hasA (by omega)) ?_ | refine WPl.rdX (ReadR.sliceL rfl rfl hasA (by omega)) ?_ | refine WPl.rdX (ReadR.sliceLH rfl rfl rfl hasA (by omega) (by omega)) ?_)
     | (refine WPl.spQ (fun hc => ?_) (fun hc => ?_) <;> try exact prA)
     | fail)
    exact WPq.dX (ho := ownsW) (vs := [.int .i64 1]) (krA gY gX K R) ⟨K, R, rfl, rfl, rfl, h, hr, rfl⟩
  · skip
    refine Triple.enter Try.func62 rfl Try.ntmps62 rfl (fun W => ?_)
    dsimp only [argsF, Nat.reduceAdd]
    repeat' (first
     | refine WPl.nil ?_ | refine WPq.then ?_ | refine WPq.thenR ?_ | refine WPq.thenE ?_ | refine WPq.blockN ?_ | refine WPq.blockR ?_ | refine WPq.blockE ?_ | refine WPq.blockO rfl ?_ | refine WPc.seq ?_ | refine WPc.block ?_ | refine WPc.ret ?_ | refine WPc.exit ?_ | refine WPc.skip ?_ | refine WPc.region ?_
     | (refine isCond ?_; first | refine WPc.cT ?_ | refine WPc.cF ?_ | (refine WPc.cQ (fun hc => ?_) (fun hc => ?_) <;> try exact prA))
     | (refine isD 11 ?_; refine WPl.rdX (ReadR.binE rfl rfl BinR.lss (congrArg Value.bool (decide_eq_false hneg))) ?_)
     | (refine isD 17 ?_; refine WPl.rdX (ReadR.loadO memA rfl rfl) ?_)
     | (refine isD 20 ?_; refine WPl.rdX (ReadR.loadO memA rfl rfl) ?_)
     | (refine isD 22 ?_; refine WPl.rdX (ReadR.binE rfl rfl BinR.geq (congrArg Value.bool (decide_eq_true (show no ≥ (R.L.length : Int) by omega)))) ?_)
     | (refine isOp ?_; first | refine WPl.rd ?_ | refine WPl.sk ?_ | refine WPl.rdB ?_)
     | (refine isSt ?_; first | refine WPl.st1 ?_ | refine WPl.stA ?_ | refine WPl.stEB ?_ | refine WPl.stRB ?_)
     | (show WPl _ _ _ _ _ _ _ (⟨_, .indexAddr _ _ _, _, _, _, _⟩ :: _) _; refine WPl.rdX (ReadR.indexE rfl rfl hasA (by first | assumption | omega)) ?_)
     | (show WPl _ _ _ _ _ _ _ (⟨_, .fieldAddr _ _ _, _, _, _, _⟩ :: _) _; refine WPl.rdX (ReadR.fieldE rfl hasA (by first | assumption | omega)) ?_)
     | (show WPl _ _ _ _ _ _ _ (⟨_, .load _ _, _, _, _, _⟩ :: _) _; first | refine WPl.rdX (ReadR.loadE rfl hasA (by assumption)) ?_ | refine WPl.rdX (ReadR.loadES (by assumption) (by first | assumption | omega) rfl hasA) ?_)
     | (show WPl _ _ _ _ _ _ _ (⟨_, .slice _ _ _ _ _, _, _, _, _⟩ :: _) _; first | refine WPl.rdX (ReadR.sliceH rfl rfl hasA (by omega)) ?_ | refine WPl.rdX (ReadR.sliceL rfl rfl hasA (by omega)) ?_ | refine WPl.rdX (ReadR.sliceLH rfl rfl rfl hasA (by omega) (by omega)) ?_)
     | (refine WPl.spQ (fun hc => ?_) (fun hc => ?_) <;> try exact prA)
     | fail)
    exact WPq.dX (ho := ownsW) (vs := [.int .i64 1]) (krA gY gX K R) ⟨K, R, rfl, rfl, rfl, h, hr, rfl⟩
end
structure SyInv (n m p k : Nat) (r : Cv × Dv × Int) (st : Nat × KS × RfS) : Prop where
  le : st.1 ≤ n
  ki : KInv n m p st.2.2.rs st.2.1
  ri : RInv n (k + st.1) st.2.2
  uq : Uq st.2.1.vw
  eq : r = syncL (dl n st.1 st.2.1.vw) st.2.1.vw st.2.2.vw
section
variable (gY gX n m p k : Nat) (K0 : KS) (R0 : RfS)
theorem ksync_t (h0 : KInv n m p R0.rs K0) (hr0 : RInv n k R0) (hu : Uq K0.vw) (hd : K0.vw.dirty = those n K0.vw true) (hn : n ≤ 1600) (hm : m ≤ 64) (hkb : k ≤ 80000) :
    Triple Try.prog 65 #[hC gY] (krA gY gX K0 R0) (RKPut gY gX n m p (k + n) (K0.vw.sync R0.vw)) := by
  have he0 : K0.vw.sync R0.vw = syncL (dl n 0 K0.vw) K0.vw R0.vw := by
    unfold Cv.sync
    rw [hd, dl_zero]
  obtain ⟨r, hr⟩ : ∃ r, r = K0.vw.sync R0.vw := ⟨_, rfl⟩
  rw [← hr]
  rw [he0] at hr
  refine Triple.enter Try.func65 rfl Try.ntmps65 rfl (fun W => ?_)
  dsimp only [argsF, Nat.reduceAdd]
  repeat' (first
   | refine WPl.nil ?_ | refine WPq.then ?_ | refine WPq.thenR ?_ | refine WPq.thenE ?_ | refine WPq.blockN ?_ | refine WPq.blockR ?_ | refine WPq.blockE ?_ | refine WPq.blockO rfl ?_ | refine WPc.seq ?_ | refine WPc.block ?_ | refine WPc.ret ?_ | refine WPc.exit ?_ | refine WPc.skip ?_ | refine WPc.region ?_
   | (refine isCond ?_; first | refine WPc.cT ?_ | refine WPc.cF ?_ | (refine WPc.cQ (fun hc => ?_) (fun hc => ?_) <;> try exact prA))
   | (refine isOp ?_; first | refine WPl.rd ?_ | refine WPl.sk ?_ | refine WPl.rdB ?_)
   | (refine isSt ?_; first | refine WPl.st1 ?_ | refine WPl.stA ?_ | refine WPl.stEB ?_ | refine WPl.stRB ?_)
   | (show WPl _ _ _ _ _ _ _ (⟨_, .indexAddr _ _ _, _, _, _, _⟩ :: _) _; refine WPl.rdX (ReadR.indexE rfl rfl hasA (by first | assumption | omega)) ?_)
   | (show WPl _ _ _ _ _ _ _ (⟨_, .fieldAddr _ _ _, _, _, _, _⟩ :: _) _; refine WPl.rdX (ReadR.fieldE rfl hasA (by first | assumption | omega)) ?_)
   | (show WPl _ _ _ _ _ _ _ (⟨_, .load _ _, _, _, _, _⟩ :: _) _; first | refine WPl.rdX (ReadR.loadE rfl hasA (by assumption)) ?_ | refine WPl.rdX (ReadR.loadES (by assumption) (by first | assumption | omega) rfl hasA) ?_)
   | (show WPl _ _ _ _ _ _ _ (⟨_, .slice _ _ _ _ _, _, _, _, _⟩ :: _) _; first | refine WPl.rdX (ReadR.sliceH rfl rfl hasA (by omega)) ?_ | refine WPl.rdX (ReadR.sliceL rfl rfl hasA (by omega)) ?_ | refine WPl.rdX (ReadR.sliceLH rfl rfl rfl hasA (by omega) (by omega)) ?_)
   | (refine WPl.spQ (fun hc => ?_) (fun hc => ?_) <;> try exact prA)
   | fail)
  first | refine WPc.loop (σ := Nat × KS × RfS) (fun st => SyInv n m p k r st) (fun st => [bx gY 73 (krc gX st.2.1.v (st.2.1.hand : Int)), rowN 97 5 st.2.1.v st.2.1.fs.length (rfs st.2.1.fs), bx gX 51 (rdc st.2.2.vL st.2.2.vA st.2.2.vB st.2.2.fu st.2.2.wr), rowN 31 1 st.2.2.vL st.2.2.L.length (valsV st.2.2.L), rowN 3 1 st.2.2.vA st.2.2.Z.length (intsV (zAt st.2.2.Z)), rowN 31 1 st.2.2.vB st.2.2.Z.length (valsV (zB st.2.2.Z)), vault st.2.2.rs]) (fun st => [(0, hC gY), (3, .int .i64 (st.1 : Int))]) (fun st => n - st.1) ((0, K0, R0)) ?_ takesA frsA (fun st km hx hk => ?_)
  · exact ⟨Nat.zero_le _, h0, hr0, hu, hr⟩
  clear hd he0 hr h0 hr0 hu
  obtain ⟨q, K, R⟩ := st
  obtain ⟨hq, h, hr, hu, heq⟩ := hx
  dsimp only at hq h hr hu heq hk ⊢
  have hkm : km = n - q := hk
  clear hk
  have hlen := h.len
  have hnl := hr.nl
  have hL := rfs_len (l := K.fs)
  have cA := kat_t gY gX K.v (K.hand : Int) K.fs (q : Int) (by omega)
  by_cases hlt : q < n
  · have hlt' : (q : Int) < (R.L.length : Int) := by omega
    cases hco : atK K.fs (q : Int) with
    | none =>
      have hat : K.vw.at (q : Int) = none := by rw [atK_vw h]; exact hco
      rw [hco] at cA
      have cA : Triple _ _ _ _ (RVal (.int .i64 (-1))) := cA
      have hd : dAt K.vw true q = false := by unfold dAt; rw [hat]
      repeat' (first
       | refine WPl.nil ?_ | refine WPq.then ?_ | refine WPq.thenR ?_ | refine WPq.thenE ?_ | refine WPq.blockN ?_ | refine WPq.blockR ?_ | refine WPq.blockE ?_ | refine WPq.blockO rfl ?_ | refine WPc.seq ?_ | refine WPc.block ?_ | refine WPc.ret ?_ | refine WPc.exit ?_ | refine WPc.skip ?_ | refine WPc.region ?_
       | (refine isCond ?_; first | refine WPc.cT ?_ | refine WPc.cF ?_ | (refine WPc.cQ (fun hc => ?_) (fun hc => ?_) <;> try first | exact prA | (exfalso; first | omega)))
       | (refine isD 10 ?_; refine WPl.rdX (ReadR.loadO memA rfl rfl) ?_)
       | (refine isD 13 ?_; refine WPl.rdX (ReadR.loadO memA rfl rfl) ?_)
       | (refine isD 15 ?_; refine WPl.rdX (ReadR.binE rfl rfl BinR.lss (congrArg Value.bool (decide_eq_true hlt'))) ?_)
       | (refine isC 20 ?_; refine WPl.cV cA ?_ (hΔ := provsW))
       | (refine isD 22 ?_; refine WPl.rdX (ReadR.binE rfl rfl BinR.lss (congrArg Value.bool (decide_eq_true (show (-1 : Int) < 0 by omega)))) ?_)
       | (refine isOp ?_; first | refine WPl.rd ?_ | refine WPl.sk ?_ | refine WPl.rdB ?_)
       | (refine isSt ?_; first | refine WPl.st1 ?_ | refine WPl.stA ?_ | refine WPl.stEB ?_ | refine WPl.stRB ?_)
       | (show WPl _ _ _ _ _ _ _ (⟨_, .indexAddr _ _ _, _, _, _, _⟩ :: _) _; refine WPl.rdX (ReadR.indexE rfl rfl hasA (by first | assumption | omega)) ?_)
       | (show WPl _ _ _ _ _ _ _ (⟨_, .fieldAddr _ _ _, _, _, _, _⟩ :: _) _; refine WPl.rdX (ReadR.fieldE rfl hasA (by first | assumption | omega)) ?_)
       | (show WPl _ _ _ _ _ _ _ (⟨_, .load _ _, _, _, _, _⟩ :: _) _; first | refine WPl.rdX (ReadR.loadE rfl hasA (by assumption)) ?_ | refine WPl.rdX (ReadR.loadES (by assumption) (by first | assumption | omega) rfl hasA) ?_)
       | (show WPl _ _ _ _ _ _ _ (⟨_, .slice _ _ _ _ _, _, _, _, _⟩ :: _) _; first | refine WPl.rdX (ReadR.sliceH rfl rfl hasA (by omega)) ?_ | refine WPl.rdX (ReadR.sliceL rfl rfl hasA (by omega)) ?_ | refine WPl.rdX (ReadR.sliceLH rfl rfl rfl hasA (by omega) (by omega)) ?_)
       | (refine WPl.spQ (fun hc => ?_) (fun hc => ?_) <;> try first | exact prA | (exfalso; first | omega))
       | fail)
      exact WPq.rnd (q + 1, K, R) ⟨hlt, h, hr.mono (Nat.le_succ _), hu, by rw [heq, dl_no hlt hd]⟩ (by dsimp only; omega)
    | some i =>
      obtain ⟨f, hf, hfno, hf0, hfi, hin, him, hat, hfv⟩ := atK_hit h hco
      rw [hco] at cA
      have cA : Triple _ _ _ _ (RVal (.int .i64 (i : Int))) := cA
      have c2 : (rfs K.fs)[i * 5 + 2]? = some (.bool f.dirty) := rfs_cell hf (by omega)
      have c4 : (rfs K.fs)[i * 5 + 4]? = some f.v := rfs_cell hf (by omega)
      have hd : dAt K.vw true q = (f.dirty || !true) := by unfold dAt; rw [hat]; dsimp only; rw [hfv]
      cases hfd : f.dirty with
      | false =>
        rw [hfd] at hd c2
        have hd : dAt K.vw true q = false := hd
        repeat' (first
         | refine WPl.nil ?_ | refine WPq.then ?_ | refine WPq.thenR ?_ | refine WPq.thenE ?_ | refine WPq.blockN ?_ | refine WPq.blockR ?_ | refine WPq.blockE ?_ | refine WPq.blockO rfl ?_ | refine WPc.seq ?_ | refine WPc.block ?_ | refine WPc.ret ?_ | refine WPc.exit ?_ | refine WPc.skip ?_ | refine WPc.region ?_
         | (refine isCond ?_; first | refine WPc.cT ?_ | refine WPc.cF ?_ | (refine WPc.cQ (fun hc => ?_) (fun hc => ?_) <;> try first | exact prA | (exfalso; first | omega)))
         | (refine isD 10 ?_; refine WPl.rdX (ReadR.loadO memA rfl rfl) ?_)
         | (refine isD 13 ?_; refine WPl.rdX (ReadR.loadO memA rfl rfl) ?_)
         | (refine isD 15 ?_; refine WPl.rdX (ReadR.binE rfl rfl BinR.lss (congrArg Value.bool (decide_eq_true hlt'))) ?_)
         | (refine isC 20 ?_; refine WPl.cV cA ?_ (hΔ := provsW))
         | (refine isD 22 ?_; refine WPl.rdX (ReadR.binE rfl rfl BinR.lss (congrArg Value.bool (decide_eq_false (show ¬ (i : Int) < 0 by omega)))) ?_)
         | (refine isD 29 ?_; refine WPl.rdX (ReadR.indexE (i := i) rfl rfl hasA him) ?_)
         | (refine isD 30 ?_; refine WPl.rdX (ReadR.fieldE rfl hasA (by omega)) ?_)
         | (refine isD 31 ?_; refine WPl.rdX (ReadR.loadE rfl hasA c2) ?_)
         | (refine isOp ?_; first | refine WPl.rd ?_ | refine WPl.sk ?_ | refine WPl.rdB ?_)
         | (refine isSt ?_; first | refine WPl.st1 ?_ | refine WPl.stA ?_ | refine WPl.stEB ?_ | refine WPl.stRB ?_)
         | (show WPl _ _ _ _ _ _ _ (⟨_, .indexAddr _ _ _, _, _, _, _⟩ :: _) _; refine WPl.rdX (ReadR.indexE rfl rfl hasA (by first | assumption | omega)) ?_)
         | (show WPl _ _ _ _ _ _ _ (⟨_, .fieldAddr _ _ _, _, _, _, _⟩ :: _) _; refine WPl.rdX (ReadR.fieldE rfl hasA (by first | assumption | omega)) ?_)
         | (show WPl _ _ _ _ _ _ _ (⟨_, .load _ _, _, _, _, _⟩ :: _) _; first | refine WPl.rdX (ReadR.loadE rfl hasA (by assumption)) ?_ | refine WPl.rdX (ReadR.loadES (by assumption) (by first | assumption | omega) rfl hasA) ?_)
         | (show WPl _ _ _ _ _ _ _ (⟨_, .slice _ _ _ _ _, _, _, _, _⟩ :: _) _; first | refine WPl.rdX (ReadR.sliceH rfl rfl hasA (by omega)) ?_ | refine WPl.rdX (ReadR.sliceL rfl rfl hasA (by omega)) ?_ | refine WPl.rdX (ReadR.sliceLH rfl rfl rfl hasA (by omega) (by omega)) ?_)
         | (refine WPl.spQ (fun hc => ?_) (fun hc => ?_) <;> try first | exact prA | (exfalso; first | omega))
         | fail)
        exact WPq.rnd (q + 1, K, R) ⟨hlt, h, hr.mono (Nat.le_succ _), hu, by rw [heq, dl_no hlt hd]⟩ (by dsimp only; omega)
      | true =>
        rw [hfd] at hd c2
        have hd : dAt K.vw true q = true := hd
        rw [dl_yes hlt hd] at heq
        obtain ⟨g', hg'⟩ : ∃ g' : Fp, g' = ⟨f.no, f.pins, false, f.used, f.s⟩ := ⟨_, rfl⟩
        have hgn : g'.no = f.no := by rw [hg']
        have hsy : r = if (R.vw.wr q f.s).2 = 0 then syncL (dl n (q + 1) (setF K.vw i (some g'))) (setF K.vw i (some g')) (R.vw.wr q f.s).1 else (K.vw, (R.vw.wr q f.s).1, (R.vw.wr q f.s).2) := by
          rw [heq]
          show (match K.vw.at (q : Int) with | some i => _ | none => _) = _
          rw [hat]
          dsimp only
          rw [hfv, dl_set hu hfv hfno hgn, hg']
          rfl
        clear heq
        have c47 := rwrV_t gX n (k + q) R q f.v f.s hin hr (by omega) (by omega) hlt
        obtain ⟨D1, hD1⟩ : ∃ D1, D1 = (R.vw.wr q f.s).1 := ⟨_, rfl⟩
        obtain ⟨er, her⟩ : ∃ er, er = (R.vw.wr q f.s).2 := ⟨_, rfl⟩
        rw [← hD1, ← her] at c47 hsy
        have hv47 : ∀ v Γ', RRk gX n (k + q + 1) (.int .i64 er) D1 R.rs v Γ' → v = .int .i64 er ∧ ∃ s : RfS, Γ' = rsA gX s ∧ (s.vw = D1 ∧ RInv n (k + q + 1) s ∧ ∀ r ∈ R.rs, r ∈ s.rs) := fun v Γ' ⟨S', h1, h2, h3, h4, h5⟩ => ⟨h1, S', h5, h2, h3, h4⟩
        by_cases he : er = 0
        · rw [if_pos he] at hsy
          obtain ⟨f', hf'⟩ : ∃ f' : FR, f' = { f with dirty := false } := ⟨_, rfl⟩
          have hf'n : ¬ f'.no < 0 := by rw [hf']; show ¬ f.no < 0; omega
          have hf'v : f'.vw = some g' := by rw [FR.vw_some hf'n, hf', hg']
          have hs := rfs_1 (f' := f') (o := 2) (u := .bool false) hf (by omega) (by rw [hf']; rfl)
          have hsv : (⟨K.fs.set i f', K.hand, K.v⟩ : KS).vw = setF K.vw i (some g') := by
            show Cv.mk _ _ = setF _ _ _
            rw [List.map_set, hf'v]; rfl
          rw [← hsv] at hsy
          have hu' : Uq (⟨K.fs.set i f', K.hand, K.v⟩ : KS).vw := by rw [hsv]; exact (subN_hit hfv hgn).uq hu
          repeat' (first
           | refine WPl.nil ?_ | refine WPq.then ?_ | refine WPq.thenR ?_ | refine WPq.thenE ?_ | refine WPq.blockN ?_ | refine WPq.blockR ?_ | refine WPq.blockE ?_ | refine WPq.blockO rfl ?_ | refine WPc.seq ?_ | refine WPc.block ?_ | refine WPc.ret ?_ | refine WPc.exit ?_ | refine WPc.skip ?_ | refine WPc.region ?_
           | (refine isReg 6 ?_; refine WPc.drA [([15, 16, 17, 18, 19], [38, 39, 40, 41, 42, 43, 44, 45, 46]), ([0, 15, 16, 17, 18, 19], [34, 38, 39, 40, 41, 42, 43, 44, 45, 46]), ([0, 1, 15, 16, 17, 18, 19], [34, 35, 38, 39, 40, 41, 42, 43, 44, 45, 46]), ([0, 1, 2, 15, 16, 17, 18, 19], [34, 35, 36, 38, 39, 40, 41, 42, 43, 44, 45, 46]), ([15, 16, 17, 18, 19], [34, 35, 36, 37, 39, 40, 41, 42, 43, 44, 45, 46]), ([15, 16, 17, 18, 19], [34, 35, 36, 37, 38, 43]), ([5, 15, 16, 17, 18, 19], [34, 35, 36, 37, 38, 39, 43]), ([5, 6, 15, 16, 17, 18, 19], [34, 35, 36, 37, 38, 39, 40, 43]), ([5, 6, 7, 15, 16, 17, 18, 19], [34, 35, 36, 37, 38, 39, 40, 41, 43]), ([15, 16, 17, 18, 19], [34, 35, 36, 37, 38, 39, 40, 41, 42]), ([5, 6, 7, 8, 9, 15, 16, 17, 18, 19], [34, 35, 36, 37, 38, 39, 40, 41, 42, 43]), ([5, 6, 7, 8, 9, 10, 15, 16, 17, 18, 19], [34, 35, 36, 37, 38, 39, 40, 41, 42, 43, 44]), ([5, 6, 7, 8, 9, 10, 11, 15, 16, 17, 18, 19], [34, 35, 36, 37, 38, 39, 40, 41, 42, 43, 44, 45]), ([0, 1, 2, 3, 4, 5, 6, 7, 8, 9, 10, 11, 12, 15, 16, 17, 18, 19], [34, 35, 36, 37, 38, 39, 40, 41, 42, 43, 44, 45, 46]), ([0, 1, 2, 3, 4, 5, 6, 7, 8, 9, 10, 11, 12, 13, 15, 16, 17, 18, 19], [34, 35, 36, 37, 38, 39, 40, 41, 42, 43, 44, 45, 46, 47])] [(15, 13), (16, 13), (17, 13), (18, 13), (19, 13), (15, 0), (15, 1), (15, 2), (15, 3), (15, 4), (15, 5), (15, 6), (15, 7), (15, 8), (15, 9), (15, 10), (15, 11), (15, 12), (16, 0), (16, 1), (16, 2), (16, 3), (16, 4), (16, 5), (16, 6), (16, 7), (16, 8), (16, 9), (16, 10), (16, 11), (16, 12), (17, 0), (17, 1), (17, 2), (17, 3), (17, 4), (17, 5), (17, 6), (17, 7), (17, 8), (17, 9), (17, 10), (17, 11), (17, 12), (18, 0), (18, 1), (18, 2), (18, 3), (18, 4), (18, 5), (18, 6), (18, 7), (18, 8), (18, 9), (18, 10), (18, 11), (18, 12), (19, 0), (19, 1), (19, 2), (19, 3), (19, 4), (19, 5), (19, 6), (19, 7), (19, 8), (19, 9), (19, 10), (19, 11), (19, 12)] (Γx := [bx gX 51 (rdc R.vL R.vA R.vB R.fu R.wr), rowN 31 1 R.vL R.L.length (valsV R.L), rowN 3 1 R.vA R.Z.length (intsV (zAt R.Z)), rowN 31 1 R.vB R.Z.length (valsV (zB R.Z)), vault R.rs]) (hox := ownsW) ?_; dsimp only [prev0, List.length_nil, List.length_cons])
           | (refine gAny ?_; first | (refine gD 10 ?_; refine RGl.rdX (fun e hk => by (try dsimp only [bndR, ensR, oksR, fcutR, List.append_nil, List.nil_append, List.cons_append, List.append_assoc] at hk ⊢); exact ReadR.loadO memA rfl rfl) ?_) | (refine gD 13 ?_; refine RGl.rdX (fun e hk => by (try dsimp only [bndR, ensR, oksR, fcutR, List.append_nil, List.nil_append, List.cons_append, List.append_assoc] at hk ⊢); exact ReadR.loadO memA rfl rfl) ?_) | (refine gD 15 ?_; refine RGl.rdX (fun e hk => by (try dsimp only [bndR, ensR, oksR, fcutR, List.append_nil, List.nil_append, List.cons_append, List.append_assoc] at hk ⊢); exact ReadR.binE rfl rfl BinR.lss (congrArg Value.bool (decide_eq_true hlt'))) ?_) | (refine gD 22 ?_; refine RGl.rdX (fun e hk => by (try dsimp only [bndR, ensR, oksR, fcutR, List.append_nil, List.nil_append, List.cons_append, List.append_assoc] at hk ⊢); exact ReadR.binE rfl rfl BinR.lss (congrArg Value.bool (decide_eq_false (show ¬ (i : Int) < 0 by omega)))) ?_) | (refine gD 29 ?_; refine RGl.rdX (fun e hk => by (try dsimp only [bndR, ensR, oksR, fcutR, List.append_nil, List.nil_append, List.cons_append, List.append_assoc] at hk ⊢); exact ReadR.indexE (i := i) rfl rfl hasA him) ?_) | (refine gD 30 ?_; refine RGl.rdX (fun e hk => by (try dsimp only [bndR, ensR, oksR, fcutR, List.append_nil, List.nil_append, List.cons_append, List.append_assoc] at hk ⊢); exact ReadR.fieldE rfl hasA (by omega)) ?_) | (refine gD 31 ?_; refine RGl.rdX (fun e hk => by (try dsimp only [bndR, ensR, oksR, fcutR, List.append_nil, List.nil_append, List.cons_append, List.append_assoc] at hk ⊢); exact ReadR.loadE rfl hasA c2) ?_) | (refine gD 44 ?_; refine RGl.rdX (fun e hk => by (try dsimp only [bndR, ensR, oksR, fcutR, List.append_nil, List.nil_append, List.cons_append, List.append_assoc] at hk ⊢); exact ReadR.indexE (i := i) rfl rfl hasA him) ?_) | (refine gD 45 ?_; refine RGl.rdX (fun e hk => by (try dsimp only [bndR, ensR, oksR, fcutR, List.append_nil, List.nil_append, List.cons_append, List.append_assoc] at hk ⊢); exact ReadR.fieldE rfl hasA (by omega)) ?_) | (refine gD 46 ?_; refine RGl.rdX (fun e hk => by (try dsimp only [bndR, ensR, oksR, fcutR, List.append_nil, List.nil_append, List.cons_append, List.append_assoc] at hk ⊢); exact ReadR.loadE rfl hasA c4) ?_) | (refine gOp ?_; (refine gC 47 ?_; refine RGl.relG (.int .i64 er) (fun s : RfS => rsA gX s) (fun s => s.vw = D1 ∧ RInv n (k + q + 1) s ∧ ∀ r ∈ R.rs, r ∈ s.rs) hv47 (fun e hk => by (try dsimp only [bndR, ensR, oksR, fcutR, List.append_nil, List.nil_append, List.cons_append, List.append_assoc] at hk ⊢); exact OpT.callTs c47) ?_)) | (refine gD 49 ?_; refine RGl.rdX (fun e hk => by (try dsimp only [bndR, ensR, oksR, fcutR, List.append_nil, List.nil_append, List.cons_append, List.append_assoc] at hk ⊢); exact ReadR.binE rfl rfl BinR.neq (congrArg (fun q => Value.bool (!q)) (decide_eq_true he))) ?_) | (refine gD 56 ?_; refine RGl.rdX (fun e hk => by (try dsimp only [bndR, ensR, oksR, fcutR, List.append_nil, List.nil_append, List.cons_append, List.append_assoc] at hk ⊢); exact ReadR.indexE (i := i) rfl rfl hasA him) ?_) | (refine gD 57 ?_; refine RGl.rdX (fun e hk => by (try dsimp only [bndR, ensR, oksR, fcutR, List.append_nil, List.nil_append, List.cons_append, List.append_assoc] at hk ⊢); exact ReadR.fieldE rfl hasA (by omega)) ?_) | (refine gOp ?_; first | refine RGl.rdA ?_ | refine RGl.rdX (fun e hk => by (try dsimp only [bndR, ensR, oksR, fcutR, List.append_nil, List.nil_append, List.cons_append, List.append_assoc] at hk ⊢); exact readB) ?_) | (refine RGl.fin (fun e hk => ?_); (try dsimp only [bndA, ensAR, oksA, List.append_nil, List.nil_append, List.cons_append, List.append_assoc] at hk ⊢); (repeat (obtain ⟨hk1, hk⟩ := hk))) | fail)
           | (refine isCond ?_; first | refine WPc.cT ?_ | refine WPc.cF ?_ | (refine WPc.cQ (fun hc => ?_) (fun hc => ?_) <;> try first | exact prA | (exfalso; first | omega)))
           | (refine isD 10 ?_; refine WPl.rdX (ReadR.loadO memA rfl rfl) ?_)
           | (refine isD 13 ?_; refine WPl.rdX (ReadR.loadO memA rfl rfl) ?_)
           | (refine isD 15 ?_; refine WPl.rdX (ReadR.binE rfl rfl BinR.lss (congrArg Value.bool (decide_eq_true hlt'))) ?_)
           | (refine isC 20 ?_; refine WPl.cV cA ?_ (hΔ := provsW))
           | (refine isD 22 ?_; refine WPl.rdX (ReadR.binE rfl rfl BinR.lss (congrArg Value.bool (decide_eq_false (show ¬ (i : Int) < 0 by omega)))) ?_)
           | (refine isD 29 ?_; refine WPl.rdX (ReadR.indexE (i := i) rfl rfl hasA him) ?_)
           | (refine isD 30 ?_; refine WPl.rdX (ReadR.fieldE rfl hasA (by omega)) ?_)
           | (refine isD 31 ?_; refine WPl.rdX (ReadR.loadE rfl hasA c2) ?_)
           | (refine isD 44 ?_; refine WPl.rdX (ReadR.indexE (i := i) rfl rfl hasA him) ?_)
           | (refine isD 45 ?_; refine WPl.rdX (ReadR.fieldE rfl hasA (by omega)) ?_)
           | (refine isD 46 ?_; refine WPl.rdX (ReadR.loadE rfl hasA c4) ?_)
           | (refine isD 49 ?_; refine WPl.rdX (ReadR.binE rfl rfl BinR.neq (congrArg (fun q => Value.bool (!q)) (decide_eq_true he))) ?_)
           | (refine isD 56 ?_; refine WPl.rdX (ReadR.indexE (i := i) rfl rfl hasA him) ?_)
           | (refine isD 57 ?_; refine WPl.rdX (ReadR.fieldE rfl hasA (by omega)) ?_)
           | (show WPl _ _ _ _ _ _ _ (⟨_, .store _ (.tmp 57) _, _, _, _, _⟩ :: _) _; refine WPl.stEN (i := i * 5 + 2) (m := K.fs.length) (xs := rfs K.fs) (by omega) ?_; rw [hs])
           | (refine isOp ?_; first | refine WPl.rd ?_ | refine WPl.sk ?_ | refine WPl.rdB ?_)
           | (refine isSt ?_; first | refine WPl.st1 ?_ | refine WPl.stA ?_ | refine WPl.stEB ?_ | refine WPl.stRB ?_)
           | (show WPl _ _ _ _ _ _ _ (⟨_, .indexAddr _ _ _, _, _, _, _⟩ :: _) _; refine WPl.rdX (ReadR.indexE rfl rfl hasA (by first | assumption | omega)) ?_)
           | (show WPl _ _ _ _ _ _ _ (⟨_, .fieldAddr _ _ _, _, _, _, _⟩ :: _) _; refine WPl.rdX (ReadR.fieldE rfl hasA (by first | assumption | omega)) ?_)
           | (show WPl _ _ _ _ _ _ _ (⟨_, .load _ _, _, _, _, _⟩ :: _) _; first | refine WPl.rdX (ReadR.loadE rfl hasA (by assumption)) ?_ | refine WPl.rdX (ReadR.loadES (by assumption) (by first | assumption | omega) rfl hasA) ?_)
           | (show WPl _ _ _ _ _ _ _ (⟨_, .slice _ _ _ _ _, _, _, _, _⟩ :: _) _; first | refine WPl.rdX (ReadR.sliceH rfl rfl hasA (by omega)) ?_ | refine WPl.rdX (ReadR.sliceL rfl rfl hasA (by omega)) ?_ | refine WPl.rdX (ReadR.sliceLH rfl rfl rfl hasA (by omega) (by omega)) ?_)
           | (refine WPl.spQ (fun hc => ?_) (fun hc => ?_) <;> try first | exact prA | (exfalso; first | omega))
           | fail)
          have hA : (fun s => s.vw = D1 ∧ RInv n (k + q + 1) s ∧ ∀ r ∈ R.rs, r ∈ s.rs) (pickG (fun s : RfS => rsA gX s) (fun s => s.vw = D1 ∧ RInv n (k + q + 1) s ∧ ∀ r ∈ R.rs, r ∈ s.rs) (e 13).2) := by assumption
          obtain ⟨T, hT⟩ : ∃ T, T = (pickG (fun s : RfS => rsA gX s) (fun s => s.vw = D1 ∧ RInv n (k + q + 1) s ∧ ∀ r ∈ R.rs, r ∈ s.rs) (e 13).2) := ⟨_, rfl⟩
          rw [← hT] at hA
          obtain ⟨hA1, hA2, hA3⟩ := hA
          dsimp only [Nat.reduceAdd]
          rw [← hT]
          rw [show K.fs.length = (K.fs.set i f').length by rw [List.length_set]]
          have hfi' : FRInv n p T.rs f' := by rw [hf']; exact ⟨hfi.one, fun hh => ⟨(hfi.here hh).1, hA3 _ (hfi.here hh).2⟩, fun h9 => absurd h9 (by show ¬ f.no < 0; omega), hfi.pin0, hfi.pin1⟩
          exact WPq.rnd (q + 1, ⟨K.fs.set i f', K.hand, K.v⟩, T) ⟨hlt, (h.more hA3).set hfi' h.hand, hA2, hu', by rw [hsy, hA1]⟩ (by dsimp only; omega)
        · rw [if_neg he] at hsy
          rw [hsy]
          repeat' (first
           | refine WPl.nil ?_ | refine WPq.then ?_ | refine WPq.thenR ?_ | refine WPq.thenE ?_ | refine WPq.blockN ?_ | refine WPq.blockR ?_ | refine WPq.blockE ?_ | refine WPq.blockO rfl ?_ | refine WPc.seq ?_ | refine WPc.block ?_ | refine WPc.ret ?_ | refine WPc.exit ?_ | refine WPc.skip ?_ | refine WPc.region ?_
           | (refine isReg 6 ?_; refine WPc.drA [([15, 16, 17, 18, 19], [38, 39, 40, 41, 42, 43, 44, 45, 46]), ([0, 15, 16, 17, 18, 19], [34, 38, 39, 40, 41, 42, 43, 44, 45, 46]), ([0, 1, 15, 16, 17, 18, 19], [34, 35, 38, 39, 40, 41, 42, 43, 44, 45, 46]), ([0, 1, 2, 15, 16, 17, 18, 19], [34, 35, 36, 38, 39, 40, 41, 42, 43, 44, 45, 46]), ([15, 16, 17, 18, 19], [34, 35, 36, 37, 39, 40, 41, 42, 43, 44, 45, 46]), ([15, 16, 17, 18, 19], [34, 35, 36, 37, 38, 43]), ([5, 15, 16, 17, 18, 19], [34, 35, 36, 37, 38, 39, 43]), ([5, 6, 15, 16, 17, 18, 19], [34, 35, 36, 37, 38, 39, 40, 43]), ([5, 6, 7, 15, 16, 17, 18, 19], [34, 35, 36, 37, 38, 39, 40, 41, 43]), ([15, 16, 17, 18, 19], [34, 35, 36, 37, 38, 39, 40, 41, 42]), ([5, 6, 7, 8, 9, 15, 16, 17, 18, 19], [34, 35, 36, 37, 38, 39, 40, 41, 42, 43]), ([5, 6, 7, 8, 9, 10, 15, 16, 17, 18, 19], [34, 35, 36, 37, 38, 39, 40, 41, 42, 43, 44]), ([5, 6, 7, 8, 9, 10, 11, 15, 16, 17, 18, 19], [34, 35, 36, 37, 38, 39, 40, 41, 42, 43, 44, 45]), ([0, 1, 2, 3, 4, 5, 6, 7, 8, 9, 10, 11, 12, 15, 16, 17, 18, 19], [34, 35, 36, 37, 38, 39, 40, 41, 42, 43, 44, 45, 46]), ([0, 1, 2, 3, 4, 5, 6, 7, 8, 9, 10, 11, 12, 13, 15, 16, 17, 18, 19], [34, 35, 36, 37, 38, 39, 40, 41, 42, 43, 44, 45, 46, 47])] [(15, 13), (16, 13), (17, 13), (18, 13), (19, 13), (15, 0), (15, 1), (15, 2), (15, 3), (15, 4), (15, 5), (15, 6), (15, 7), (15, 8), (15, 9), (15, 10), (15, 11), (15, 12), (16, 0), (16, 1), (16, 2), (16, 3), (16, 4), (16, 5), (16, 6), (16, 7), (16, 8), (16, 9), (16, 10), (16, 11), (16, 12), (17, 0), (17, 1), (17, 2), (17, 3), (17, 4), (17, 5), (17, 6), (17, 7), (17, 8), (17, 9), (17, 10), (17, 11), (17, 12), (18, 0), (18, 1), (18, 2), (18, 3), (18, 4), (18, 5), (18, 6), (18, 7), (18, 8), (18, 9), (18, 10), (18, 11), (18, 12), (19, 0), (19, 1), (19, 2), (19, 3), (19, 4), (19, 5), (19, 6), (19, 7), (19, 8), (19, 9), (19, 10), (19, 11), (19, 12)] (Γx := [bx gX 51 (rdc R.vL R.vA R.vB R.fu R.wr), rowN 31 1 R.vL R.L.length (valsV R.L), rowN 3 1 R.vA R.Z.length (intsV (zAt R.Z)), rowN 31 1 R.vB R.Z.length (valsV (zB R.Z)), vault R.rs]) (hox := ownsW) ?_; dsimp only [prev0, List.length_nil, List.length_cons])
           | (refine gAny ?_; first | (refine gD 10 ?_; refine RGl.rdX (fun e hk => by (try dsimp only [bndR, ensR, oksR, fcutR, List.append_nil, List.nil_append, List.cons_append, List.append_assoc] at hk ⊢); exact ReadR.loadO memA rfl rfl) ?_) | (refine gD 13 ?_; refine RGl.rdX (fun e hk => by (try dsimp only [bndR, ensR, oksR, fcutR, List.append_nil, List.nil_append, List.cons_append, List.append_assoc] at hk ⊢); exact ReadR.loadO memA rfl rfl) ?_) | (refine gD 15 ?_; refine RGl.rdX (fun e hk => by (try dsimp only [bndR, ensR, oksR, fcutR, List.append_nil, List.nil_append, List.cons_append, List.append_assoc] at hk ⊢); exact ReadR.binE rfl rfl BinR.lss (congrArg Value.bool (decide_eq_true hlt'))) ?_) | (refine gD 22 ?_; refine RGl.rdX (fun e hk => by (try dsimp only [bndR, ensR, oksR, fcutR, List.append_nil, List.nil_append, List.cons_append, List.append_assoc] at hk ⊢); exact ReadR.binE rfl rfl BinR.lss (congrArg Value.bool (decide_eq_false (show ¬ (i : Int) < 0 by omega)))) ?_) | (refine gD 29 ?_; refine RGl.rdX (fun e hk => by (try dsimp only [bndR, ensR, oksR, fcutR, List.append_nil, List.nil_append, List.cons_append, List.append_assoc] at hk ⊢); exact ReadR.indexE (i := i) rfl rfl hasA him) ?_) | (refine gD 30 ?_; refine RGl.rdX (fun e hk => by (try dsimp only [bndR, ensR, oksR, fcutR, List.append_nil, List.nil_append, List.cons_append, List.append_assoc] at hk ⊢); exact ReadR.fieldE rfl hasA (by omega)) ?_) | (refine gD 31 ?_; refine RGl.rdX (fun e hk => by (try dsimp only [bndR, ensR, oksR, fcutR, List.append_nil, List.nil_append, List.cons_append, List.append_assoc] at hk ⊢); exact ReadR.loadE rfl hasA c2) ?_) | (refine gD 44 ?_; refine RGl.rdX (fun e hk => by (try dsimp only [bndR, ensR, oksR, fcutR, List.append_nil, List.nil_append, List.cons_append, List.append_assoc] at hk ⊢); exact ReadR.indexE (i := i) rfl rfl hasA him) ?_) | (refine gD 45 ?_; refine RGl.rdX (fun e hk => by (try dsimp only [bndR, ensR, oksR, fcutR, List.append_nil, List.nil_append, List.cons_append, List.append_assoc] at hk ⊢); exact ReadR.fieldE rfl hasA (by omega)) ?_) | (refine gD 46 ?_; refine RGl.rdX (fun e hk => by (try dsimp only [bndR, ensR, oksR, fcutR, List.append_nil, List.nil_append, List.cons_append, List.append_assoc] at hk ⊢); exact ReadR.loadE rfl hasA c4) ?_) | (refine gOp ?_; (refine gC 47 ?_; refine RGl.relG (.int .i64 er) (fun s : RfS => rsA gX s) (fun s => s.vw = D1 ∧ RInv n (k + q + 1) s ∧ ∀ r ∈ R.rs, r ∈ s.rs) hv47 (fun e hk => by (try dsimp only [bndR, ensR, oksR, fcutR, List.append_nil, List.nil_append, List.cons_append, List.append_assoc] at hk ⊢); exact OpT.callTs c47) ?_)) | (refine gD 49 ?_; refine RGl.rdX (fun e hk => by (try dsimp only [bndR, ensR, oksR, fcutR, List.append_nil, List.nil_append, List.cons_append, List.append_assoc] at hk ⊢); exact ReadR.binE rfl rfl BinR.neq (congrArg (fun q => Value.bool (!q)) (decide_eq_false he))) ?_) | (refine gOp ?_; first | refine RGl.rdA ?_ | refine RGl.rdX (fun e hk => by (try dsimp only [bndR, ensR, oksR, fcutR, List.append_nil, List.nil_append, List.cons_append, List.append_assoc] at hk ⊢); exact readB) ?_) | (refine RGl.fin (fun e hk => ?_); (try dsimp only [bndA, ensAR, oksA, List.append_nil, List.nil_append, List.cons_append, List.append_assoc] at hk ⊢); (repeat (obtain ⟨hk1, hk⟩ := hk))) | fail)
           | (refine isCond ?_; first | refine WPc.cT ?_ | refine WPc.cF ?_ | (refine WPc.cQ (fun hc => ?_) (fun hc => ?_) <;> try first | exact prA | (exfalso; first | omega)))
           | (refine isD 10 ?_; refine WPl.rdX (ReadR.loadO memA rfl rfl) ?_)
           | (refine isD 13 ?_; refine WPl.rdX (ReadR.loadO memA rfl rfl) ?_)
           | (refine isD 15 ?_; refine WPl.rdX (ReadR.binE rfl rfl BinR.lss (congrArg Value.bool (decide_eq_true hlt'))) ?_)
           | (refine isC 20 ?_; refine WPl.cV cA ?_ (hΔ := provsW))
           | (refine isD 22 ?_; refine WPl.rdX (ReadR.binE rfl rfl BinR.lss (congrArg Value.bool (decide_eq_false (show ¬ (i : Int) < 0 by omega)))) ?_)
           | (refine isD 29 ?_; refine WPl.rdX (ReadR.indexE (i := i) rfl rfl hasA him) ?_)
           | (refine isD 30 ?_; refine WPl.rdX (ReadR.fieldE rfl hasA (by omega)) ?_)
           | (refine isD 31 ?_; refine WPl.rdX (ReadR.loadE rfl hasA c2) ?_)
           | (refine isD 44 ?_; refine WPl.rdX (ReadR.indexE (i := i) rfl rfl hasA him) ?_)
           | (refine isD 45 ?_; refine WPl.rdX (ReadR.fieldE rfl hasA (by omega)) ?_)
           | (refine isD 46 ?_; refine WPl.rdX (ReadR.loadE rfl hasA c4) ?_)
           | (refine isD 49 ?_; refine WPl.rdX (ReadR.binE rfl rfl BinR.neq (congrArg (fun q => Value.bool (!q)) (decide_eq_false he))) ?_)
           | (refine isOp ?_; first | refine WPl.rd ?_ | refine WPl.sk ?_ | refine WPl.rdB ?_)
           | (refine isSt ?_; first | refine WPl.st1 ?_ | refine WPl.stA ?_ | refine WPl.stEB ?_ | refine WPl.stRB ?_)
           | (show WPl _ _ _ _ _ _ _ (⟨_, .indexAddr _ _ _, _, _, _, _⟩ :: _) _; refine WPl.rdX (ReadR.indexE rfl rfl hasA (by first | assumption | omega)) ?_)
           | (show WPl _ _ _ _ _ _ _ (⟨_, .fieldAddr _ _ _, _, _, _, _⟩ :: _) _; refine WPl.rdX (ReadR.fieldE rfl hasA (by first | assumption | omega)) ?_)
           | (show WPl _ _ _ _ _ _ _ (⟨_, .load _ _, _, _, _, _⟩ :: _) _; first | refine WPl.rdX (ReadR.loadE rfl hasA (by assumption)) ?_ | refine WPl.rdX (ReadR.loadES (by assumption) (by first | assumption | omega) rfl hasA) ?_)
           | (show WPl _ _ _ _ _ _ _ (⟨_, .slice _ _ _ _ _, _, _, _, _⟩ :: _) _; first | refine WPl.rdX (ReadR.sliceH rfl rfl hasA (by omega)) ?_ | refine WPl.rdX (ReadR.sliceL rfl rfl hasA (by omega)) ?_ | refine WPl.rdX (ReadR.sliceLH rfl rfl rfl hasA (by omega) (by omega)) ?_)
           | (refine WPl.spQ (fun hc => ?_) (fun hc => ?_) <;> try first | exact prA | (exfalso; first | omega))
           | fail)
          have hA : (fun s => s.vw = D1 ∧ RInv n (k + q + 1) s ∧ ∀ r ∈ R.rs, r ∈ s.rs) (pickG (fun s : RfS => rsA gX s) (fun s => s.vw = D1 ∧ RInv n (k + q + 1) s ∧ ∀ r ∈ R.rs, r ∈ s.rs) (e 13).2) := by assumption
          obtain ⟨T, hT⟩ : ∃ T, T = (pickG (fun s : RfS => rsA gX s) (fun s => s.vw = D1 ∧ RInv n (k + q + 1) s ∧ ∀ r ∈ R.rs, r ∈ s.rs) (e 13).2) := ⟨_, rfl⟩
          rw [← hT] at hA
          obtain ⟨hA1, hA2, hA3⟩ := hA
          dsimp only [Nat.reduceAdd]
          rw [← hT]
          exact WPq.dX (ho := ownsW) (vs := [.int .i64 er]) (krA gY gX K T) ⟨K, T, rfl, rfl, hA1, h.more hA3, hA2.mono (by omega), rfl⟩
  · have hqn : q = n := by omega
    subst hqn
    have hlt' : ¬ (q : Int) < (R.L.length : Int) := by omega
    rw [dl_end] at heq
    have c62 := rflK_t gX q (k + q) R hr (by omega) (by omega)
    rw [heq]
    repeat' (first
     | refine WPl.nil ?_ | refine WPq.then ?_ | refine WPq.thenR ?_ | refine WPq.thenE ?_ | refine WPq.blockN ?_ | refine WPq.blockR ?_ | refine WPq.blockE ?_ | refine WPq.blockO rfl ?_ | refine WPc.seq ?_ | refine WPc.block ?_ | refine WPc.ret ?_ | refine WPc.exit ?_ | refine WPc.skip ?_ | refine WPc.region ?_
     | (refine isCond ?_; first | refine WPc.cT ?_ | refine WPc.cF ?_ | (refine WPc.cQ (fun hc => ?_) (fun hc => ?_) <;> try first | exact prA | (exfalso; first | omega)))
     | (refine isD 10 ?_; refine WPl.rdX (ReadR.loadO memA rfl rfl) ?_)
     | (refine isD 13 ?_; refine WPl.rdX (ReadR.loadO memA rfl rfl) ?_)
     | (refine isD 15 ?_; refine WPl.rdX (ReadR.binE rfl rfl BinR.lss (congrArg Value.bool (decide_eq_false hlt'))) ?_)
     | (refine isC 62 ?_; refine WPl.cXs (c62) fun v Γ1 hR => ?_; (obtain ⟨R1, rfl, hR1, hRi, hsub, rfl⟩ := hR); (try dsimp only [putF, List.cons_append, List.nil_append]))
     | (refine isOp ?_; first | refine WPl.rd ?_ | refine WPl.sk ?_ | refine WPl.rdB ?_)
     | (refine isSt ?_; first | refine WPl.st1 ?_ | refine WPl.stA ?_ | refine WPl.stEB ?_ | refine WPl.stRB ?_)
     | (show WPl _ _ _ _ _ _ _ (⟨_, .indexAddr _ _ _, _, _, _, _⟩ :: _) _; refine WPl.rdX (ReadR.indexE rfl rfl hasA (by first | assumption | omega)) ?_)
     | (show WPl _ _ _ _ _ _ _ (⟨_, .fieldAddr _ _ _, _, _, _, _⟩ :: _) _; refine WPl.rdX (ReadR.fieldE rfl hasA (by first | assumption | omega)) ?_)
     | (show WPl _ _ _ _ _ _ _ (⟨_, .load _ _, _, _, _, _⟩ :: _) _; first | refine WPl.rdX (ReadR.loadE rfl hasA (by assumption)) ?_ | refine WPl.rdX (ReadR.loadES (by assumption) (by first | assumption | omega) rfl hasA) ?_)
     | (show WPl _ _ _ _ _ _ _ (⟨_, .slice _ _ _ _ _, _, _, _, _⟩ :: _) _; first | refine WPl.rdX (ReadR.sliceH rfl rfl hasA (by omega)) ?_ | refine WPl.rdX (ReadR.sliceL rfl rfl hasA (by omega)) ?_ | refine WPl.rdX (ReadR.sliceLH rfl rfl rfl hasA (by omega) (by omega)) ?_)
     | (refine WPl.spQ (fun hc => ?_) (fun hc => ?_) <;> try first | exact prA | (exfalso; first | omega))
     | fail)
    exact WPq.dX (ho := ownsW) (vs := [.int .i64 R.vw.flush.2]) (krA gY gX K R1) ⟨K, R1, rfl, rfl, hR1, h.more hsub, hRi, rfl⟩
end
end Go.Proofs.Ytepmikgjnmjheaa
