/- Layer 5 (cache): contracts: Put, Pin, Unpin, Drop. -/
import Derived.Test.YtepmikgjnmjheaaCg
namespace Go.Proofs.Ytepmikgjnmjheaa
open Go.RowKit
set_option linter.unusedSimpArgs false
set_option linter.unusedVariables false
set_option maxRecDepth 20000
set_option maxHeartbeats 4000000
attribute [local irreducible] WPc WPl WPq ReadR OpT BinR HasS bx rdN rowN Take Takes Prov Triple ResF BuildP Done ag Int.decLt Int.decLe Int.instDecidableEq
attribute [local irreducible] mp rmp rg rgo bag vrow secs mput mget mfind mdel intsV skeys vault frs pickG
def Cv.pin (C : Cv) (no : Int) : Cv × Bool := match C.at no with
  | some i => (match C.fs[i]? with
    | some (some f) => (setF C i (some { f with pins := f.pins + 1 }), true)
    | _ => (C, false))
  | none => (C, false)
def Cv.unpin (C : Cv) (no : Int) : Cv × Bool := match C.at no with
  | some i => (match C.fs[i]? with
    | some (some f) => if f.pins = 0 then (C, false) else (setF C i (some { f with pins := f.pins - 1 }), true)
    | _ => (C, false))
  | none => (C, false)
def Cv.drop (C : Cv) (no : Int) : Cv × Bool := match C.at no with
  | some i => (match C.fs[i]? with
    | some (some f) => if 0 < f.pins then (C, false) else (setF C i none, true)
    | _ => (C, false))
  | none => (C, false)
/-- What 'at' finds. -/
theorem at_hit {n m p : Nat} {C : CS} {no : Int} (h : CInv n m p C) {i : Nat} (hco : atF C.fs no = some i) : ∃ f, C.fs[i]? = some f ∧ f.full = true ∧ f.no = no ∧ FInv n p C.rs f ∧ (f.bv, f.s) ∈ C.rs ∧ i < C.fs.length ∧ C.vw.at no = some i ∧ C.vw.fs[i]? = some (some ⟨f.no, f.pins, f.dirty, f.used, f.s⟩) := by
  obtain ⟨f, hf, hff⟩ := findIdx_spec hco
  rw [Bool.and_eq_true, decide_eq_true_eq] at hff
  obtain ⟨hfu, hfn⟩ := hff
  have hfi := h.each f (List.mem_of_getElem? hf)
  refine ⟨f, hf, hfu, hfn, hfi, (hfi.here hfu).2, (List.getElem?_eq_some_iff.1 hf).1, by rw [← at_vw, hco], ?_⟩
  show (C.fs.map Frm.vw)[i]? = _
  rw [List.getElem?_map, hf, Option.map_some, Frm.vw_some hfu]
theorem at_miss {C : CS} {no : Int} (hco : atF C.fs no = none) : C.vw.at no = none := by rw [← at_vw, hco]
theorem set_vw {C : CS} {i : Nat} {f : Frm} {g : Fp} (hf : f.full = true) (hg : g = ⟨f.no, f.pins, f.dirty, f.used, f.s⟩) (rs : List (Value × Sec)) : (CS.mk (C.fs.set i f) C.hand rs).vw = setF C.vw i (some g) := by
  show Cv.mk ((C.fs.set i f).map Frm.vw) _ = Cv.mk ((C.fs.map Frm.vw).set i (some g)) _
  rw [List.map_set, Frm.vw_some hf, hg]
  rfl
def RPin (gK gV : Nat) (vF : Value) (mD : Nat) (vd : Value) (n m p : Nat) (r : Cv × Bool) : Value → List Asn → Prop := fun v Γ => ∃ C, v = .bool r.2 ∧ C.vw = r.1 ∧ CInv n m p C ∧ Γ = chA gK gV vF C
section
variable (gK gV : Nat) (vF : Value) (mD : Nat) (vd : Value) (n m p k : Nat) (C : CS) (S : DS)
theorem cpinN_t (no : Int) : Triple Try.prog 32 #[.pointer none, .int .i64 no] [] (RVal (.bool false)) := by
  have c8 := atN_t no
  refine Triple.enter Try.func32 rfl Try.ntmps32 rfl (fun W => ?_)
  dsimp only [argsF, Nat.reduceAdd]
  repeat' (first
   | refine WPl.nil ?_ | refine WPq.then ?_ | refine WPq.thenR ?_ | refine WPq.thenE ?_ | refine WPq.blockN ?_ | refine WPq.blockR ?_ | refine WPq.blockE ?_ | refine WPq.blockO rfl ?_ | refine WPc.seq ?_ | refine WPc.block ?_ | refine WPc.ret ?_ | refine WPc.exit ?_ | refine WPc.skip ?_ | refine WPc.region ?_
   | (refine isCond ?_; first | refine WPc.cT ?_ | refine WPc.cF ?_ | (refine WPc.cQ (fun hc => ?_) (fun hc => ?_) <;> try exact prA))
   | (refine isC 8 ?_; refine WPl.cV c8 ?_ (hΔ := provsG))
   | (refine isD 10 ?_; refine WPl.rdX (readP) ?_)
   | (refine isOp ?_; first | refine WPl.rd ?_ | refine WPl.sk ?_ | refine WPl.rdB ?_)
   | (refine isSt ?_; first | refine WPl.st1 ?_ | refine WPl.stA ?_ | refine WPl.stEB ?_ | refine WPl.stRB ?_)
   | (show WPl _ _ _ _ _ _ _ (⟨_, .indexAddr _ _ _, _, _, _, _⟩ :: _) _; refine WPl.rdX (ReadR.indexE rfl rfl hasA (by first | assumption | omega)) ?_)
   | (show WPl _ _ _ _ _ _ _ (⟨_, .fieldAddr _ _ _, _, _, _, _⟩ :: _) _; refine WPl.rdX (ReadR.fieldE rfl hasA (by first | assumption | omega)) ?_)
   | (show WPl _ _ _ _ _ _ _ (⟨_, .load _ _, _, _, _, _⟩ :: _) _; first | refine WPl.rdX (ReadR.loadE rfl hasA (by assumption)) ?_ | refine WPl.rdX (ReadR.loadES (by assumption) (by first | assumption | omega) rfl hasA) ?_)
   | (show WPl _ _ _ _ _ _ _ (⟨_, .slice _ _ _ _ _, _, _, _, _⟩ :: _) _; first | refine WPl.rdX (ReadR.sliceH rfl rfl hasA (by omega)) ?_ | refine WPl.rdX (ReadR.sliceL rfl rfl hasA (by omega)) ?_ | refine WPl.rdX (ReadR.sliceLH rfl rfl rfl hasA (by omega) (by omega)) ?_)
   | (refine WPl.spQ (fun hc => ?_) (fun hc => ?_) <;> try exact prA)
   | fail)
  all_goals exact WPq.dV
theorem cunpinN_t (no : Int) : Triple Try.prog 38 #[.pointer none, .int .i64 no] [] (RVal (.bool false)) := by
  have c8 := atN_t no
  refine Triple.enter Try.func38 rfl Try.ntmps38 rfl (fun W => ?_)
  dsimp only [argsF, Nat.reduceAdd]
  repeat' (first
   | refine WPl.nil ?_ | refine WPq.then ?_ | refine WPq.thenR ?_ | refine WPq.thenE ?_ | refine WPq.blockN ?_ | refine WPq.blockR ?_ | refine WPq.blockE ?_ | refine WPq.blockO rfl ?_ | refine WPc.seq ?_ | refine WPc.block ?_ | refine WPc.ret ?_ | refine WPc.exit ?_ | refine WPc.skip ?_ | refine WPc.region ?_
   | (refine isCond ?_; first | refine WPc.cT ?_ | refine WPc.cF ?_ | (refine WPc.cQ (fun hc => ?_) (fun hc => ?_) <;> try exact prA))
   | (refine isC 8 ?_; refine WPl.cV c8 ?_ (hΔ := provsG))
   | (refine isD 10 ?_; refine WPl.rdX (readP) ?_)
   | (refine isOp ?_; first | refine WPl.rd ?_ | refine WPl.sk ?_ | refine WPl.rdB ?_)
   | (refine isSt ?_; first | refine WPl.st1 ?_ | refine WPl.stA ?_ | refine WPl.stEB ?_ | refine WPl.stRB ?_)
   | (show WPl _ _ _ _ _ _ _ (⟨_, .indexAddr _ _ _, _, _, _, _⟩ :: _) _; refine WPl.rdX (ReadR.indexE rfl rfl hasA (by first | assumption | omega)) ?_)
   | (show WPl _ _ _ _ _ _ _ (⟨_, .fieldAddr _ _ _, _, _, _, _⟩ :: _) _; refine WPl.rdX (ReadR.fieldE rfl hasA (by first | assumption | omega)) ?_)
   | (show WPl _ _ _ _ _ _ _ (⟨_, .load _ _, _, _, _, _⟩ :: _) _; first | refine WPl.rdX (ReadR.loadE rfl hasA (by assumption)) ?_ | refine WPl.rdX (ReadR.loadES (by assumption) (by first | assumption | omega) rfl hasA) ?_)
   | (show WPl _ _ _ _ _ _ _ (⟨_, .slice _ _ _ _ _, _, _, _, _⟩ :: _) _; first | refine WPl.rdX (ReadR.sliceH rfl rfl hasA (by omega)) ?_ | refine WPl.rdX (ReadR.sliceL rfl rfl hasA (by omega)) ?_ | refine WPl.rdX (ReadR.sliceLH rfl rfl rfl hasA (by omega) (by omega)) ?_)
   | (refine WPl.spQ (fun hc => ?_) (fun hc => ?_) <;> try exact prA)
   | fail)
  all_goals exact WPq.dV
theorem cdropN_t (no : Int) : Triple Try.prog 39 #[.pointer none, .int .i64 no] [] (RVal (.bool false)) := by
  have c8 := atN_t no
  refine Triple.enter Try.func39 rfl Try.ntmps39 rfl (fun W => ?_)
  dsimp only [argsF, Nat.reduceAdd]
  repeat' (first
   | refine WPl.nil ?_ | refine WPq.then ?_ | refine WPq.thenR ?_ | refine WPq.thenE ?_ | refine WPq.blockN ?_ | refine WPq.blockR ?_ | refine WPq.blockE ?_ | refine WPq.blockO rfl ?_ | refine WPc.seq ?_ | refine WPc.block ?_ | refine WPc.ret ?_ | refine WPc.exit ?_ | refine WPc.skip ?_ | refine WPc.region ?_
   | (refine isCond ?_; first | refine WPc.cT ?_ | refine WPc.cF ?_ | (refine WPc.cQ (fun hc => ?_) (fun hc => ?_) <;> try exact prA))
   | (refine isC 8 ?_; refine WPl.cV c8 ?_ (hΔ := provsG))
   | (refine isD 10 ?_; refine WPl.rdX (readP) ?_)
   | (refine isOp ?_; first | refine WPl.rd ?_ | refine WPl.sk ?_ | refine WPl.rdB ?_)
   | (refine isSt ?_; first | refine WPl.st1 ?_ | refine WPl.stA ?_ | refine WPl.stEB ?_ | refine WPl.stRB ?_)
   | (show WPl _ _ _ _ _ _ _ (⟨_, .indexAddr _ _ _, _, _, _, _⟩ :: _) _; refine WPl.rdX (ReadR.indexE rfl rfl hasA (by first | assumption | omega)) ?_)
   | (show WPl _ _ _ _ _ _ _ (⟨_, .fieldAddr _ _ _, _, _, _, _⟩ :: _) _; refine WPl.rdX (ReadR.fieldE rfl hasA (by first | assumption | omega)) ?_)
   | (show WPl _ _ _ _ _ _ _ (⟨_, .load _ _, _, _, _, _⟩ :: _) _; first | refine WPl.rdX (ReadR.loadE rfl hasA (by assumption)) ?_ | refine WPl.rdX (ReadR.loadES (by assumption) (by first | assumption | omega) rfl hasA) ?_)
   | (show WPl _ _ _ _ _ _ _ (⟨_, .slice _ _ _ _ _, _, _, _, _⟩ :: _) _; first | refine WPl.rdX (ReadR.sliceH rfl rfl hasA (by omega)) ?_ | refine WPl.rdX (ReadR.sliceL rfl rfl hasA (by omega)) ?_ | refine WPl.rdX (ReadR.sliceLH rfl rfl rfl hasA (by omega) (by omega)) ?_)
   | (refine WPl.spQ (fun hc => ?_) (fun hc => ?_) <;> try exact prA)
   | fail)
  all_goals exact WPq.dV
theorem cpin_t (no : Int) (h : CInv n m p C) (hm : m ≤ 64) (hp : p ≤ 1000000) : Triple Try.prog 32 #[hC gK, .int .i64 no] (chA gK gV vF C) (RPin gK gV vF mD vd n m (p + 1) (C.vw.pin no)) := by
  have hlen := h.len
  have c8 := at_t gK gV vF (C.hand : Int) C.fs no (by omega)
  have hL := frs_len (l := C.fs)
  cases hco : atF C.fs no with
  | some i =>
    obtain ⟨f, hf, hfu, hfn, hfi, hmem, hil, hat, hvf⟩ := at_hit h hco
    rw [hco] at c8
    unfold fptr at c8
    dsimp only at c8
    have hp0 := hfi.pin0
    have hp1 := hfi.pin1
    have hr : C.vw.pin no = (setF C.vw i (some ⟨f.no, f.pins + 1, f.dirty, f.used, f.s⟩), true) := by unfold Cv.pin; rw [hat]; dsimp only; rw [hvf]
    rw [hr]
    obtain ⟨f', hf'⟩ : ∃ f', f' = { f with pins := f.pins + 1 } := ⟨_, rfl⟩
    have hfi' : FInv n (p + 1) C.rs f' := by rw [hf']; exact ⟨hfi.one, hfi.here, (fun hx => by rw [show ({ f with pins := f.pins + 1 } : Frm).full = f.full from rfl, hfu] at hx; cases hx), by dsimp only; omega, by dsimp only; omega⟩
    have hfu' : f'.full = true := by rw [hf']; exact hfu
    have hs := frs_1 (f' := f') (o := 4) (u := .int .i64 (f.pins + 1)) hf (by omega) (by rw [hf']; rfl)
    have c4 : (frs C.fs)[i * 6 + 4]? = some (.int .i64 f.pins) := frs_cell hf (by omega)
    refine Triple.enter Try.func32 rfl Try.ntmps32 rfl (fun W => ?_)
    dsimp only [argsF, Nat.reduceAdd]
    repeat' (first
     | refine WPl.nil ?_ | refine WPq.then ?_ | refine WPq.thenR ?_ | refine WPq.thenE ?_ | refine WPq.blockN ?_ | refine WPq.blockR ?_ | refine WPq.blockE ?_ | refine WPq.blockO rfl ?_ | refine WPc.seq ?_ | refine WPc.block ?_ | refine WPc.ret ?_ | refine WPc.exit ?_ | refine WPc.skip ?_ | refine WPc.region ?_
     | (refine isCond ?_; first | refine WPc.cT ?_ | refine WPc.cF ?_ | (refine WPc.cQ (fun hc => ?_) (fun hc => ?_) <;> try exact prA))
     | (refine isC 8 ?_; refine WPl.cV c8 ?_ (hΔ := provsW))
     | (refine isD 10 ?_; refine WPl.rdX (readP) ?_)
     | (refine isD 13 ?_; refine WPl.rdX (ReadR.fieldE rfl hasA (by omega)) ?_)
     | (refine isD 14 ?_; refine WPl.rdX (ReadR.loadE rfl hasA c4) ?_)
     | (refine isD 15 ?_; refine WPl.rdX (ReadR.binE rfl rfl (BinR.addK (by simp only [kmin]; omega) (by simp only [kmax]; omega)) rfl) ?_)
     | (refine isD 17 ?_; refine WPl.rdX (ReadR.fieldE rfl hasA (by omega)) ?_)
     | (show WPl _ _ _ _ _ _ _ (⟨_, .store _ (.tmp 17) _, _, _, _, _⟩ :: _) _; refine WPl.stEN (i := i * 6 + 4) (m := C.fs.length) (xs := frs C.fs) (by omega) ?_; rw [hs])
     | (refine isOp ?_; first | refine WPl.rd ?_ | refine WPl.sk ?_ | refine WPl.rdB ?_)
     | (refine isSt ?_; first | refine WPl.st1 ?_ | refine WPl.stA ?_ | refine WPl.stEB ?_ | refine WPl.stRB ?_)
     | (show WPl _ _ _ _ _ _ _ (⟨_, .indexAddr _ _ _, _, _, _, _⟩ :: _) _; refine WPl.rdX (ReadR.indexE rfl rfl hasA (by first | assumption | omega)) ?_)
     | (show WPl _ _ _ _ _ _ _ (⟨_, .fieldAddr _ _ _, _, _, _, _⟩ :: _) _; refine WPl.rdX (ReadR.fieldE rfl hasA (by first | assumption | omega)) ?_)
     | (show WPl _ _ _ _ _ _ _ (⟨_, .load _ _, _, _, _, _⟩ :: _) _; first | refine WPl.rdX (ReadR.loadE rfl hasA (by assumption)) ?_ | refine WPl.rdX (ReadR.loadES (by assumption) (by first | assumption | omega) rfl hasA) ?_)
     | (show WPl _ _ _ _ _ _ _ (⟨_, .slice _ _ _ _ _, _, _, _, _⟩ :: _) _; first | refine WPl.rdX (ReadR.sliceH rfl rfl hasA (by omega)) ?_ | refine WPl.rdX (ReadR.sliceL rfl rfl hasA (by omega)) ?_ | refine WPl.rdX (ReadR.sliceLH rfl rfl rfl hasA (by omega) (by omega)) ?_)
     | (refine WPl.spQ (fun hc => ?_) (fun hc => ?_) <;> try exact prA)
     | fail)
    exact WPq.dX (ho := ownsW) (vs := [.bool true]) [bx gK 86 (cxc gV vF (C.hand : Int)), rowN 90 6 vF C.fs.length (frs (C.fs.set i f')), vault C.rs] ⟨⟨C.fs.set i f', C.hand, C.rs⟩, rfl, set_vw hfu' (by rw [hf']) _, (h.mono (Nat.le_succ _)).set hfi' h.hand, by show _ = [_, rowN _ 6 vF (C.fs.set i f').length _, _]; rw [List.length_set]⟩
  | none =>
    rw [hco] at c8
    unfold fptr at c8
    dsimp only at c8
    have hr : C.vw.pin no = (C.vw, false) := by unfold Cv.pin; rw [at_miss hco]
    rw [hr]
    refine Triple.enter Try.func32 rfl Try.ntmps32 rfl (fun W => ?_)
    dsimp only [argsF, Nat.reduceAdd]
    repeat' (first
     | refine WPl.nil ?_ | refine WPq.then ?_ | refine WPq.thenR ?_ | refine WPq.thenE ?_ | refine WPq.blockN ?_ | refine WPq.blockR ?_ | refine WPq.blockE ?_ | refine WPq.blockO rfl ?_ | refine WPc.seq ?_ | refine WPc.block ?_ | refine WPc.ret ?_ | refine WPc.exit ?_ | refine WPc.skip ?_ | refine WPc.region ?_
     | (refine isCond ?_; first | refine WPc.cT ?_ | refine WPc.cF ?_ | (refine WPc.cQ (fun hc => ?_) (fun hc => ?_) <;> try exact prA))
     | (refine isC 8 ?_; refine WPl.cV c8 ?_ (hΔ := provsW))
     | (refine isD 10 ?_; refine WPl.rdX (readP) ?_)
     | (refine isOp ?_; first | refine WPl.rd ?_ | refine WPl.sk ?_ | refine WPl.rdB ?_)
     | (refine isSt ?_; first | refine WPl.st1 ?_ | refine WPl.stA ?_ | refine WPl.stEB ?_ | refine WPl.stRB ?_)
     | (show WPl _ _ _ _ _ _ _ (⟨_, .indexAddr _ _ _, _, _, _, _⟩ :: _) _; refine WPl.rdX (ReadR.indexE rfl rfl hasA (by first | assumption | omega)) ?_)
     | (show WPl _ _ _ _ _ _ _ (⟨_, .fieldAddr _ _ _, _, _, _, _⟩ :: _) _; refine WPl.rdX (ReadR.fieldE rfl hasA (by first | assumption | omega)) ?_)
     | (show WPl _ _ _ _ _ _ _ (⟨_, .load _ _, _, _, _, _⟩ :: _) _; first | refine WPl.rdX (ReadR.loadE rfl hasA (by assumption)) ?_ | refine WPl.rdX (ReadR.loadES (by assumption) (by first | assumption | omega) rfl hasA) ?_)
     | (show WPl _ _ _ _ _ _ _ (⟨_, .slice _ _ _ _ _, _, _, _, _⟩ :: _) _; first | refine WPl.rdX (ReadR.sliceH rfl rfl hasA (by omega)) ?_ | refine WPl.rdX (ReadR.sliceL rfl rfl hasA (by omega)) ?_ | refine WPl.rdX (ReadR.sliceLH rfl rfl rfl hasA (by omega) (by omega)) ?_)
     | (refine WPl.spQ (fun hc => ?_) (fun hc => ?_) <;> try exact prA)
     | fail)
    exact WPq.dX (ho := ownsW) (vs := [.bool false]) (chA gK gV vF C) ⟨C, rfl, rfl, h.mono (Nat.le_succ _), rfl⟩
theorem cunpin_t (no : Int) (h : CInv n m p C) (hm : m ≤ 64) (hp : p ≤ 1000000) : Triple Try.prog 38 #[hC gK, .int .i64 no] (chA gK gV vF C) (RPin gK gV vF mD vd n m p (C.vw.unpin no)) := by
  have hlen := h.len
  have c8 := at_t gK gV vF (C.hand : Int) C.fs no (by omega)
  have hL := frs_len (l := C.fs)
  cases hco : atF C.fs no with
  | some i =>
    obtain ⟨f, hf, hfu, hfn, hfi, hmem, hil, hat, hvf⟩ := at_hit h hco
    rw [hco] at c8
    unfold fptr at c8
    dsimp only at c8
    have hp0 := hfi.pin0
    have hp1 := hfi.pin1
    have c4 : (frs C.fs)[i * 6 + 4]? = some (.int .i64 f.pins) := frs_cell hf (by omega)
    by_cases hz : f.pins = 0
    · have hr : C.vw.unpin no = (C.vw, false) := by unfold Cv.unpin; rw [hat]; dsimp only; rw [hvf]; dsimp only; rw [if_pos hz]
      rw [hr]
      refine Triple.enter Try.func38 rfl Try.ntmps38 rfl (fun W => ?_)
      dsimp only [argsF, Nat.reduceAdd]
      repeat' (first
       | refine WPl.nil ?_ | refine WPq.then ?_ | refine WPq.thenR ?_ | refine WPq.thenE ?_ | refine WPq.blockN ?_ | refine WPq.blockR ?_ | refine WPq.blockE ?_ | refine WPq.blockO rfl ?_ | refine WPc.seq ?_ | refine WPc.block ?_ | refine WPc.ret ?_ | refine WPc.exit ?_ | refine WPc.skip ?_ | refine WPc.region ?_
       | (refine isCond ?_; first | refine WPc.cT ?_ | refine WPc.cF ?_ | (refine WPc.cQ (fun hc => ?_) (fun hc => ?_) <;> try exact prA))
       | (refine isC 8 ?_; refine WPl.cV c8 ?_ (hΔ := provsW))
       | (refine isD 10 ?_; refine WPl.rdX (readP) ?_)
       | (refine isD 14 ?_; refine WPl.rdX (ReadR.fieldE rfl hasA (by omega)) ?_)
       | (refine isD 15 ?_; refine WPl.rdX (ReadR.loadE rfl hasA c4) ?_)
       | (refine isD 16 ?_; refine WPl.rdX (ReadR.binE rfl rfl BinR.eql (congrArg Value.bool (decide_eq_true hz))) ?_)
       | (refine isOp ?_; first | refine WPl.rd ?_ | refine WPl.sk ?_ | refine WPl.rdB ?_)
       | (refine isSt ?_; first | refine WPl.st1 ?_ | refine WPl.stA ?_ | refine WPl.stEB ?_ | refine WPl.stRB ?_)
       | (show WPl _ _ _ _ _ _ _ (⟨_, .indexAddr _ _ _, _, _, _, _⟩ :: _) _; refine WPl.rdX (ReadR.indexE rfl rfl hasA (by first | assumption | omega)) ?_)
       | (show WPl _ _ _ _ _ _ _ (⟨_, .fieldAddr _ _ _, _, _, _, _⟩ :: _) _; refine WPl.rdX (ReadR.fieldE rfl hasA (by first | assumption | omega)) ?_)
       | (show WPl _ _ _ _ _ _ _ (⟨_, .load _ _, _, _, _, _⟩ :: _) _; first | refine WPl.rdX (ReadR.loadE rfl hasA (by assumption)) ?_ | refine WPl.rdX (ReadR.loadES (by assumption) (by first | assumption | omega) rfl hasA) ?_)
       | (show WPl _ _ _ _ _ _ _ (⟨_, .slice _ _ _ _ _, _, _, _, _⟩ :: _) _; first | refine WPl.rdX (ReadR.sliceH rfl rfl hasA (by omega)) ?_ | refine WPl.rdX (ReadR.sliceL rfl rfl hasA (by omega)) ?_ | refine WPl.rdX (ReadR.sliceLH rfl rfl rfl hasA (by omega) (by omega)) ?_)
       | (refine WPl.spQ (fun hc => ?_) (fun hc => ?_) <;> try exact prA)
       | fail)
      exact WPq.dX (ho := ownsW) (vs := [.bool false]) (chA gK gV vF C) ⟨C, rfl, rfl, h, rfl⟩
    have hr : C.vw.unpin no = (setF C.vw i (some ⟨f.no, f.pins - 1, f.dirty, f.used, f.s⟩), true) := by unfold Cv.unpin; rw [hat]; dsimp only; rw [hvf]; dsimp only; rw [if_neg hz]
    rw [hr]
    obtain ⟨f', hf'⟩ : ∃ f', f' = { f with pins := f.pins - 1 } := ⟨_, rfl⟩
    have hfi' : FInv n p C.rs f' := by rw [hf']; exact ⟨hfi.one, hfi.here, (fun hx => by rw [show ({ f with pins := f.pins - 1 } : Frm).full = f.full from rfl, hfu] at hx; cases hx), by dsimp only; omega, by dsimp only; omega⟩
    have hfu' : f'.full = true := by rw [hf']; exact hfu
    have hs := frs_1 (f' := f') (o := 4) (u := .int .i64 (f.pins - 1)) hf (by omega) (by rw [hf']; rfl)
    refine Triple.enter Try.func38 rfl Try.ntmps38 rfl (fun W => ?_)
    dsimp only [argsF, Nat.reduceAdd]
    repeat' (first
     | refine WPl.nil ?_ | refine WPq.then ?_ | refine WPq.thenR ?_ | refine WPq.thenE ?_ | refine WPq.blockN ?_ | refine WPq.blockR ?_ | refine WPq.blockE ?_ | refine WPq.blockO rfl ?_ | refine WPc.seq ?_ | refine WPc.block ?_ | refine WPc.ret ?_ | refine WPc.exit ?_ | refine WPc.skip ?_ | refine WPc.region ?_
     | (refine isCond ?_; first | refine WPc.cT ?_ | refine WPc.cF ?_ | (refine WPc.cQ (fun hc => ?_) (fun hc => ?_) <;> try exact prA))
     | (refine isC 8 ?_; refine WPl.cV c8 ?_ (hΔ := provsW))
     | (refine isD 10 ?_; refine WPl.rdX (readP) ?_)
     | (refine isD 14 ?_; refine WPl.rdX (ReadR.fieldE rfl hasA (by omega)) ?_)
     | (refine isD 15 ?_; refine WPl.rdX (ReadR.loadE rfl hasA c4) ?_)
     | (refine isD 16 ?_; refine WPl.rdX (ReadR.binE rfl rfl BinR.eql (congrArg Value.bool (decide_eq_false hz))) ?_)
     | (refine isD 20 ?_; refine WPl.rdX (ReadR.fieldE rfl hasA (by omega)) ?_)
     | (refine isD 21 ?_; refine WPl.rdX (ReadR.loadE rfl hasA c4) ?_)
     | (refine isD 22 ?_; refine WPl.rdX (ReadR.binE rfl rfl (BinR.subI (by omega) (by omega)) rfl) ?_)
     | (refine isD 24 ?_; refine WPl.rdX (ReadR.fieldE rfl hasA (by omega)) ?_)
     | (show WPl _ _ _ _ _ _ _ (⟨_, .store _ (.tmp 24) _, _, _, _, _⟩ :: _) _; refine WPl.stEN (i := i * 6 + 4) (m := C.fs.length) (xs := frs C.fs) (by omega) ?_; rw [hs])
     | (refine isOp ?_; first | refine WPl.rd ?_ | refine WPl.sk ?_ | refine WPl.rdB ?_)
     | (refine isSt ?_; first | refine WPl.st1 ?_ | refine WPl.stA ?_ | refine WPl.stEB ?_ | refine WPl.stRB ?_)
     | (show WPl _ _ _ _ _ _ _ (⟨_, .indexAddr _ _ _, _, _, _, _⟩ :: _) _; refine WPl.rdX (ReadR.indexE rfl rfl hasA (by first | assumption | omega)) ?_)
     | (show WPl _ _ _ _ _ _ _ (⟨_, .fieldAddr _ _ _, _, _, _, _⟩ :: _) _; refine WPl.rdX (ReadR.fieldE rfl hasA (by first | assumption | omega)) ?_)
     | (show WPl _ _ _ _ _ _ _ (⟨_, .load _ _, _, _, _, _⟩ :: _) _; first | refine WPl.rdX (ReadR.loadE rfl hasA (by assumption)) ?_ | refine WPl.rdX (ReadR.loadES (by assumption) (by first | assumption | omega) rfl hasA) ?_)
     | (show WPl _ _ _ _ _ _ _ (⟨_, .slice _ _ _ _ _, _, _, _, _⟩ :: _) _; first | refine WPl.rdX (ReadR.sliceH rfl rfl hasA (by omega)) ?_ | refine WPl.rdX (ReadR.sliceL rfl rfl hasA (by omega)) ?_ | refine WPl.rdX (ReadR.sliceLH rfl rfl rfl hasA (by omega) (by omega)) ?_)
     | (refine WPl.spQ (fun hc => ?_) (fun hc => ?_) <;> try exact prA)
     | fail)
    exact WPq.dX (ho := ownsW) (vs := [.bool true]) [bx gK 86 (cxc gV vF (C.hand : Int)), rowN 90 6 vF C.fs.length (frs (C.fs.set i f')), vault C.rs] ⟨⟨C.fs.set i f', C.hand, C.rs⟩, rfl, set_vw hfu' (by rw [hf']) _, h.set hfi' h.hand, by show _ = [_, rowN _ 6 vF (C.fs.set i f').length _, _]; rw [List.length_set]⟩
  | none =>
    rw [hco] at c8
    unfold fptr at c8
    dsimp only at c8
    have hr : C.vw.unpin no = (C.vw, false) := by unfold Cv.unpin; rw [at_miss hco]
    rw [hr]
    refine Triple.enter Try.func38 rfl Try.ntmps38 rfl (fun W => ?_)
    dsimp only [argsF, Nat.reduceAdd]
    repeat' (first
     | refine WPl.nil ?_ | refine WPq.then ?_ | refine WPq.thenR ?_ | refine WPq.thenE ?_ | refine WPq.blockN ?_ | refine WPq.blockR ?_ | refine WPq.blockE ?_ | refine WPq.blockO rfl ?_ | refine WPc.seq ?_ | refine WPc.block ?_ | refine WPc.ret ?_ | refine WPc.exit ?_ | refine WPc.skip ?_ | refine WPc.region ?_
     | (refine isCond ?_; first | refine WPc.cT ?_ | refine WPc.cF ?_ | (refine WPc.cQ (fun hc => ?_) (fun hc => ?_) <;> try exact prA))
     | (refine isC 8 ?_; refine WPl.cV c8 ?_ (hΔ := provsW))
     | (refine isD 10 ?_; refine WPl.rdX (readP) ?_)
     | (refine isOp ?_; first | refine WPl.rd ?_ | refine WPl.sk ?_ | refine WPl.rdB ?_)
     | (refine isSt ?_; first | refine WPl.st1 ?_ | refine WPl.stA ?_ | refine WPl.stEB ?_ | refine WPl.stRB ?_)
     | (show WPl _ _ _ _ _ _ _ (⟨_, .indexAddr _ _ _, _, _, _, _⟩ :: _) _; refine WPl.rdX (ReadR.indexE rfl rfl hasA (by first | assumption | omega)) ?_)
     | (show WPl _ _ _ _ _ _ _ (⟨_, .fieldAddr _ _ _, _, _, _, _⟩ :: _) _; refine WPl.rdX (ReadR.fieldE rfl hasA (by first | assumption | omega)) ?_)
     | (show WPl _ _ _ _ _ _ _ (⟨_, .load _ _, _, _, _, _⟩ :: _) _; first | refine WPl.rdX (ReadR.loadE rfl hasA (by assumption)) ?_ | refine WPl.rdX (ReadR.loadES (by assumption) (by first | assumption | omega) rfl hasA) ?_)
     | (show WPl _ _ _ _ _ _ _ (⟨_, .slice _ _ _ _ _, _, _, _, _⟩ :: _) _; first | refine WPl.rdX (ReadR.sliceH rfl rfl hasA (by omega)) ?_ | refine WPl.rdX (ReadR.sliceL rfl rfl hasA (by omega)) ?_ | refine WPl.rdX (ReadR.sliceLH rfl rfl rfl hasA (by omega) (by omega)) ?_)
     | (refine WPl.spQ (fun hc => ?_) (fun hc => ?_) <;> try exact prA)
     | fail)
    exact WPq.dX (ho := ownsW) (vs := [.bool false]) (chA gK gV vF C) ⟨C, rfl, rfl, h, rfl⟩
theorem cdrop_t (no : Int) (h : CInv n m p C) (hm : m ≤ 64) (hp : p ≤ 1000000) : Triple Try.prog 39 #[hC gK, .int .i64 no] (chA gK gV vF C) (RPin gK gV vF mD vd n m p (C.vw.drop no)) := by
  have hlen := h.len
  have c8 := at_t gK gV vF (C.hand : Int) C.fs no (by omega)
  have hL := frs_len (l := C.fs)
  cases hco : atF C.fs no with
  | some i =>
    obtain ⟨f, hf, hfu, hfn, hfi, hmem, hil, hat, hvf⟩ := at_hit h hco
    rw [hco] at c8
    unfold fptr at c8
    dsimp only at c8
    have c4 : (frs C.fs)[i * 6 + 4]? = some (.int .i64 f.pins) := frs_cell hf (by omega)
    by_cases hz : f.pins > 0
    · have hr : C.vw.drop no = (C.vw, false) := by unfold Cv.drop; rw [hat]; dsimp only; rw [hvf]; dsimp only; rw [if_pos hz]
      rw [hr]
      refine Triple.enter Try.func39 rfl Try.ntmps39 rfl (fun W => ?_)
      dsimp only [argsF, Nat.reduceAdd]
      repeat' (first
       | refine WPl.nil ?_ | refine WPq.then ?_ | refine WPq.thenR ?_ | refine WPq.thenE ?_ | refine WPq.blockN ?_ | refine WPq.blockR ?_ | refine WPq.blockE ?_ | refine WPq.blockO rfl ?_ | refine WPc.seq ?_ | refine WPc.block ?_ | refine WPc.ret ?_ | refine WPc.exit ?_ | refine WPc.skip ?_ | refine WPc.region ?_
       | (refine isCond ?_; first | refine WPc.cT ?_ | refine WPc.cF ?_ | (refine WPc.cQ (fun hc => ?_) (fun hc => ?_) <;> try exact prA))
       | (refine isC 8 ?_; refine WPl.cV c8 ?_ (hΔ := provsW))
       | (refine isD 10 ?_; refine WPl.rdX (readP) ?_)
       | (refine isD 14 ?_; refine WPl.rdX (ReadR.fieldE rfl hasA (by omega)) ?_)
       | (refine isD 15 ?_; refine WPl.rdX (ReadR.loadE rfl hasA c4) ?_)
       | (refine isD 16 ?_; refine WPl.rdX (ReadR.binE rfl rfl BinR.gtr (congrArg Value.bool (decide_eq_true hz))) ?_)
       | (refine isOp ?_; first | refine WPl.rd ?_ | refine WPl.sk ?_ | refine WPl.rdB ?_)
       | (refine isSt ?_; first | refine WPl.st1 ?_ | refine WPl.stA ?_ | refine WPl.stEB ?_ | refine WPl.stRB ?_)
       | (show WPl _ _ _ _ _ _ _ (⟨_, .indexAddr _ _ _, _, _, _, _⟩ :: _) _; refine WPl.rdX (ReadR.indexE rfl rfl hasA (by first | assumption | omega)) ?_)
       | (show WPl _ _ _ _ _ _ _ (⟨_, .fieldAddr _ _ _, _, _, _, _⟩ :: _) _; refine WPl.rdX (ReadR.fieldE rfl hasA (by first | assumption | omega)) ?_)
       | (show WPl _ _ _ _ _ _ _ (⟨_, .load _ _, _, _, _, _⟩ :: _) _; first | refine WPl.rdX (ReadR.loadE rfl hasA (by assumption)) ?_ | refine WPl.rdX (ReadR.loadES (by assumption) (by first | assumption | omega) rfl hasA) ?_)
       | (show WPl _ _ _ _ _ _ _ (⟨_, .slice _ _ _ _ _, _, _, _, _⟩ :: _) _; first | refine WPl.rdX (ReadR.sliceH rfl rfl hasA (by omega)) ?_ | refine WPl.rdX (ReadR.sliceL rfl rfl hasA (by omega)) ?_ | refine WPl.rdX (ReadR.sliceLH rfl rfl rfl hasA (by omega) (by omega)) ?_)
       | (refine WPl.spQ (fun hc => ?_) (fun hc => ?_) <;> try exact prA)
       | fail)
      exact WPq.dX (ho := ownsW) (vs := [.bool false]) (chA gK gV vF C) ⟨C, rfl, rfl, h, rfl⟩
    have hr : C.vw.drop no = (setF C.vw i none, true) := by unfold Cv.drop; rw [hat]; dsimp only; rw [hvf]; dsimp only; rw [if_neg hz]
    rw [hr]
    have hz2 := frs_set (f := fr0) hil
    have hfz : FOk (frC fr0) := FInv.fok (n := n) (p := p) (rs := C.rs) .zero
    refine Triple.enter Try.func39 rfl Try.ntmps39 rfl (fun W => ?_)
    dsimp only [argsF, Nat.reduceAdd]
    repeat' (first
     | refine WPl.nil ?_ | refine WPq.then ?_ | refine WPq.thenR ?_ | refine WPq.thenE ?_ | refine WPq.blockN ?_ | refine WPq.blockR ?_ | refine WPq.blockE ?_ | refine WPq.blockO rfl ?_ | refine WPc.seq ?_ | refine WPc.block ?_ | refine WPc.ret ?_ | refine WPc.exit ?_ | refine WPc.skip ?_ | refine WPc.region ?_
     | (refine isCond ?_; first | refine WPc.cT ?_ | refine WPc.cF ?_ | (refine WPc.cQ (fun hc => ?_) (fun hc => ?_) <;> try exact prA))
     | (refine isC 8 ?_; refine WPl.cV c8 ?_ (hΔ := provsW))
     | (refine isD 10 ?_; refine WPl.rdX (readP) ?_)
     | (refine isD 14 ?_; refine WPl.rdX (ReadR.fieldE rfl hasA (by omega)) ?_)
     | (refine isD 15 ?_; refine WPl.rdX (ReadR.loadE rfl hasA c4) ?_)
     | (refine isD 16 ?_; refine WPl.rdX (ReadR.binE rfl rfl BinR.gtr (congrArg Value.bool (decide_eq_false hz))) ?_)
     | (show WPl _ _ _ _ _ _ _ (⟨_, .store _ (.tmp 20) _, _, _, _, _⟩ :: _) _; refine WPl.stES (new := frC fr0) (i := i * 6) (k := 6) (m := C.fs.length) (xs := frs C.fs) hfz rfl (by omega) (by omega) ?_; rw [hz2])
     | (refine isOp ?_; first | refine WPl.rd ?_ | refine WPl.sk ?_ | refine WPl.rdB ?_)
     | (refine isSt ?_; first | refine WPl.st1 ?_ | refine WPl.stA ?_ | refine WPl.stEB ?_ | refine WPl.stRB ?_)
     | (show WPl _ _ _ _ _ _ _ (⟨_, .indexAddr _ _ _, _, _, _, _⟩ :: _) _; refine WPl.rdX (ReadR.indexE rfl rfl hasA (by first | assumption | omega)) ?_)
     | (show WPl _ _ _ _ _ _ _ (⟨_, .fieldAddr _ _ _, _, _, _, _⟩ :: _) _; refine WPl.rdX (ReadR.fieldE rfl hasA (by first | assumption | omega)) ?_)
     | (show WPl _ _ _ _ _ _ _ (⟨_, .load _ _, _, _, _, _⟩ :: _) _; first | refine WPl.rdX (ReadR.loadE rfl hasA (by assumption)) ?_ | refine WPl.rdX (ReadR.loadES (by assumption) (by first | assumption | omega) rfl hasA) ?_)
     | (show WPl _ _ _ _ _ _ _ (⟨_, .slice _ _ _ _ _, _, _, _, _⟩ :: _) _; first | refine WPl.rdX (ReadR.sliceH rfl rfl hasA (by omega)) ?_ | refine WPl.rdX (ReadR.sliceL rfl rfl hasA (by omega)) ?_ | refine WPl.rdX (ReadR.sliceLH rfl rfl rfl hasA (by omega) (by omega)) ?_)
     | (refine WPl.spQ (fun hc => ?_) (fun hc => ?_) <;> try exact prA)
     | fail)
    exact WPq.dX (ho := ownsW) (vs := [.bool true]) [bx gK 86 (cxc gV vF (C.hand : Int)), rowN 90 6 vF C.fs.length (frs (C.fs.set i fr0)), vault C.rs] ⟨⟨C.fs.set i fr0, C.hand, C.rs⟩, rfl, by show Cv.mk _ _ = Cv.mk _ _; rw [List.map_set]; rfl, h.set .zero h.hand, by show _ = [_, rowN _ 6 vF (C.fs.set i fr0).length _, _]; rw [List.length_set]⟩
  | none =>
    rw [hco] at c8
    unfold fptr at c8
    dsimp only at c8
    have hr : C.vw.drop no = (C.vw, false) := by unfold Cv.drop; rw [at_miss hco]
    rw [hr]
    refine Triple.enter Try.func39 rfl Try.ntmps39 rfl (fun W => ?_)
    dsimp only [argsF, Nat.reduceAdd]
    repeat' (first
     | refine WPl.nil ?_ | refine WPq.then ?_ | refine WPq.thenR ?_ | refine WPq.thenE ?_ | refine WPq.blockN ?_ | refine WPq.blockR ?_ | refine WPq.blockE ?_ | refine WPq.blockO rfl ?_ | refine WPc.seq ?_ | refine WPc.block ?_ | refine WPc.ret ?_ | refine WPc.exit ?_ | refine WPc.skip ?_ | refine WPc.region ?_
     | (refine isCond ?_; first | refine WPc.cT ?_ | refine WPc.cF ?_ | (refine WPc.cQ (fun hc => ?_) (fun hc => ?_) <;> try exact prA))
     | (refine isC 8 ?_; refine WPl.cV c8 ?_ (hΔ := provsW))
     | (refine isD 10 ?_; refine WPl.rdX (readP) ?_)
     | (refine isOp ?_; first | refine WPl.rd ?_ | refine WPl.sk ?_ | refine WPl.rdB ?_)
     | (refine isSt ?_; first | refine WPl.st1 ?_ | refine WPl.stA ?_ | refine WPl.stEB ?_ | refine WPl.stRB ?_)
     | (show WPl _ _ _ _ _ _ _ (⟨_, .indexAddr _ _ _, _, _, _, _⟩ :: _) _; refine WPl.rdX (ReadR.indexE rfl rfl hasA (by first | assumption | omega)) ?_)
     | (show WPl _ _ _ _ _ _ _ (⟨_, .fieldAddr _ _ _, _, _, _, _⟩ :: _) _; refine WPl.rdX (ReadR.fieldE rfl hasA (by first | assumption | omega)) ?_)
     | (show WPl _ _ _ _ _ _ _ (⟨_, .load _ _, _, _, _, _⟩ :: _) _; first | refine WPl.rdX (ReadR.loadE rfl hasA (by assumption)) ?_ | refine WPl.rdX (ReadR.loadES (by assumption) (by first | assumption | omega) rfl hasA) ?_)
     | (show WPl _ _ _ _ _ _ _ (⟨_, .slice _ _ _ _ _, _, _, _, _⟩ :: _) _; first | refine WPl.rdX (ReadR.sliceH rfl rfl hasA (by omega)) ?_ | refine WPl.rdX (ReadR.sliceL rfl rfl hasA (by omega)) ?_ | refine WPl.rdX (ReadR.sliceLH rfl rfl rfl hasA (by omega) (by omega)) ?_)
     | (refine WPl.spQ (fun hc => ?_) (fun hc => ?_) <;> try exact prA)
     | fail)
    exact WPq.dX (ho := ownsW) (vs := [.bool false]) (chA gK gV vF C) ⟨C, rfl, rfl, h, rfl⟩
end
end Go.Proofs.Ytepmikgjnmjheaa
