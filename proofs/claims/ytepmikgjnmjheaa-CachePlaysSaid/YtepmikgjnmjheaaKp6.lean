/- What the row of cachePlays_holds needs: part 6. -/
import Derived.Test.YtepmikgjnmjheaaKp5
/- Layer 5 (cache): contracts: has, Clone, Get, Put. -/
namespace Go.Proofs.Ytepmikgjnmjheaa
open Go.RowKit
set_option linter.unusedSimpArgs false
set_option linter.unusedVariables false
set_option maxRecDepth 20000
set_option maxHeartbeats 4000000
attribute [local irreducible] WPc WPl WPq ReadR OpT BinR HasS bx rdN rowN Take Takes Prov Triple ResF BuildP Done ag Int.decLt Int.decLe Int.instDecidableEq
attribute [local irreducible] mp rmp rg rgo bag vrow secs mput mget mfind mdel intsV skeys vault frs pickG
theorem clone_t (v : Value) (l : List UInt8) (hl : l.length ≤ 1000000000) : Triple Try.prog 57 #[v] [rb v l] (ROb l) := by
  refine Triple.enter Try.func57 rfl Try.ntmps57 rfl (fun W => ?_)
  dsimp only [argsF, Nat.reduceAdd]
  refine WPc.nilRow 5 ?_
  repeat' (first
   | refine WPl.nil ?_ | refine WPq.then ?_ | refine WPq.thenR ?_ | refine WPq.thenE ?_ | refine WPq.blockN ?_ | refine WPq.blockR ?_ | refine WPq.blockE ?_ | refine WPq.blockO rfl ?_ | refine WPc.seq ?_ | refine WPc.block ?_ | refine WPc.ret ?_ | refine WPc.exit ?_ | refine WPc.skip ?_ | refine WPc.region ?_
   | (refine isCond ?_; first | refine WPc.cT ?_ | refine WPc.cF ?_)
   | (refine isOp ?_; first | refine WPl.rd ?_ | refine WPl.sk ?_ | refine WPl.rdB ?_)
   | (show WPl _ _ _ _ _ _ _ (⟨_, .indexAddr _ _ _, _, _, _, _⟩ :: _) _; refine WPl.rdX (ReadR.indexE rfl rfl hasA (by first | assumption | omega)) ?_)
   | (show WPl _ _ _ _ _ _ _ (⟨_, .fieldAddr _ _ _, _, _, _, _⟩ :: _) _; refine WPl.rdX (ReadR.fieldE rfl hasA (by first | assumption | omega)) ?_)
   | (show WPl _ _ _ _ _ _ _ (⟨_, .load _ _, _, _, _, _⟩ :: _) _; first | refine WPl.rdX (ReadR.loadE rfl hasA (by assumption)) ?_ | refine WPl.rdX (ReadR.loadES (by assumption) (by first | assumption | omega) rfl hasA) ?_)
   | (show WPl _ _ _ _ _ _ _ (⟨_, .slice _ _ _ _ _, _, _, _, _⟩ :: _) _; first | refine WPl.rdX (ReadR.sliceH rfl rfl hasA (by omega)) ?_ | refine WPl.rdX (ReadR.sliceL rfl rfl hasA (by omega)) ?_ | refine WPl.rdX (ReadR.sliceLH rfl rfl rfl hasA (by omega) (by omega)) ?_)
   | fail)
  refine WPc.cS (fun hc => WPc.know (HasS.nilLen hasA hc) fun h0 => ?_) (fun hc => ?_)
  · obtain rfl := List.length_eq_zero_iff.1 h0
    repeat' (first
     | refine WPl.nil ?_ | refine WPq.then ?_ | refine WPq.thenR ?_ | refine WPq.thenE ?_ | refine WPq.blockN ?_ | refine WPq.blockR ?_ | refine WPq.blockE ?_ | refine WPq.blockO rfl ?_ | refine WPc.seq ?_ | refine WPc.block ?_ | refine WPc.ret ?_ | refine WPc.exit ?_ | refine WPc.skip ?_ | refine WPc.region ?_
     | (refine isCond ?_; first | refine WPc.cT ?_ | refine WPc.cF ?_)
     | (refine isOp ?_; first | refine WPl.rd ?_ | refine WPl.sk ?_ | refine WPl.rdB ?_)
     | (show WPl _ _ _ _ _ _ _ (⟨_, .indexAddr _ _ _, _, _, _, _⟩ :: _) _; refine WPl.rdX (ReadR.indexE rfl rfl hasA (by first | assumption | omega)) ?_)
     | (show WPl _ _ _ _ _ _ _ (⟨_, .fieldAddr _ _ _, _, _, _, _⟩ :: _) _; refine WPl.rdX (ReadR.fieldE rfl hasA (by first | assumption | omega)) ?_)
     | (show WPl _ _ _ _ _ _ _ (⟨_, .load _ _, _, _, _, _⟩ :: _) _; first | refine WPl.rdX (ReadR.loadE rfl hasA (by assumption)) ?_ | refine WPl.rdX (ReadR.loadES (by assumption) (by first | assumption | omega) rfl hasA) ?_)
     | (show WPl _ _ _ _ _ _ _ (⟨_, .slice _ _ _ _ _, _, _, _, _⟩ :: _) _; first | refine WPl.rdX (ReadR.sliceH rfl rfl hasA (by omega)) ?_ | refine WPl.rdX (ReadR.sliceL rfl rfl hasA (by omega)) ?_ | refine WPl.rdX (ReadR.sliceLH rfl rfl rfl hasA (by omega) (by omega)) ?_)
     | fail)
    all_goals try (first | exact WPq.dTp | exact WPq.dTs | exact WPq.dV | exact WPq.dR | exact WPq.dR2 | exact WPq.dH | exact WPq.dBH | exact WPq.dT)
  · skip
    repeat' (first
     | refine WPl.nil ?_ | refine WPq.then ?_ | refine WPq.thenR ?_ | refine WPq.thenE ?_ | refine WPq.blockN ?_ | refine WPq.blockR ?_ | refine WPq.blockE ?_ | refine WPq.blockO rfl ?_ | refine WPc.seq ?_ | refine WPc.block ?_ | refine WPc.ret ?_ | refine WPc.exit ?_ | refine WPc.skip ?_ | refine WPc.region ?_
     | (refine isCond ?_; first | refine WPc.cT ?_ | refine WPc.cF ?_)
     | (refine isLit ?_; refine WPl.lit fun v hv => ?_)
     | (refine isApp ?_; refine WPl.app fun v hv => ?_)
     | (refine isOp ?_; first | refine WPl.rd ?_ | refine WPl.sk ?_ | refine WPl.rdB ?_)
     | (show WPl _ _ _ _ _ _ _ (⟨_, .indexAddr _ _ _, _, _, _, _⟩ :: _) _; refine WPl.rdX (ReadR.indexE rfl rfl hasA (by first | assumption | omega)) ?_)
     | (show WPl _ _ _ _ _ _ _ (⟨_, .fieldAddr _ _ _, _, _, _, _⟩ :: _) _; refine WPl.rdX (ReadR.fieldE rfl hasA (by first | assumption | omega)) ?_)
     | (show WPl _ _ _ _ _ _ _ (⟨_, .load _ _, _, _, _, _⟩ :: _) _; first | refine WPl.rdX (ReadR.loadE rfl hasA (by assumption)) ?_ | refine WPl.rdX (ReadR.loadES (by assumption) (by first | assumption | omega) rfl hasA) ?_)
     | (show WPl _ _ _ _ _ _ _ (⟨_, .slice _ _ _ _ _, _, _, _, _⟩ :: _) _; first | refine WPl.rdX (ReadR.sliceH rfl rfl hasA (by omega)) ?_ | refine WPl.rdX (ReadR.sliceL rfl rfl hasA (by omega)) ?_ | refine WPl.rdX (ReadR.sliceLH rfl rfl rfl hasA (by omega) (by omega)) ?_)
     | fail)
    all_goals try (first | exact WPq.dTp | exact WPq.dTs | exact WPq.dV | exact WPq.dR | exact WPq.dR2 | exact WPq.dH | exact WPq.dBH | exact WPq.dT)
section
variable (gK gV : Nat) (vF : Value) (mD : Nat) (vd : Value) (n m p k : Nat) (C : CS) (S : DS)
theorem chas_t (no : Int) (hn : S.ls.length ≤ 1000000) : Triple Try.prog 55 #[hC gK, .int .i64 no] [rbx gK 86 (cxc gV vF (C.hand : Int)), rbx gV 79 (dvc S.fu vd mD S.cn), rdN vd S.ls.length (secs S.ls)] (RVal (.bool (decide (0 ≤ no) && decide (no < (S.ls.length : Int))))) := by
  have c17 := len_t gV mD vd S.fu S.cn S.ls hn
  by_cases h0 : 0 ≤ no
  · skip
    refine Triple.enter Try.func55 rfl Try.ntmps55 rfl (fun W => ?_)
    dsimp only [argsF, Nat.reduceAdd]
    repeat' (first
     | refine WPl.nil ?_ | refine WPq.then ?_ | refine WPq.thenR ?_ | refine WPq.thenE ?_ | refine WPq.blockN ?_ | refine WPq.blockR ?_ | refine WPq.blockE ?_ | refine WPq.blockO rfl ?_ | refine WPc.seq ?_ | refine WPc.block ?_ | refine WPc.ret ?_ | refine WPc.exit ?_ | refine WPc.skip ?_ | refine WPc.region ?_
     | (refine isCond ?_; first | refine WPc.cT ?_ | refine WPc.cF ?_ | (refine WPc.cQ (fun hc => ?_) (fun hc => ?_) <;> try exact prA))
     | (refine isD 6 ?_; refine WPl.rdX (readP) ?_)
     | (refine isD 9 ?_; refine WPl.rdX (ReadR.binE rfl rfl BinR.geq (congrArg Value.bool (decide_eq_true h0))) ?_)
     | (refine isD 16 ?_; refine WPl.rdX (ReadR.loadO memA rfl rfl) ?_)
     | (refine isC 17 ?_; refine WPl.cV c17 ?_ (hΔ := provsG))
     | (refine isOp ?_; first | refine WPl.rd ?_ | refine WPl.sk ?_ | refine WPl.rdB ?_)
     | (show WPl _ _ _ _ _ _ _ (⟨_, .indexAddr _ _ _, _, _, _, _⟩ :: _) _; refine WPl.rdX (ReadR.indexE rfl rfl hasA (by first | assumption | omega)) ?_)
     | (show WPl _ _ _ _ _ _ _ (⟨_, .fieldAddr _ _ _, _, _, _, _⟩ :: _) _; refine WPl.rdX (ReadR.fieldE rfl hasA (by first | assumption | omega)) ?_)
     | (show WPl _ _ _ _ _ _ _ (⟨_, .load _ _, _, _, _, _⟩ :: _) _; first | refine WPl.rdX (ReadR.loadE rfl hasA (by assumption)) ?_ | refine WPl.rdX (ReadR.loadES (by assumption) (by first | assumption | omega) rfl hasA) ?_)
     | (show WPl _ _ _ _ _ _ _ (⟨_, .slice _ _ _ _ _, _, _, _, _⟩ :: _) _; first | refine WPl.rdX (ReadR.sliceH rfl rfl hasA (by omega)) ?_ | refine WPl.rdX (ReadR.sliceL rfl rfl hasA (by omega)) ?_ | refine WPl.rdX (ReadR.sliceLH rfl rfl rfl hasA (by omega) (by omega)) ?_)
     | (refine WPl.spQ (fun hc => ?_) (fun hc => ?_) <;> try exact prA)
     | fail)
    exact WPq.dV (hc := by simp [resV, h0])
  · skip
    refine Triple.enter Try.func55 rfl Try.ntmps55 rfl (fun W => ?_)
    dsimp only [argsF, Nat.reduceAdd]
    repeat' (first
     | refine WPl.nil ?_ | refine WPq.then ?_ | refine WPq.thenR ?_ | refine WPq.thenE ?_ | refine WPq.blockN ?_ | refine WPq.blockR ?_ | refine WPq.blockE ?_ | refine WPq.blockO rfl ?_ | refine WPc.seq ?_ | refine WPc.block ?_ | refine WPc.ret ?_ | refine WPc.exit ?_ | refine WPc.skip ?_ | refine WPc.region ?_
     | (refine isCond ?_; first | refine WPc.cT ?_ | refine WPc.cF ?_ | (refine WPc.cQ (fun hc => ?_) (fun hc => ?_) <;> try exact prA))
     | (refine isD 6 ?_; refine WPl.rdX (readP) ?_)
     | (refine isD 9 ?_; refine WPl.rdX (ReadR.binE rfl rfl BinR.geq (congrArg Value.bool (decide_eq_false h0))) ?_)
     | (refine isOp ?_; first | refine WPl.rd ?_ | refine WPl.sk ?_ | refine WPl.rdB ?_)
     | (show WPl _ _ _ _ _ _ _ (⟨_, .indexAddr _ _ _, _, _, _, _⟩ :: _) _; refine WPl.rdX (ReadR.indexE rfl rfl hasA (by first | assumption | omega)) ?_)
     | (show WPl _ _ _ _ _ _ _ (⟨_, .fieldAddr _ _ _, _, _, _, _⟩ :: _) _; refine WPl.rdX (ReadR.fieldE rfl hasA (by first | assumption | omega)) ?_)
     | (show WPl _ _ _ _ _ _ _ (⟨_, .load _ _, _, _, _, _⟩ :: _) _; first | refine WPl.rdX (ReadR.loadE rfl hasA (by assumption)) ?_ | refine WPl.rdX (ReadR.loadES (by assumption) (by first | assumption | omega) rfl hasA) ?_)
     | (show WPl _ _ _ _ _ _ _ (⟨_, .slice _ _ _ _ _, _, _, _, _⟩ :: _) _; first | refine WPl.rdX (ReadR.sliceH rfl rfl hasA (by omega)) ?_ | refine WPl.rdX (ReadR.sliceL rfl rfl hasA (by omega)) ?_ | refine WPl.rdX (ReadR.sliceLH rfl rfl rfl hasA (by omega) (by omega)) ?_)
     | (refine WPl.spQ (fun hc => ?_) (fun hc => ?_) <;> try exact prA)
     | fail)
    exact WPq.dV (hc := by simp [resV, h0])
def RGet (gK gV : Nat) (vF : Value) (mD : Nat) (vd : Value) (n m p k : Nat) (r : Cv × Dv × List UInt8 × Int) : Value → List Asn → Prop := fun v Γ => ∃ C S s, v = .tuple #[s, .int .i64 r.2.2.2] ∧ s.oneCell' = true ∧ C.vw = r.1 ∧ S.vw = r.2.1 ∧ CInv n m p C ∧ DInv n k S ∧ Γ = hdN s r.2.2.1.length (u8s r.2.2.1) :: cdA gK gV vF C mD vd S
theorem cgetNo_t (no : Int) (h : CInv n m p C) (hd : DInv n k S) (hn : n ≤ 1600) (hno : no < 0 ∨ (n : Int) ≤ no) : Triple Try.prog 31 #[hC gK, .int .i64 no] (cdA gK gV vF C mD vd S) (RGet gK gV vF mD vd n m p k (C.vw, S.vw, [], 1)) := by
  have hnl := hd.nl
  have c12 := chas_t gK gV vF mD vd C S no (by omega)
  rw [show (decide (0 ≤ no) && decide (no < (S.ls.length : Int))) = false by simp; omega] at c12
  refine Triple.enter Try.func31 rfl Try.ntmps31 rfl (fun W => ?_)
  dsimp only [argsF, Nat.reduceAdd]
  repeat' (first
   | refine WPl.nil ?_ | refine WPq.then ?_ | refine WPq.thenR ?_ | refine WPq.thenE ?_ | refine WPq.blockN ?_ | refine WPq.blockR ?_ | refine WPq.blockE ?_ | refine WPq.blockO rfl ?_ | refine WPc.seq ?_ | refine WPc.block ?_ | refine WPc.ret ?_ | refine WPc.exit ?_ | refine WPc.skip ?_ | refine WPc.region ?_
   | (refine isCond ?_; first | refine WPc.cT ?_ | refine WPc.cF ?_ | (refine WPc.cQ (fun hc => ?_) (fun hc => ?_) <;> try exact prA))
   | (refine isC 12 ?_; refine WPl.cV c12 ?_ (hΔ := provsW))
   | (refine isOp ?_; first | refine WPl.rd ?_ | refine WPl.sk ?_ | refine WPl.rdB ?_)
   | (refine isSt ?_; first | refine WPl.st1 ?_ | refine WPl.stA ?_ | refine WPl.stEB ?_ | refine WPl.stRB ?_)
   | (show WPl _ _ _ _ _ _ _ (⟨_, .indexAddr _ _ _, _, _, _, _⟩ :: _) _; refine WPl.rdX (ReadR.indexE rfl rfl hasA (by first | assumption | omega)) ?_)
   | (show WPl _ _ _ _ _ _ _ (⟨_, .fieldAddr _ _ _, _, _, _, _⟩ :: _) _; refine WPl.rdX (ReadR.fieldE rfl hasA (by first | assumption | omega)) ?_)
   | (show WPl _ _ _ _ _ _ _ (⟨_, .load _ _, _, _, _, _⟩ :: _) _; first | refine WPl.rdX (ReadR.loadE rfl hasA (by assumption)) ?_ | refine WPl.rdX (ReadR.loadES (by assumption) (by first | assumption | omega) rfl hasA) ?_)
   | (show WPl _ _ _ _ _ _ _ (⟨_, .slice _ _ _ _ _, _, _, _, _⟩ :: _) _; first | refine WPl.rdX (ReadR.sliceH rfl rfl hasA (by omega)) ?_ | refine WPl.rdX (ReadR.sliceL rfl rfl hasA (by omega)) ?_ | refine WPl.rdX (ReadR.sliceLH rfl rfl rfl hasA (by omega) (by omega)) ?_)
   | (refine WPl.spQ (fun hc => ?_) (fun hc => ?_) <;> try exact prA)
   | fail)
  refine WPq.nilHd ?_
  exact WPq.dX (ho := ownsW) (vs := [.slice none 0 0, .int .i64 1]) (hdN (.slice none 0 0) 0 [] :: cdA gK gV vF C mD vd S) ⟨C, S, _, rfl, rfl, rfl, rfl, h, hd, rfl⟩
theorem cget_t (no : Nat) (h : CInv n m p C) (hd : DInv n k S) (hn : n ≤ 1600) (h8 : 8 ≤ m) (hm : m ≤ 64) (hkb : k ≤ 80000) (hno : no < n) : Triple Try.prog 31 #[hC gK, .int .i64 (no : Int)] (cdA gK gV vF C mD vd S) (RGet gK gV vF mD vd n m p (k + 1) (C.vw.get S.vw no)) := by
  have hnl := hd.nl
  have hlen := h.len
  have c12 := chas_t gK gV vF mD vd C S (no : Int) (by omega)
  rw [show (decide (0 ≤ (no : Int)) && decide ((no : Int) < (S.ls.length : Int))) = true by simp; omega] at c12
  have c16 := at_t gK gV vF (C.hand : Int) C.fs (no : Int) (by omega)
  have hL := frs_len (l := C.fs)
  have hat := at_vw (C := C) (no := (no : Int))
  cases hco : atF C.fs (no : Int) with
  | some i =>
    obtain ⟨f, hf, hff⟩ := findIdx_spec hco
    rw [Bool.and_eq_true, decide_eq_true_eq] at hff
    obtain ⟨hfu, hfn⟩ := hff
    have hfi := h.each f (List.mem_of_getElem? hf)
    obtain ⟨⟨hn0, hn1⟩, hmem⟩ := hfi.here hfu
    have hil : i < C.fs.length := (List.getElem?_eq_some_iff.1 hf).1
    rw [hco] at c16
    unfold fptr at c16
    dsimp only at c16
    obtain ⟨f', hf'⟩ : ∃ f', f' = { f with used := true } := ⟨_, rfl⟩
    have hfi' : FInv n p C.rs f' := by rw [hf']; exact ⟨hfi.one, hfi.here, (fun hx => by rw [show ({ f with used := true } : Frm).full = f.full from rfl, hfu] at hx; cases hx), hfi.pin0, hfi.pin1⟩
    have hs := frs_1 (f' := f') (o := 2) (u := .bool true) hf (by omega) (by rw [hf']; rfl)
    have hset : (C.fs.set i f')[i]? = some f' := List.getElem?_set_self hil
    have c5 : (frs (C.fs.set i f'))[i * 6 + 5]? = some f.bv := by rw [frs_cell hset (by omega), hf']; rfl
    have hL' := frs_len (l := C.fs.set i f')
    rw [List.length_set] at hL'
    have c26 := clone_t f.bv f.s.b (by rw [f.s.len]; omega)
    have hr : C.vw.get S.vw no = (setF C.vw i f'.vw, S.vw, f.s.b, 0) := by
      unfold Cv.get
      rw [← hat, hco]
      have : C.vw.fs[i]? = some f.vw := by show (C.fs.map Frm.vw)[i]? = _; rw [List.getElem?_map, hf]; rfl
      dsimp only
      rw [this, Frm.vw_some hfu]
      rw [hf']
      unfold Frm.vw
      dsimp only
      rw [hfu]; rfl
    rw [hr]
    refine Triple.enter Try.func31 rfl Try.ntmps31 rfl (fun W => ?_)
    dsimp only [argsF, Nat.reduceAdd]
    repeat' (first
     | refine WPl.nil ?_ | refine WPq.then ?_ | refine WPq.thenR ?_ | refine WPq.thenE ?_ | refine WPq.blockN ?_ | refine WPq.blockR ?_ | refine WPq.blockE ?_ | refine WPq.blockO rfl ?_ | refine WPc.seq ?_ | refine WPc.block ?_ | refine WPc.ret ?_ | refine WPc.exit ?_ | refine WPc.skip ?_ | refine WPc.region ?_
     | (refine isCond ?_; first | refine WPc.cT ?_ | refine WPc.cF ?_ | (refine WPc.cQ (fun hc => ?_) (fun hc => ?_) <;> try exact prA))
     | (refine isC 12 ?_; refine WPl.cV c12 ?_ (hΔ := provsW))
     | (refine isC 16 ?_; refine WPl.cV c16 ?_ (hΔ := provsW))
     | (refine isD 18 ?_; refine WPl.rdX (readP) ?_)
     | (refine isD 21 ?_; refine WPl.rdX (ReadR.fieldE rfl hasA (by omega)) ?_)
     | (show WPl _ _ _ _ _ _ _ (⟨_, .store _ (.tmp 21) _, _, _, _, _⟩ :: _) _; refine WPl.stEN (i := i * 6 + 2) (m := C.fs.length) (xs := frs C.fs) (by omega) ?_; rw [hs])
     | (refine isD 24 ?_; refine WPl.rdX (ReadR.fieldE rfl hasA (by omega)) ?_)
     | (refine isD 25 ?_; refine WPl.rdX (ReadR.loadE rfl hasA c5) ?_)
     | (refine isC 26 ?_; refine WPl.cR c26 (fun v26 hv26 => ?_) (hΔ := provsW))
     | (refine isOp ?_; first | refine WPl.rd ?_ | refine WPl.sk ?_ | refine WPl.rdB ?_)
     | (refine isSt ?_; first | refine WPl.st1 ?_ | refine WPl.stA ?_ | refine WPl.stEB ?_ | refine WPl.stRB ?_)
     | (show WPl _ _ _ _ _ _ _ (⟨_, .indexAddr _ _ _, _, _, _, _⟩ :: _) _; refine WPl.rdX (ReadR.indexE rfl rfl hasA (by first | assumption | omega)) ?_)
     | (show WPl _ _ _ _ _ _ _ (⟨_, .fieldAddr _ _ _, _, _, _, _⟩ :: _) _; refine WPl.rdX (ReadR.fieldE rfl hasA (by first | assumption | omega)) ?_)
     | (show WPl _ _ _ _ _ _ _ (⟨_, .load _ _, _, _, _, _⟩ :: _) _; first | refine WPl.rdX (ReadR.loadE rfl hasA (by assumption)) ?_ | refine WPl.rdX (ReadR.loadES (by assumption) (by first | assumption | omega) rfl hasA) ?_)
     | (show WPl _ _ _ _ _ _ _ (⟨_, .slice _ _ _ _ _, _, _, _, _⟩ :: _) _; first | refine WPl.rdX (ReadR.sliceH rfl rfl hasA (by omega)) ?_ | refine WPl.rdX (ReadR.sliceL rfl rfl hasA (by omega)) ?_ | refine WPl.rdX (ReadR.sliceLH rfl rfl rfl hasA (by omega) (by omega)) ?_)
     | (refine WPl.spQ (fun hc => ?_) (fun hc => ?_) <;> try exact prA)
     | fail)
    refine WPq.obHd (v := v26) (l := f.s.b) ?_
    exact WPq.dX (ho := ownsW) (vs := [v26, .int .i64 0]) (hdN v26 f.s.b.length (u8s f.s.b) :: [bx gK 86 (cxc gV vF (C.hand : Int)), rowN 90 6 vF C.fs.length (frs (C.fs.set i f')), vault C.rs, bx gV 79 (dvc S.fu vd mD S.cn), rowN 81 256 vd S.ls.length (secs S.ls), mp secM mD S.es, bag S.es]) ⟨⟨C.fs.set i f', C.hand, C.rs⟩, S, v26, rfl, hv26, by show Cv.mk _ _ = Cv.mk _ _; rw [List.map_set]; rfl, rfl, h.set hfi' h.hand, hd.mono (Nat.le_succ _), by show _ = _ :: [_, rowN _ 6 vF (C.fs.set i f').length _, _, _, _, _, _]; rw [List.length_set]⟩
  | none =>
    rw [hco] at c16
    unfold fptr at c16
    dsimp only at c16
    have c29 := room_t gK gV vF mD vd n m p k C S h hd hn h8 hm hkb
    have hr : C.vw.get S.vw no = match (C.vw.room S.vw).2.2.1 with | none => ((C.vw.room S.vw).1, (C.vw.room S.vw).2.1, [], (C.vw.room S.vw).2.2.2) | some i => if (C.vw.room S.vw).2.1.fails 1 then ((C.vw.room S.vw).1, (C.vw.room S.vw).2.1.burn 1, [], 3) else (setF (C.vw.room S.vw).1 i (some ⟨no, 0, false, true, (C.vw.room S.vw).2.1.now no⟩), (C.vw.room S.vw).2.1.burn 1, ((C.vw.room S.vw).2.1.now no).b, 0) := by
      unfold Cv.get
      rw [← hat, hco]
      rfl
    rw [hr]
    clear hr
    obtain ⟨⟨Cn, Dn, o, er⟩, hroom⟩ : ∃ x, x = C.vw.room S.vw := ⟨_, rfl⟩
    rw [← hroom] at c29 ⊢
    clear hroom
    unfold RRoom at c29
    cases o with
    | none =>
      dsimp only [fptr] at c29 ⊢
      refine Triple.enter Try.func31 rfl Try.ntmps31 rfl (fun W => ?_)
      dsimp only [argsF, Nat.reduceAdd]
      repeat' (first
       | refine WPl.nil ?_ | refine WPq.then ?_ | refine WPq.thenR ?_ | refine WPq.thenE ?_ | refine WPq.blockN ?_ | refine WPq.blockR ?_ | refine WPq.blockE ?_ | refine WPq.blockO rfl ?_ | refine WPc.seq ?_ | refine WPc.block ?_ | refine WPc.ret ?_ | refine WPc.exit ?_ | refine WPc.skip ?_ | refine WPc.region ?_
       | (refine isCond ?_; first | refine WPc.cT ?_ | refine WPc.cF ?_ | (refine WPc.cQ (fun hc => ?_) (fun hc => ?_) <;> try exact prA))
       | (refine isC 12 ?_; refine WPl.cV c12 ?_ (hΔ := provsW))
       | (refine isC 16 ?_; refine WPl.cV c16 ?_ (hΔ := provsW))
       | (refine isD 18 ?_; refine WPl.rdX (readP) ?_)
       | (refine isC 29 ?_; refine WPl.cXs (c29) fun v Γ1 hR => ?_; (obtain ⟨C1, S1, rfl, hCv, hSv, hCi, hDi, hrs, hfr, hne, rfl⟩ := hR; have her := hne rfl); (try dsimp only [putF, List.cons_append, List.nil_append]))
       | (refine isD 33 ?_; refine WPl.rdX (ReadR.binE rfl rfl BinR.neq (congrArg Value.bool (show (!decide _) = true by rw [decide_eq_false her]; rfl))) ?_)
       | (refine isOp ?_; first | refine WPl.rd ?_ | refine WPl.sk ?_ | refine WPl.rdB ?_)
       | (refine isSt ?_; first | refine WPl.st1 ?_ | refine WPl.stA ?_ | refine WPl.stEB ?_ | refine WPl.stRB ?_)
       | (show WPl _ _ _ _ _ _ _ (⟨_, .indexAddr _ _ _, _, _, _, _⟩ :: _) _; refine WPl.rdX (ReadR.indexE rfl rfl hasA (by first | assumption | omega)) ?_)
       | (show WPl _ _ _ _ _ _ _ (⟨_, .fieldAddr _ _ _, _, _, _, _⟩ :: _) _; refine WPl.rdX (ReadR.fieldE rfl hasA (by first | assumption | omega)) ?_)
       | (show WPl _ _ _ _ _ _ _ (⟨_, .load _ _, _, _, _, _⟩ :: _) _; first | refine WPl.rdX (ReadR.loadE rfl hasA (by assumption)) ?_ | refine WPl.rdX (ReadR.loadES (by assumption) (by first | assumption | omega) rfl hasA) ?_)
       | (show WPl _ _ _ _ _ _ _ (⟨_, .slice _ _ _ _ _, _, _, _, _⟩ :: _) _; first | refine WPl.rdX (ReadR.sliceH rfl rfl hasA (by omega)) ?_ | refine WPl.rdX (ReadR.sliceL rfl rfl hasA (by omega)) ?_ | refine WPl.rdX (ReadR.sliceLH rfl rfl rfl hasA (by omega) (by omega)) ?_)
       | (refine WPl.spQ (fun hc => ?_) (fun hc => ?_) <;> try exact prA)
       | fail)
      refine WPq.nilHd ?_
      exact WPq.dX (ho := ownsW) (vs := [.slice none 0 0, .int .i64 er]) (hdN (.slice none 0 0) 0 [] :: cdA gK gV vF C1 mD vd S1) ⟨C1, S1, _, rfl, rfl, hCv, hSv, hCi, hDi, rfl⟩
    | some i =>
      dsimp only [fptr] at c29 ⊢
      by_cases hfl : Dn.fails 1 = true
      · have hrd : Dn.rd no = (Dn.burn 1, [], 3) := by unfold Dv.rd; rw [if_pos hfl]
        rw [if_pos hfl]
        refine Triple.enter Try.func31 rfl Try.ntmps31 rfl (fun W => ?_)
        dsimp only [argsF, Nat.reduceAdd]
        repeat' (first
         | refine WPl.nil ?_ | refine WPq.then ?_ | refine WPq.thenR ?_ | refine WPq.thenE ?_ | refine WPq.blockN ?_ | refine WPq.blockR ?_ | refine WPq.blockE ?_ | refine WPq.blockO rfl ?_ | refine WPc.seq ?_ | refine WPc.block ?_ | refine WPc.ret ?_ | refine WPc.exit ?_ | refine WPc.skip ?_ | refine WPc.region ?_
         | (refine isCond ?_; first | refine WPc.cT ?_ | refine WPc.cF ?_ | (refine WPc.cQ (fun hc => ?_) (fun hc => ?_) <;> try exact prA))
         | (refine isC 12 ?_; refine WPl.cV c12 ?_ (hΔ := provsW))
         | (refine isC 16 ?_; refine WPl.cV c16 ?_ (hΔ := provsW))
         | (refine isD 18 ?_; refine WPl.rdX (readP) ?_)
         | (refine isC 29 ?_; refine WPl.cXs (c29) fun v Γ1 hR => ?_; (obtain ⟨C1, S1, rfl, hCv, hSv, hCi, hDi, hrs, hfr, hne, rfl⟩ := hR; obtain ⟨her, f0, hf0, hf0e⟩ := hfr i rfl; have c41 := drd_t gV mD vd n (k + 1) S1 no hDi (by omega) (by omega) hno; rw [hSv, hrd] at c41); (try dsimp only [putF, List.cons_append, List.nil_append]))
         | (refine isD 33 ?_; refine WPl.rdX (ReadR.binE rfl rfl BinR.neq (congrArg Value.bool (show (!decide _) = false by rw [decide_eq_true her]; rfl))) ?_)
         | (refine isD 39 ?_; refine WPl.rdX (ReadR.loadR rfl memA rfl rfl) ?_)
         | (refine isC 41 ?_; refine WPl.cXs (c41) fun v Γ1 hR => ?_; (obtain ⟨S2, sv, rfl, hsv, hSv2, hDi2, rfl⟩ := hR); (try dsimp only [putF, List.cons_append, List.nil_append]))
         | (refine isD 45 ?_; refine WPl.rdX (ReadR.binE rfl rfl BinR.neq (congrArg Value.bool (show (!decide ((3 : Int) = 0)) = true by rw [decide_eq_false (by omega)]; rfl))) ?_)
         | (refine isOp ?_; first | refine WPl.rd ?_ | refine WPl.sk ?_ | refine WPl.rdB ?_)
         | (refine isSt ?_; first | refine WPl.st1 ?_ | refine WPl.stA ?_ | refine WPl.stEB ?_ | refine WPl.stRB ?_)
         | (show WPl _ _ _ _ _ _ _ (⟨_, .indexAddr _ _ _, _, _, _, _⟩ :: _) _; refine WPl.rdX (ReadR.indexE rfl rfl hasA (by first | assumption | omega)) ?_)
         | (show WPl _ _ _ _ _ _ _ (⟨_, .fieldAddr _ _ _, _, _, _, _⟩ :: _) _; refine WPl.rdX (ReadR.fieldE rfl hasA (by first | assumption | omega)) ?_)
         | (show WPl _ _ _ _ _ _ _ (⟨_, .load _ _, _, _, _, _⟩ :: _) _; first | refine WPl.rdX (ReadR.loadE rfl hasA (by assumption)) ?_ | refine WPl.rdX (ReadR.loadES (by assumption) (by first | assumption | omega) rfl hasA) ?_)
         | (show WPl _ _ _ _ _ _ _ (⟨_, .slice _ _ _ _ _, _, _, _, _⟩ :: _) _; first | refine WPl.rdX (ReadR.sliceH rfl rfl hasA (by omega)) ?_ | refine WPl.rdX (ReadR.sliceL rfl rfl hasA (by omega)) ?_ | refine WPl.rdX (ReadR.sliceLH rfl rfl rfl hasA (by omega) (by omega)) ?_)
         | (refine WPl.spQ (fun hc => ?_) (fun hc => ?_) <;> try exact prA)
         | fail)
        refine WPq.nilHd ?_
        exact WPq.dX (ho := ownsW) (vs := [.slice none 0 0, .int .i64 3]) (hdN (.slice none 0 0) 0 [] :: cdA gK gV vF C1 mD vd S2) ⟨C1, S2, _, rfl, rfl, hCv, hSv2, hCi, hDi2, rfl⟩
      · have hrd : Dn.rd no = (Dn.burn 1, (Dn.now no).b, 0) := by unfold Dv.rd; rw [if_neg hfl]
        rw [if_neg hfl]
        obtain ⟨s, hs⟩ : ∃ s, s = Dn.now no := ⟨_, rfl⟩
        rw [← hs] at hrd ⊢
        have hsb := s.len
        refine Triple.enter Try.func31 rfl Try.ntmps31 rfl (fun W => ?_)
        dsimp only [argsF, Nat.reduceAdd]
        repeat' (first
         | refine WPl.nil ?_ | refine WPq.then ?_ | refine WPq.thenR ?_ | refine WPq.thenE ?_ | refine WPq.blockN ?_ | refine WPq.blockR ?_ | refine WPq.blockE ?_ | refine WPq.blockO rfl ?_ | refine WPc.seq ?_ | refine WPc.block ?_ | refine WPc.ret ?_ | refine WPc.exit ?_ | refine WPc.skip ?_ | refine WPc.region ?_
         | (refine isCond ?_; first | refine WPc.cT ?_ | refine WPc.cF ?_ | (refine WPc.cQ (fun hc => ?_) (fun hc => ?_) <;> try exact prA))
         | (refine isC 12 ?_; refine WPl.cV c12 ?_ (hΔ := provsW))
         | (refine isC 16 ?_; refine WPl.cV c16 ?_ (hΔ := provsW))
         | (refine isD 18 ?_; refine WPl.rdX (readP) ?_)
         | (refine isC 29 ?_; refine WPl.cXs (c29) fun v Γ1 hR => ?_; (obtain ⟨C1, S1, rfl, hCv, hSv, hCi, hDi, hrs, hfr, hne, rfl⟩ := hR; obtain ⟨her, f0, hf0, hf0e⟩ := hfr i rfl; have c41 := drd_t gV mD vd n (k + 1) S1 no hDi (by omega) (by omega) hno; rw [hSv, hrd] at c41); (try dsimp only [putF, List.cons_append, List.nil_append]))
         | (refine isD 33 ?_; refine WPl.rdX (ReadR.binE rfl rfl BinR.neq (congrArg Value.bool (show (!decide _) = false by rw [decide_eq_true her]; rfl))) ?_)
         | (refine isD 39 ?_; refine WPl.rdX (ReadR.loadR rfl memA rfl rfl) ?_)
         | (refine isC 41 ?_; refine WPl.cXs (c41) fun v Γ1 hR => ?_; (obtain ⟨S2, sv, rfl, hsv, hSv2, hDi2, rfl⟩ := hR; have hil : i < C1.fs.length := (List.getElem?_eq_some_iff.1 hf0).1; have hset := frs_set (f := ⟨true, false, true, (no : Int), 0, sv, s⟩) hil; have hfk : FOk (frC ⟨true, false, true, (no : Int), 0, sv, s⟩) := .one1 rfl (.one1 rfl (.one1 rfl (.one1 rfl (.one1 rfl (.one1 hsv .nil))))); have hL1 := frs_len (l := C1.fs); have c53 := clone_t sv s.b (by omega)); (try dsimp only [putF, List.cons_append, List.nil_append]))
         | (show WPl _ _ _ _ _ _ _ (⟨_, .store _ (.tmp 51) _, _, _, _, _⟩ :: _) _; refine WPl.stES (new := frC ⟨true, false, true, (no : Int), 0, sv, s⟩) (i := i * 6) (k := 6) (m := C1.fs.length) (xs := frs C1.fs) hfk rfl (by omega) (by omega) ?_; rw [hset])
         | (refine isC 53 ?_; refine WPl.cR c53 (fun v53 hv53 => ?_) (hΔ := provsW))
         | (refine isOp ?_; first | refine WPl.rd ?_ | refine WPl.sk ?_ | refine WPl.rdB ?_)
         | (refine isSt ?_; first | refine WPl.st1 ?_ | refine WPl.stA ?_ | refine WPl.stEB ?_ | refine WPl.stRB ?_)
         | (show WPl _ _ _ _ _ _ _ (⟨_, .indexAddr _ _ _, _, _, _, _⟩ :: _) _; refine WPl.rdX (ReadR.indexE rfl rfl hasA (by first | assumption | omega)) ?_)
         | (show WPl _ _ _ _ _ _ _ (⟨_, .fieldAddr _ _ _, _, _, _, _⟩ :: _) _; refine WPl.rdX (ReadR.fieldE rfl hasA (by first | assumption | omega)) ?_)
         | (show WPl _ _ _ _ _ _ _ (⟨_, .load _ _, _, _, _, _⟩ :: _) _; first | refine WPl.rdX (ReadR.loadE rfl hasA (by assumption)) ?_ | refine WPl.rdX (ReadR.loadES (by assumption) (by first | assumption | omega) rfl hasA) ?_)
         | (show WPl _ _ _ _ _ _ _ (⟨_, .slice _ _ _ _ _, _, _, _, _⟩ :: _) _; first | refine WPl.rdX (ReadR.sliceH rfl rfl hasA (by omega)) ?_ | refine WPl.rdX (ReadR.sliceL rfl rfl hasA (by omega)) ?_ | refine WPl.rdX (ReadR.sliceLH rfl rfl rfl hasA (by omega) (by omega)) ?_)
         | (refine WPl.spQ (fun hc => ?_) (fun hc => ?_) <;> try exact prA)
         | fail)
        refine WPq.vaultIn (A := hdN sv s.b.length (u8s s.b)) (v := sv) (s := s) .hd ?_
        refine WPq.obHd (v := v53) (l := s.b) ?_
        exact WPq.dX (ho := ownsW) (vs := [v53, .int .i64 0]) (hdN v53 s.b.length (u8s s.b) :: [bx gK 86 (cxc gV vF (C1.hand : Int)), rowN 90 6 vF C1.fs.length (frs (C1.fs.set i ⟨true, false, true, (no : Int), 0, sv, s⟩)), vault ((sv, s) :: C1.rs), bx gV 79 (dvc S2.fu vd mD S2.cn), rowN 81 256 vd S2.ls.length (secs S2.ls), mp secM mD S2.es, bag S2.es]) ⟨⟨C1.fs.set i ⟨true, false, true, (no : Int), 0, sv, s⟩, C1.hand, (sv, s) :: C1.rs⟩, S2, v53, rfl, hv53, by rw [← hCv]; show Cv.mk _ _ = Cv.mk _ _; rw [List.map_set]; rfl, hSv2, (hCi.in (sv, s)).set ⟨hsv, fun _ => ⟨⟨by show (0 : Int) ≤ (no : Int); omega, by show (no : Int) < (n : Int); omega⟩, List.mem_cons_self ..⟩, (fun hx => by cases hx), Int.le_refl _, Int.natCast_nonneg p⟩ hCi.hand, hDi2, by show _ = _ :: [_, rowN _ 6 vF (C1.fs.set i _).length _, _, _, _, _, _]; rw [List.length_set]⟩
end
end Go.Proofs.Ytepmikgjnmjheaa
/- Layer 5 (cache): contracts: Put, Pin, Unpin, Drop. -/
namespace Go.Proofs.Ytepmikgjnmjheaa
open Go.RowKit
set_option linter.unusedSimpArgs false
set_option linter.unusedVariables false
set_option maxRecDepth 20000
set_option maxHeartbeats 4000000
attribute [local irreducible] WPc WPl WPq ReadR OpT BinR HasS bx rdN rowN Take Takes Prov Triple ResF BuildP Done ag Int.decLt Int.decLe Int.instDecidableEq
attribute [local irreducible] mp rmp rg rgo bag vrow secs mput mget mfind mdel intsV skeys vault frs pickG
def Cv.pin (C : Cv) (no : Int) : Cv × Bool := match C.at no with
  | some i => (match C.fs[i]? with
    | some (some f) => (setF C i (some { f with pins := f.pins + 1 }), true)
    | _ => (C, false))
  | none => (C, false)
def Cv.unpin (C : Cv) (no : Int) : Cv × Bool := match C.at no with
  | some i => (match C.fs[i]? with
    | some (some f) => if f.pins = 0 then (C, false) else (setF C i (some { f with pins := f.pins - 1 }), true)
    | _ => (C, false))
  | none => (C, false)
def Cv.drop (C : Cv) (no : Int) : Cv × Bool := match C.at no with
  | some i => (match C.fs[i]? with
    | some (some f) => if 0 < f.pins then (C, false) else (setF C i none, true)
    | _ => (C, false))
  | none => (C, false)
/-- What 'at' finds. -/
theorem at_hit {n m p : Nat} {C : CS} {no : Int} (h : CInv n m p C) {i : Nat} (hco : atF C.fs no = some i) : ∃ f, C.fs[i]? = some f ∧ f.full = true ∧ f.no = no ∧ FInv n p C.rs f ∧ (f.bv, f.s) ∈ C.rs ∧ i < C.fs.length ∧ C.vw.at no = some i ∧ C.vw.fs[i]? = some (some ⟨f.no, f.pins, f.dirty, f.used, f.s⟩) := by
  obtain ⟨f, hf, hff⟩ := findIdx_spec hco
  rw [Bool.and_eq_true, decide_eq_true_eq] at hff
  obtain ⟨hfu, hfn⟩ := hff
  have hfi := h.each f (List.mem_of_getElem? hf)
  refine ⟨f, hf, hfu, hfn, hfi, (hfi.here hfu).2, (List.getElem?_eq_some_iff.1 hf).1, by rw [← at_vw, hco], ?_⟩
  show (C.fs.map Frm.vw)[i]? = _
  rw [List.getElem?_map, hf, Option.map_some, Frm.vw_some hfu]
theorem at_miss {C : CS} {no : Int} (hco : atF C.fs no = none) : C.vw.at no = none := by rw [← at_vw, hco]
theorem set_vw {C : CS} {i : Nat} {f : Frm} {g : Fp} (hf : f.full = true) (hg : g = ⟨f.no, f.pins, f.dirty, f.used, f.s⟩) (rs : List (Value × Sec)) : (CS.mk (C.fs.set i f) C.hand rs).vw = setF C.vw i (some g) := by
  show Cv.mk ((C.fs.set i f).map Frm.vw) _ = Cv.mk ((C.fs.map Frm.vw).set i (some g)) _
  rw [List.map_set, Frm.vw_some hf, hg]
  rfl
def RPin (gK gV : Nat) (vF : Value) (mD : Nat) (vd : Value) (n m p : Nat) (r : Cv × Bool) : Value → List Asn → Prop := fun v Γ => ∃ C, v = .bool r.2 ∧ C.vw = r.1 ∧ CInv n m p C ∧ Γ = chA gK gV vF C
section
variable (gK gV : Nat) (vF : Value) (mD : Nat) (vd : Value) (n m p k : Nat) (C : CS) (S : DS)
theorem cpin_t (no : Int) (h : CInv n m p C) (hm : m ≤ 64) (hp : p ≤ 1000000) : Triple Try.prog 32 #[hC gK, .int .i64 no] (chA gK gV vF C) (RPin gK gV vF mD vd n m (p + 1) (C.vw.pin no)) := by
  have hlen := h.len
  have c8 := at_t gK gV vF (C.hand : Int) C.fs no (by omega)
  have hL := frs_len (l := C.fs)
  cases hco : atF C.fs no with
  | some i =>
    obtain ⟨f, hf, hfu, hfn, hfi, hmem, hil, hat, hvf⟩ := at_hit h hco
    rw [hco] at c8
    unfold fptr at c8
    dsimp only at c8
    have hp0 := hfi.pin0
    have hp1 := hfi.pin1
    have hr : C.vw.pin no = (setF C.vw i (some ⟨f.no, f.pins + 1, f.dirty, f.used, f.s⟩), true) := by unfold Cv.pin; rw [hat]; dsimp only; rw [hvf]
    rw [hr]
    obtain ⟨f', hf'⟩ : ∃ f', f' = { f with pins := f.pins + 1 } := ⟨_, rfl⟩
    have hfi' : FInv n (p + 1) C.rs f' := by rw [hf']; exact ⟨hfi.one, hfi.here, (fun hx => by rw [show ({ f with pins := f.pins + 1 } : Frm).full = f.full from rfl, hfu] at hx; cases hx), by dsimp only; omega, by dsimp only; omega⟩
    have hfu' : f'.full = true := by rw [hf']; exact hfu
    have hs := frs_1 (f' := f') (o := 4) (u := .int .i64 (f.pins + 1)) hf (by omega) (by rw [hf']; rfl)
    have c4 : (frs C.fs)[i * 6 + 4]? = some (.int .i64 f.pins) := frs_cell hf (by omega)
    refine Triple.enter Try.func32 rfl Try.ntmps32 rfl (fun W => ?_)
    dsimp only [argsF, Nat.reduceAdd]
    repeat' (first
     | refine WPl.nil ?_ | refine WPq.then ?_ | refine WPq.thenR ?_ | refine WPq.thenE ?_ | refine WPq.blockN ?_ | refine WPq.blockR ?_ | refine WPq.blockE ?_ | refine WPq.blockO rfl ?_ | refine WPc.seq ?_ | refine WPc.block ?_ | refine WPc.ret ?_ | refine WPc.exit ?_ | refine WPc.skip ?_ | refine WPc.region ?_
     | (refine isCond ?_; first | refine WPc.cT ?_ | refine WPc.cF ?_ | (refine WPc.cQ (fun hc => ?_) (fun hc => ?_) <;> try exact prA))
     | (refine isC 8 ?_; refine WPl.cV c8 ?_ (hΔ := provsW))
     | (refine isD 10 ?_; refine WPl.rdX (readP) ?_)
     | (refine isD 13 ?_; refine WPl.rdX (ReadR.fieldE rfl hasA (by omega)) ?_)
     | (refine isD 14 ?_; refine WPl.rdX (ReadR.loadE rfl hasA c4) ?_)
     | (refine isD 15 ?_; refine WPl.rdX (ReadR.binE rfl rfl (BinR.addK (by simp only [kmin]; omega) (by simp only [kmax]; omega)) rfl) ?_)
     | (refine isD 17 ?_; refine WPl.rdX (ReadR.fieldE rfl hasA (by omega)) ?_)
     | (show WPl _ _ _ _ _ _ _ (⟨_, .store _ (.tmp 17) _, _, _, _, _⟩ :: _) _; refine WPl.stEN (i := i * 6 + 4) (m := C.fs.length) (xs := frs C.fs) (by omega) ?_; rw [hs])
     | (refine isOp ?_; first | refine WPl.rd ?_ | refine WPl.sk ?_ | refine WPl.rdB ?_)
     | (refine isSt ?_; first | refine WPl.st1 ?_ | refine WPl.stA ?_ | refine WPl.stEB ?_ | refine WPl.stRB ?_)
     | (show WPl _ _ _ _ _ _ _ (⟨_, .indexAddr _ _ _, _, _, _, _⟩ :: _) _; refine WPl.rdX (ReadR.indexE rfl rfl hasA (by first | assumption | omega)) ?_)
     | (show WPl _ _ _ _ _ _ _ (⟨_, .fieldAddr _ _ _, _, _, _, _⟩ :: _) _; refine WPl.rdX (ReadR.fieldE rfl hasA (by first | assumption | omega)) ?_)
     | (show WPl _ _ _ _ _ _ _ (⟨_, .load _ _, _, _, _, _⟩ :: _) _; first | refine WPl.rdX (ReadR.loadE rfl hasA (by assumption)) ?_ | refine WPl.rdX (ReadR.loadES (by assumption) (by first | assumption | omega) rfl hasA) ?_)
     | (show WPl _ _ _ _ _ _ _ (⟨_, .slice _ _ _ _ _, _, _, _, _⟩ :: _) _; first | refine WPl.rdX (ReadR.sliceH rfl rfl hasA (by omega)) ?_ | refine WPl.rdX (ReadR.sliceL rfl rfl hasA (by omega)) ?_ | refine WPl.rdX (ReadR.sliceLH rfl rfl rfl hasA (by omega) (by omega)) ?_)
     | (refine WPl.spQ (fun hc => ?_) (fun hc => ?_) <;> try exact prA)
     | fail)
    exact WPq.dX (ho := ownsW) (vs := [.bool true]) [bx gK 86 (cxc gV vF (C.hand : Int)), rowN 90 6 vF C.fs.length (frs (C.fs.set i f')), vault C.rs] ⟨⟨C.fs.set i f', C.hand, C.rs⟩, rfl, set_vw hfu' (by rw [hf']) _, (h.mono (Nat.le_succ _)).set hfi' h.hand, by show _ = [_, rowN _ 6 vF (C.fs.set i f').length _, _]; rw [List.length_set]⟩
  | none =>
    rw [hco] at c8
    unfold fptr at c8
    dsimp only at c8
    have hr : C.vw.pin no = (C.vw, false) := by unfold Cv.pin; rw [at_miss hco]
    rw [hr]
    refine Triple.enter Try.func32 rfl Try.ntmps32 rfl (fun W => ?_)
    dsimp only [argsF, Nat.reduceAdd]
    repeat' (first
     | refine WPl.nil ?_ | refine WPq.then ?_ | refine WPq.thenR ?_ | refine WPq.thenE ?_ | refine WPq.blockN ?_ | refine WPq.blockR ?_ | refine WPq.blockE ?_ | refine WPq.blockO rfl ?_ | refine WPc.seq ?_ | refine WPc.block ?_ | refine WPc.ret ?_ | refine WPc.exit ?_ | refine WPc.skip ?_ | refine WPc.region ?_
     | (refine isCond ?_; first | refine WPc.cT ?_ | refine WPc.cF ?_ | (refine WPc.cQ (fun hc => ?_) (fun hc => ?_) <;> try exact prA))
     | (refine isC 8 ?_; refine WPl.cV c8 ?_ (hΔ := provsW))
     | (refine isD 10 ?_; refine WPl.rdX (readP) ?_)
     | (refine isOp ?_; first | refine WPl.rd ?_ | refine WPl.sk ?_ | refine WPl.rdB ?_)
     | (refine isSt ?_; first | refine WPl.st1 ?_ | refine WPl.stA ?_ | refine WPl.stEB ?_ | refine WPl.stRB ?_)
     | (show WPl _ _ _ _ _ _ _ (⟨_, .indexAddr _ _ _, _, _, _, _⟩ :: _) _; refine WPl.rdX (ReadR.indexE rfl rfl hasA (by first | assumption | omega)) ?_)
     | (show WPl _ _ _ _ _ _ _ (⟨_, .fieldAddr _ _ _, _, _, _, _⟩ :: _) _; refine WPl.rdX (ReadR.fieldE rfl hasA (by first | assumption | omega)) ?_)
     | (show WPl _ _ _ _ _ _ _ (⟨_, .load _ _, _, _, _, _⟩ :: _) _; first | refine WPl.rdX (ReadR.loadE rfl hasA (by assumption)) ?_ | refine WPl.rdX (ReadR.loadES (by assumption) (by first | assumption | omega) rfl hasA) ?_)
     | (show WPl _ _ _ _ _ _ _ (⟨_, .slice _ _ _ _ _, _, _, _, _⟩ :: _) _; first | refine WPl.rdX (ReadR.sliceH rfl rfl hasA (by omega)) ?_ | refine WPl.rdX (ReadR.sliceL rfl rfl hasA (by omega)) ?_ | refine WPl.rdX (ReadR.sliceLH rfl rfl rfl hasA (by omega) (by omega)) ?_)
     | (refine WPl.spQ (fun hc => ?_) (fun hc => ?_) <;> try exact prA)
     | fail)
    exact WPq.dX (ho := ownsW) (vs := [.bool false]) (chA gK gV vF C) ⟨C, rfl, rfl, h.mono (Nat.le_succ _), rfl⟩
theorem cunpin_t (no : Int) (h : CInv n m p C) (hm : m ≤ 64) (hp : p ≤ 1000000) : Triple Try.prog 38 #[hC gK, .int .i64 no] (chA gK gV vF C) (RPin gK gV vF mD vd n m p (C.vw.unpin no)) := by
  have hlen := h.len
  have c8 := at_t gK gV vF (C.hand : Int) C.fs no (by omega)
  have hL := frs_len (l := C.fs)
  cases hco : atF C.fs no with
  | some i =>
    obtain ⟨f, hf, hfu, hfn, hfi, hmem, hil, hat, hvf⟩ := at_hit h hco
    rw [hco] at c8
    unfold fptr at c8
    dsimp only at c8
    have hp0 := hfi.pin0
    have hp1 := hfi.pin1
    have c4 : (frs C.fs)[i * 6 + 4]? = some (.int .i64 f.pins) := frs_cell hf (by omega)
    by_cases hz : f.pins = 0
    · have hr : C.vw.unpin no = (C.vw, false) := by unfold Cv.unpin; rw [hat]; dsimp only; rw [hvf]; dsimp only; rw [if_pos hz]
      rw [hr]
      refine Triple.enter Try.func38 rfl Try.ntmps38 rfl (fun W => ?_)
      dsimp only [argsF, Nat.reduceAdd]
      repeat' (first
       | refine WPl.nil ?_ | refine WPq.then ?_ | refine WPq.thenR ?_ | refine WPq.thenE ?_ | refine WPq.blockN ?_ | refine WPq.blockR ?_ | refine WPq.blockE ?_ | refine WPq.blockO rfl ?_ | refine WPc.seq ?_ | refine WPc.block ?_ | refine WPc.ret ?_ | refine WPc.exit ?_ | refine WPc.skip ?_ | refine WPc.region ?_
       | (refine isCond ?_; first | refine WPc.cT ?_ | refine WPc.cF ?_ | (refine WPc.cQ (fun hc => ?_) (fun hc => ?_) <;> try exact prA))
       | (refine isC 8 ?_; refine WPl.cV c8 ?_ (hΔ := provsW))
       | (refine isD 10 ?_; refine WPl.rdX (readP) ?_)
       | (refine isD 14 ?_; refine WPl.rdX (ReadR.fieldE rfl hasA (by omega)) ?_)
       | (refine isD 15 ?_; refine WPl.rdX (ReadR.loadE rfl hasA c4) ?_)
       | (refine isD 16 ?_; refine WPl.rdX (ReadR.binE rfl rfl BinR.eql (congrArg Value.bool (decide_eq_true hz))) ?_)
       | (refine isOp ?_; first | refine WPl.rd ?_ | refine WPl.sk ?_ | refine WPl.rdB ?_)
       | (refine isSt ?_; first | refine WPl.st1 ?_ | refine WPl.stA ?_ | refine WPl.stEB ?_ | refine WPl.stRB ?_)
       | (show WPl _ _ _ _ _ _ _ (⟨_, .indexAddr _ _ _, _, _, _, _⟩ :: _) _; refine WPl.rdX (ReadR.indexE rfl rfl hasA (by first | assumption | omega)) ?_)
       | (show WPl _ _ _ _ _ _ _ (⟨_, .fieldAddr _ _ _, _, _, _, _⟩ :: _) _; refine WPl.rdX (ReadR.fieldE rfl hasA (by first | assumption | omega)) ?_)
       | (show WPl _ _ _ _ _ _ _ (⟨_, .load _ _, _, _, _, _⟩ :: _) _; first | refine WPl.rdX (ReadR.loadE rfl hasA (by assumption)) ?_ | refine WPl.rdX (ReadR.loadES (by assumption) (by first | assumption | omega) rfl hasA) ?_)
       | (show WPl _ _ _ _ _ _ _ (⟨_, .slice _ _ _ _ _, _, _, _, _⟩ :: _) _; first | refine WPl.rdX (ReadR.sliceH rfl rfl hasA (by omega)) ?_ | refine WPl.rdX (ReadR.sliceL rfl rfl hasA (by omega)) ?_ | refine WPl.rdX (ReadR.sliceLH rfl rfl rfl hasA (by omega) (by omega)) ?_)
       | (refine WPl.spQ (fun hc => ?_) (fun hc => ?_) <;> try exact prA)
       | fail)
      exact WPq.dX (ho := ownsW) (vs := [.bool false]) (chA gK gV vF C) ⟨C, rfl, rfl, h, rfl⟩
    have hr : C.vw.unpin no = (setF C.vw i (some ⟨f.no, f.pins - 1, f.dirty, f.used, f.s⟩), true) := by unfold Cv.unpin; rw [hat]; dsimp only; rw [hvf]; dsimp only; rw [if_neg hz]
    rw [hr]
    obtain ⟨f', hf'⟩ : ∃ f', f' = { f with pins := f.pins - 1 } := ⟨_, rfl⟩
    have hfi' : FInv n p C.rs f' := by rw [hf']; exact ⟨hfi.one, hfi.here, (fun hx => by rw [show ({ f with pins := f.pins - 1 } : Frm).full = f.full from rfl, hfu] at hx; cases hx), by dsimp only; omega, by dsimp only; omega⟩
    have hfu' : f'.full = true := by rw [hf']; exact hfu
    have hs := frs_1 (f' := f') (o := 4) (u := .int .i64 (f.pins - 1)) hf (by omega) (by rw [hf']; rfl)
    refine Triple.enter Try.func38 rfl Try.ntmps38 rfl (fun W => ?_)
    dsimp only [argsF, Nat.reduceAdd]
    repeat' (first
     | refine WPl.nil ?_ | refine WPq.then ?_ | refine WPq.thenR ?_ | refine WPq.thenE ?_ | refine WPq.blockN ?_ | refine WPq.blockR ?_ | refine WPq.blockE ?_ | refine WPq.blockO rfl ?_ | refine WPc.seq ?_ | refine WPc.block ?_ | refine WPc.ret ?_ | refine WPc.exit ?_ | refine WPc.skip ?_ | refine WPc.region ?_
     | (refine isCond ?_; first | refine WPc.cT ?_ | refine WPc.cF ?_ | (refine WPc.cQ (fun hc => ?_) (fun hc => ?_) <;> try exact prA))
     | (refine isC 8 ?_; refine WPl.cV c8 ?_ (hΔ := provsW))
     | (refine isD 10 ?_; refine WPl.rdX (readP) ?_)
     | (refine isD 14 ?_; refine WPl.rdX (ReadR.fieldE rfl hasA (by omega)) ?_)
     | (refine isD 15 ?_; refine WPl.rdX (ReadR.loadE rfl hasA c4) ?_)
     | (refine isD 16 ?_; refine WPl.rdX (ReadR.binE rfl rfl BinR.eql (congrArg Value.bool (decide_eq_false hz))) ?_)
     | (refine isD 20 ?_; refine WPl.rdX (ReadR.fieldE rfl hasA (by omega)) ?_)
     | (refine isD 21 ?_; refine WPl.rdX (ReadR.loadE rfl hasA c4) ?_)
     | (refine isD 22 ?_; refine WPl.rdX (ReadR.binE rfl rfl (BinR.subI (by omega) (by omega)) rfl) ?_)
     | (refine isD 24 ?_; refine WPl.rdX (ReadR.fieldE rfl hasA (by omega)) ?_)
     | (show WPl _ _ _ _ _ _ _ (⟨_, .store _ (.tmp 24) _, _, _, _, _⟩ :: _) _; refine WPl.stEN (i := i * 6 + 4) (m := C.fs.length) (xs := frs C.fs) (by omega) ?_; rw [hs])
     | (refine isOp ?_; first | refine WPl.rd ?_ | refine WPl.sk ?_ | refine WPl.rdB ?_)
     | (refine isSt ?_; first | refine WPl.st1 ?_ | refine WPl.stA ?_ | refine WPl.stEB ?_ | refine WPl.stRB ?_)
     | (show WPl _ _ _ _ _ _ _ (⟨_, .indexAddr _ _ _, _, _, _, _⟩ :: _) _; refine WPl.rdX (ReadR.indexE rfl rfl hasA (by first | assumption | omega)) ?_)
     | (show WPl _ _ _ _ _ _ _ (⟨_, .fieldAddr _ _ _, _, _, _, _⟩ :: _) _; refine WPl.rdX (ReadR.fieldE rfl hasA (by first | assumption | omega)) ?_)
     | (show WPl _ _ _ _ _ _ _ (⟨_, .load _ _, _, _, _, _⟩ :: _) _; first | refine WPl.rdX (ReadR.loadE rfl hasA (by assumption)) ?_ | refine WPl.rdX (ReadR.loadES (by assumption) (by first | assumption | omega) rfl hasA) ?_)
     | (show WPl _ _ _ _ _ _ _ (⟨_, .slice _ _ _ _ _, _, _, _, _⟩ :: _) _; first | refine WPl.rdX (ReadR.sliceH rfl rfl hasA (by omega)) ?_ | refine WPl.rdX (ReadR.sliceL rfl rfl hasA (by omega)) ?_ | refine WPl.rdX (ReadR.sliceLH rfl rfl rfl hasA (by omega) (by omega)) ?_)
     | (refine WPl.spQ (fun hc => ?_) (fun hc => ?_) <;> try exact prA)
     | fail)
    exact WPq.dX (ho := ownsW) (vs := [.bool true]) [bx gK 86 (cxc gV vF (C.hand : Int)), rowN 90 6 vF C.fs.length (frs (C.fs.set i f')), vault C.rs] ⟨⟨C.fs.set i f', C.hand, C.rs⟩, rfl, set_vw hfu' (by rw [hf']) _, h.set hfi' h.hand, by show _ = [_, rowN _ 6 vF (C.fs.set i f').length _, _]; rw [List.length_set]⟩
  | none =>
    rw [hco] at c8
    unfold fptr at c8
    dsimp only at c8
    have hr : C.vw.unpin no = (C.vw, false) := by unfold Cv.unpin; rw [at_miss hco]
    rw [hr]
    refine Triple.enter Try.func38 rfl Try.ntmps38 rfl (fun W => ?_)
    dsimp only [argsF, Nat.reduceAdd]
    repeat' (first
     | refine WPl.nil ?_ | refine WPq.then ?_ | refine WPq.thenR ?_ | refine WPq.thenE ?_ | refine WPq.blockN ?_ | refine WPq.blockR ?_ | refine WPq.blockE ?_ | refine WPq.blockO rfl ?_ | refine WPc.seq ?_ | refine WPc.block ?_ | refine WPc.ret ?_ | refine WPc.exit ?_ | refine WPc.skip ?_ | refine WPc.region ?_
     | (refine isCond ?_; first | refine WPc.cT ?_ | refine WPc.cF ?_ | (refine WPc.cQ (fun hc => ?_) (fun hc => ?_) <;> try exact prA))
     | (refine isC 8 ?_; refine WPl.cV c8 ?_ (hΔ := provsW))
     | (refine isD 10 ?_; refine WPl.rdX (readP) ?_)
     | (refine isOp ?_; first | refine WPl.rd ?_ | refine WPl.sk ?_ | refine WPl.rdB ?_)
     | (refine isSt ?_; first | refine WPl.st1 ?_ | refine WPl.stA ?_ | refine WPl.stEB ?_ | refine WPl.stRB ?_)
     | (show WPl _ _ _ _ _ _ _ (⟨_, .indexAddr _ _ _, _, _, _, _⟩ :: _) _; refine WPl.rdX (ReadR.indexE rfl rfl hasA (by first | assumption | omega)) ?_)
     | (show WPl _ _ _ _ _ _ _ (⟨_, .fieldAddr _ _ _, _, _, _, _⟩ :: _) _; refine WPl.rdX (ReadR.fieldE rfl hasA (by first | assumption | omega)) ?_)
     | (show WPl _ _ _ _ _ _ _ (⟨_, .load _ _, _, _, _, _⟩ :: _) _; first | refine WPl.rdX (ReadR.loadE rfl hasA (by assumption)) ?_ | refine WPl.rdX (ReadR.loadES (by assumption) (by first | assumption | omega) rfl hasA) ?_)
     | (show WPl _ _ _ _ _ _ _ (⟨_, .slice _ _ _ _ _, _, _, _, _⟩ :: _) _; first | refine WPl.rdX (ReadR.sliceH rfl rfl hasA (by omega)) ?_ | refine WPl.rdX (ReadR.sliceL rfl rfl hasA (by omega)) ?_ | refine WPl.rdX (ReadR.sliceLH rfl rfl rfl hasA (by omega) (by omega)) ?_)
     | (refine WPl.spQ (fun hc => ?_) (fun hc => ?_) <;> try exact prA)
     | fail)
    exact WPq.dX (ho := ownsW) (vs := [.bool false]) (chA gK gV vF C) ⟨C, rfl, rfl, h, rfl⟩
theorem cdrop_t (no : Int) (h : CInv n m p C) (hm : m ≤ 64) (hp : p ≤ 1000000) : Triple Try.prog 39 #[hC gK, .int .i64 no] (chA gK gV vF C) (RPin gK gV vF mD vd n m p (C.vw.drop no)) := by
  have hlen := h.len
  have c8 := at_t gK gV vF (C.hand : Int) C.fs no (by omega)
  have hL := frs_len (l := C.fs)
  cases hco : atF C.fs no with
  | some i =>
    obtain ⟨f, hf, hfu, hfn, hfi, hmem, hil, hat, hvf⟩ := at_hit h hco
    rw [hco] at c8
    unfold fptr at c8
    dsimp only at c8
    have c4 : (frs C.fs)[i * 6 + 4]? = some (.int .i64 f.pins) := frs_cell hf (by omega)
    by_cases hz : f.pins > 0
    · have hr : C.vw.drop no = (C.vw, false) := by unfold Cv.drop; rw [hat]; dsimp only; rw [hvf]; dsimp only; rw [if_pos hz]
      rw [hr]
      refine Triple.enter Try.func39 rfl Try.ntmps39 rfl (fun W => ?_)
      dsimp only [argsF, Nat.reduceAdd]
      repeat' (first
       | refine WPl.nil ?_ | refine WPq.then ?_ | refine WPq.thenR ?_ | refine WPq.thenE ?_ | refine WPq.blockN ?_ | refine WPq.blockR ?_ | refine WPq.blockE ?_ | refine WPq.blockO rfl ?_ | refine WPc.seq ?_ | refine WPc.block ?_ | refine WPc.ret ?_ | refine WPc.exit ?_ | refine WPc.skip ?_ | refine WPc.region ?_
       | (refine isCond ?_; first | refine WPc.cT ?_ | refine WPc.cF ?_ | (refine WPc.cQ (fun hc => ?_) (fun hc => ?_) <;> try exact prA))
       | (refine isC 8 ?_; refine WPl.cV c8 ?_ (hΔ := provsW))
       | (refine isD 10 ?_; refine WPl.rdX (readP) ?_)
       | (refine isD 14 ?_; refine WPl.rdX (ReadR.fieldE rfl hasA (by omega)) ?_)
       | (refine isD 15 ?_; refine WPl.rdX (ReadR.loadE rfl hasA c4) ?_)
       | (refine isD 16 ?_; refine WPl.rdX (ReadR.binE rfl rfl BinR.gtr (congrArg Value.bool (decide_eq_true hz))) ?_)
       | (refine isOp ?_; first | refine WPl.rd ?_ | refine WPl.sk ?_ | refine WPl.rdB ?_)
       | (refine isSt ?_; first | refine WPl.st1 ?_ | refine WPl.stA ?_ | refine WPl.stEB ?_ | refine WPl.stRB ?_)
       | (show WPl _ _ _ _ _ _ _ (⟨_, .indexAddr _ _ _, _, _, _, _⟩ :: _) _; refine WPl.rdX (ReadR.indexE rfl rfl hasA (by first | assumption | omega)) ?_)
       | (show WPl _ _ _ _ _ _ _ (⟨_, .fieldAddr _ _ _, _, _, _, _⟩ :: _) _; refine WPl.rdX (ReadR.fieldE rfl hasA (by first | assumption | omega)) ?_)
       | (show WPl _ _ _ _ _ _ _ (⟨_, .load _ _, _, _, _, _⟩ :: _) _; first | refine WPl.rdX (ReadR.loadE rfl hasA (by assumption)) ?_ | refine WPl.rdX (ReadR.loadES (by assumption) (by first | assumption | omega) rfl hasA) ?_)
       | (show WPl _ _ _ _ _ _ _ (⟨_, .slice _ _ _ _ _, _, _, _, _⟩ :: _) _; first | refine WPl.rdX (ReadR.sliceH rfl rfl hasA (by omega)) ?_ | refine WPl.rdX (ReadR.sliceL rfl rfl hasA (by omega)) ?_ | refine WPl.rdX (ReadR.sliceLH rfl rfl rfl hasA (by omega) (by omega)) ?_)
       | (refine WPl.spQ (fun hc => ?_) (fun hc => ?_) <;> try exact prA)
       | fail)
      exact WPq.dX (ho := ownsW) (vs := [.bool false]) (chA gK gV vF C) ⟨C, rfl, rfl, h, rfl⟩
    have hr : C.vw.drop no = (setF C.vw i none, true) := by unfold Cv.drop; rw [hat]; dsimp only; rw [hvf]; dsimp only; rw [if_neg hz]
    rw [hr]
    have hz2 := frs_set (f := fr0) hil
    have hfz : FOk (frC fr0) := FInv.fok (n := n) (p := p) (rs := C.rs) .zero
    refine Triple.enter Try.func39 rfl Try.ntmps39 rfl (fun W => ?_)
    dsimp only [argsF, Nat.reduceAdd]
    repeat' (first
     | refine WPl.nil ?_ | refine WPq.then ?_ | refine WPq.thenR ?_ | refine WPq.thenE ?_ | refine WPq.blockN ?_ | refine WPq.blockR ?_ | refine WPq.blockE ?_ | refine WPq.blockO rfl ?_ | refine WPc.seq ?_ | refine WPc.block ?_ | refine WPc.ret ?_ | refine WPc.exit ?_ | refine WPc.skip ?_ | refine WPc.region ?_
     | (refine isCond ?_; first | refine WPc.cT ?_ | refine WPc.cF ?_ | (refine WPc.cQ (fun hc => ?_) (fun hc => ?_) <;> try exact prA))
     | (refine isC 8 ?_; refine WPl.cV c8 ?_ (hΔ := provsW))
     | (refine isD 10 ?_; refine WPl.rdX (readP) ?_)
     | (refine isD 14 ?_; refine WPl.rdX (ReadR.fieldE rfl hasA (by omega)) ?_)
     | (refine isD 15 ?_; refine WPl.rdX (ReadR.loadE rfl hasA c4) ?_)
     | (refine isD 16 ?_; refine WPl.rdX (ReadR.binE rfl rfl BinR.gtr (congrArg Value.bool (decide_eq_false hz))) ?_)
     | (show WPl _ _ _ _ _ _ _ (⟨_, .store _ (.tmp 20) _, _, _, _, _⟩ :: _) _; refine WPl.stES (new := frC fr0) (i := i * 6) (k := 6) (m := C.fs.length) (xs := frs C.fs) hfz rfl (by omega) (by omega) ?_; rw [hz2])
     | (refine isOp ?_; first | refine WPl.rd ?_ | refine WPl.sk ?_ | refine WPl.rdB ?_)
     | (refine isSt ?_; first | refine WPl.st1 ?_ | refine WPl.stA ?_ | refine WPl.stEB ?_ | refine WPl.stRB ?_)
     | (show WPl _ _ _ _ _ _ _ (⟨_, .indexAddr _ _ _, _, _, _, _⟩ :: _) _; refine WPl.rdX (ReadR.indexE rfl rfl hasA (by first | assumption | omega)) ?_)
     | (show WPl _ _ _ _ _ _ _ (⟨_, .fieldAddr _ _ _, _, _, _, _⟩ :: _) _; refine WPl.rdX (ReadR.fieldE rfl hasA (by first | assumption | omega)) ?_)
     | (show WPl _ _ _ _ _ _ _ (⟨_, .load _ _, _, _, _, _⟩ :: _) _; first | refine WPl.rdX (ReadR.loadE rfl hasA (by assumption)) ?_ | refine WPl.rdX (ReadR.loadES (by assumption) (by first | assumption | omega) rfl hasA) ?_)
     | (show WPl _ _ _ _ _ _ _ (⟨_, .slice _ _ _ _ _, _, _, _, _⟩ :: _) _; first | refine WPl.rdX (ReadR.sliceH rfl rfl hasA (by omega)) ?_ | refine WPl.rdX (ReadR.sliceL rfl rfl hasA (by omega)) ?_ | refine WPl.rdX (ReadR.sliceLH rfl rfl rfl hasA (by omega) (by omega)) ?_)
     | (refine WPl.spQ (fun hc => ?_) (fun hc => ?_) <;> try exact prA)
     | fail)
    exact WPq.dX (ho := ownsW) (vs := [.bool true]) [bx gK 86 (cxc gV vF (C.hand : Int)), rowN 90 6 vF C.fs.length (frs (C.fs.set i fr0)), vault C.rs] ⟨⟨C.fs.set i fr0, C.hand, C.rs⟩, rfl, by show Cv.mk _ _ = Cv.mk _ _; rw [List.map_set]; rfl, h.set .zero h.hand, by show _ = [_, rowN _ 6 vF (C.fs.set i fr0).length _, _]; rw [List.length_set]⟩
  | none =>
    rw [hco] at c8
    unfold fptr at c8
    dsimp only at c8
    have hr : C.vw.drop no = (C.vw, false) := by unfold Cv.drop; rw [at_miss hco]
    rw [hr]
    refine Triple.enter Try.func39 rfl Try.ntmps39 rfl (fun W => ?_)
    dsimp only [argsF, Nat.reduceAdd]
    repeat' (first
     | refine WPl.nil ?_ | refine WPq.then ?_ | refine WPq.thenR ?_ | refine WPq.thenE ?_ | refine WPq.blockN ?_ | refine WPq.blockR ?_ | refine WPq.blockE ?_ | refine WPq.blockO rfl ?_ | refine WPc.seq ?_ | refine WPc.block ?_ | refine WPc.ret ?_ | refine WPc.exit ?_ | refine WPc.skip ?_ | refine WPc.region ?_
     | (refine isCond ?_; first | refine WPc.cT ?_ | refine WPc.cF ?_ | (refine WPc.cQ (fun hc => ?_) (fun hc => ?_) <;> try exact prA))
     | (refine isC 8 ?_; refine WPl.cV c8 ?_ (hΔ := provsW))
     | (refine isD 10 ?_; refine WPl.rdX (readP) ?_)
     | (refine isOp ?_; first | refine WPl.rd ?_ | refine WPl.sk ?_ | refine WPl.rdB ?_)
     | (refine isSt ?_; first | refine WPl.st1 ?_ | refine WPl.stA ?_ | refine WPl.stEB ?_ | refine WPl.stRB ?_)
     | (show WPl _ _ _ _ _ _ _ (⟨_, .indexAddr _ _ _, _, _, _, _⟩ :: _) _; refine WPl.rdX (ReadR.indexE rfl rfl hasA (by first | assumption | omega)) ?_)
     | (show WPl _ _ _ _ _ _ _ (⟨_, .fieldAddr _ _ _, _, _, _, _⟩ :: _) _; refine WPl.rdX (ReadR.fieldE rfl hasA (by first | assumption | omega)) ?_)
     | (show WPl _ _ _ _ _ _ _ (⟨_, .load _ _, _, _, _, _⟩ :: _) _; first | refine WPl.rdX (ReadR.loadE rfl hasA (by assumption)) ?_ | refine WPl.rdX (ReadR.loadES (by assumption) (by first | assumption | omega) rfl hasA) ?_)
     | (show WPl _ _ _ _ _ _ _ (⟨_, .slice _ _ _ _ _, _, _, _, _⟩ :: _) _; first | refine WPl.rdX (ReadR.sliceH rfl rfl hasA (by omega)) ?_ | refine WPl.rdX (ReadR.sliceL rfl rfl hasA (by omega)) ?_ | refine WPl.rdX (ReadR.sliceLH rfl rfl rfl hasA (by omega) (by omega)) ?_)
     | (refine WPl.spQ (fun hc => ?_) (fun hc => ?_) <;> try exact prA)
     | fail)
    exact WPq.dX (ho := ownsW) (vs := [.bool false]) (chA gK gV vF C) ⟨C, rfl, rfl, h, rfl⟩
end
end Go.Proofs.Ytepmikgjnmjheaa
/- Layer 5 (cache): contracts: Put. -/
namespace Go.Proofs.Ytepmikgjnmjheaa
open Go.RowKit
set_option linter.unusedSimpArgs false
set_option linter.unusedVariables false
set_option maxRecDepth 20000
set_option maxHeartbeats 4000000
attribute [local irreducible] WPc WPl WPq ReadR OpT BinR HasS bx rdN rowN Take Takes Prov Triple ResF BuildP Done ag Int.decLt Int.decLe Int.instDecidableEq
attribute [local irreducible] mp rmp rg rgo bag vrow secs mput mget mfind mdel intsV skeys vault frs pickG
theorem frs_2 {l : List Frm} {i : Nat} {f f' : Frm} (hi : i < l.length) {o : Nat} {u : Value} (ho : o < 6) (hu : flat (frC f') = (flat (frC f)).set o u) : (frs (l.set i f)).set (i * 6 + o) u = frs (l.set i f') := by
  rw [frs_1 (List.getElem?_set_self hi) ho hu, List.set_set]
theorem pw0 {l : List Frm} {i : Nat} {f : Frm} (hf : l[i]? = some f) : (frs l).set (i * 6 + 0) (.bool true) = frs (l.set i { f with full := true }) := frs_1 hf (by omega) rfl
theorem pw3 {l : List Frm} {i : Nat} {f : Frm} (no : Int) (hil : i < l.length) : (frs (l.set i { f with full := true })).set (i * 6 + 3) (.int .i64 no) = frs (l.set i { f with full := true, no := no }) := frs_2 hil (by omega) rfl
theorem pw5 {l : List Frm} {i : Nat} {f : Frm} (no : Int) (s : Sec) (hil : i < l.length) (v : Value) : (frs (l.set i { f with full := true, no := no })).set (i * 6 + 5) v = frs (l.set i { f with full := true, no := no, bv := v, s := s }) := frs_2 hil (by omega) rfl
theorem pw1 {l : List Frm} {i : Nat} {f : Frm} (no : Int) (s : Sec) (hil : i < l.length) (v : Value) : (frs (l.set i { f with full := true, no := no, bv := v, s := s })).set (i * 6 + 1) (.bool true) = frs (l.set i { f with full := true, no := no, bv := v, s := s, dirty := true }) := frs_2 hil (by omega) rfl
theorem pw2 {l : List Frm} {i : Nat} {f : Frm} (no : Int) (s : Sec) (hil : i < l.length) (v : Value) : (frs (l.set i { f with full := true, no := no, bv := v, s := s, dirty := true })).set (i * 6 + 2) (.bool true) = frs (l.set i ⟨true, true, true, no, f.pins, v, s⟩) := frs_2 hil (by omega) rfl
theorem pwL {l : List Frm} {i : Nat} (g : Frm) : (frs (l.set i g)).length = l.length * 6 := by rw [frs_len, List.length_set]
def RPut (gK gV : Nat) (vF : Value) (mD : Nat) (vd : Value) (n m p k : Nat) (r : Cv × Dv × Int) : Value → List Asn → Prop := fun v Γ => ∃ C S, v = .int .i64 r.2.2 ∧ C.vw = r.1 ∧ S.vw = r.2.1 ∧ CInv n m p C ∧ DInv n k S ∧ Γ = cdA gK gV vF C mD vd S
section
variable (gK gV : Nat) (vF : Value) (mD : Nat) (vd : Value) (n m p k : Nat) (C : CS) (S : DS)
theorem cputNo_t (no : Int) (bv : Value) (s : Sec) (h : CInv n m p C) (hd : DInv n k S) (hn : n ≤ 1600) (hno : no < 0 ∨ (n : Int) ≤ no) : Triple Try.prog 35 #[hC gK, .int .i64 no, bv] ([rb bv s.b] ++ cdA gK gV vF C mD vd S) (RPut gK gV vF mD vd n m p k (C.vw, S.vw, 1)) := by
  have hnl := hd.nl
  have c12 := chas_t gK gV vF mD vd C S no (by omega)
  rw [show (decide (0 ≤ no) && decide (no < (S.ls.length : Int))) = false by simp; omega] at c12
  rw [show [rb bv s.b] ++ cdA gK gV vF C mD vd S = rb bv s.b :: cdA gK gV vF C mD vd S from rfl]
  refine Triple.enter Try.func35 rfl Try.ntmps35 rfl (fun W => ?_)
  dsimp only [argsF, Nat.reduceAdd]
  repeat' (first
   | refine WPl.nil ?_ | refine WPq.then ?_ | refine WPq.thenR ?_ | refine WPq.thenE ?_ | refine WPq.blockN ?_ | refine WPq.blockR ?_ | refine WPq.blockE ?_ | refine WPq.blockO rfl ?_ | refine WPc.seq ?_ | refine WPc.block ?_ | refine WPc.ret ?_ | refine WPc.exit ?_ | refine WPc.skip ?_ | refine WPc.region ?_
   | (refine isCond ?_; first | refine WPc.cT ?_ | refine WPc.cF ?_ | (refine WPc.cQ (fun hc => ?_) (fun hc => ?_) <;> try exact prA))
   | (refine isC 12 ?_; refine WPl.cV c12 ?_ (hΔ := provsW))
   | (refine isOp ?_; first | refine WPl.rd ?_ | refine WPl.sk ?_ | refine WPl.rdB ?_)
   | (refine isSt ?_; first | refine WPl.st1 ?_ | refine WPl.stA ?_ | refine WPl.stEB ?_ | refine WPl.stRB ?_)
   | (show WPl _ _ _ _ _ _ _ (⟨_, .indexAddr _ _ _, _, _, _, _⟩ :: _) _; refine WPl.rdX (ReadR.indexE rfl rfl hasA (by first | assumption | omega)) ?_)
   | (show WPl _ _ _ _ _ _ _ (⟨_, .fieldAddr _ _ _, _, _, _, _⟩ :: _) _; refine WPl.rdX (ReadR.fieldE rfl hasA (by first | assumption | omega)) ?_)
   | (show WPl _ _ _ _ _ _ _ (⟨_, .load _ _, _, _, _, _⟩ :: _) _; first | refine WPl.rdX (ReadR.loadE rfl hasA (by assumption)) ?_ | refine WPl.rdX (ReadR.loadES (by assumption) (by first | assumption | omega) rfl hasA) ?_)
   | (show WPl _ _ _ _ _ _ _ (⟨_, .slice _ _ _ _ _, _, _, _, _⟩ :: _) _; first | refine WPl.rdX (ReadR.sliceH rfl rfl hasA (by omega)) ?_ | refine WPl.rdX (ReadR.sliceL rfl rfl hasA (by omega)) ?_ | refine WPl.rdX (ReadR.sliceLH rfl rfl rfl hasA (by omega) (by omega)) ?_)
   | (refine WPl.spQ (fun hc => ?_) (fun hc => ?_) <;> try exact prA)
   | fail)
  exact WPq.dX (ho := ownsW) (vs := [.int .i64 1]) (cdA gK gV vF C mD vd S) ⟨C, S, rfl, rfl, rfl, h, hd, rfl⟩
theorem cput_t (no : Nat) (bv : Value) (s : Sec) (h : CInv n m p C) (hd : DInv n k S) (hn : n ≤ 1600) (h8 : 8 ≤ m) (hm : m ≤ 64) (hkb : k ≤ 80000) (hno : no < n) : Triple Try.prog 35 #[hC gK, .int .i64 (no : Int), bv] ([rb bv s.b] ++ cdA gK gV vF C mD vd S) (RPut gK gV vF mD vd n m p (k + 1) (C.vw.put S.vw no s)) := by
  have hnl := hd.nl
  have hlen := h.len
  have hsb := s.len
  have hsb2 : (s.b.length : Int) = 256 := by omega
  have c12 := chas_t gK gV vF mD vd C S (no : Int) (by omega)
  rw [show (decide (0 ≤ (no : Int)) && decide ((no : Int) < (S.ls.length : Int))) = true by simp; omega] at c12
  have c21 := at_t gK gV vF (C.hand : Int) C.fs (no : Int) (by omega)
  have hL := frs_len (l := C.fs)
  have c44 := clone_t bv s.b (by omega)
  rw [show [rb bv s.b] ++ cdA gK gV vF C mD vd S = rb bv s.b :: cdA gK gV vF C mD vd S from rfl]
  cases hco : atF C.fs (no : Int) with
  | some i =>
    obtain ⟨f, hf, hfu, hfn, hfi, hmem, hil, hat, hvf⟩ := at_hit h hco
    rw [hco] at c21
    unfold fptr at c21
    dsimp only at c21
    have hr : C.vw.put S.vw no s = (setF C.vw i (some ⟨f.no, f.pins, true, true, s⟩), S.vw, 0) := by unfold Cv.put; rw [hat]; dsimp only; rw [hvf]
    rw [hr]
    obtain ⟨fD, hfD⟩ : ∃ fD : Value → Frm, fD = fun v => ⟨f.full, true, true, f.no, f.pins, v, s⟩ := ⟨_, rfl⟩
    have hs5 : ∀ v, (frs C.fs).set (i * 6 + 5) v = frs (C.fs.set i { f with bv := v, s := s }) := fun v => frs_1 hf (by omega) rfl
    have hs1 : ∀ v, (frs (C.fs.set i { f with bv := v, s := s })).set (i * 6 + 1) (.bool true) = frs (C.fs.set i { f with bv := v, s := s, dirty := true }) := fun v => frs_2 hil (by omega) rfl
    have hs2 : ∀ v, (frs (C.fs.set i { f with bv := v, s := s, dirty := true })).set (i * 6 + 2) (.bool true) = frs (C.fs.set i (fD v)) := fun v => frs_2 hil (by omega) (by rw [hfD]; rfl)
    have hLs : ∀ g : Frm, (frs (C.fs.set i g)).length = C.fs.length * 6 := fun g => by rw [frs_len, List.length_set]
    refine Triple.enter Try.func35 rfl Try.ntmps35 rfl (fun W => ?_)
    dsimp only [argsF, Nat.reduceAdd]
    repeat' (first
     | refine WPl.nil ?_ | refine WPq.then ?_ | refine WPq.thenR ?_ | refine WPq.thenE ?_ | refine WPq.blockN ?_ | refine WPq.blockR ?_ | refine WPq.blockE ?_ | refine WPq.blockO rfl ?_ | refine WPc.seq ?_ | refine WPc.block ?_ | refine WPc.ret ?_ | refine WPc.exit ?_ | refine WPc.skip ?_ | refine WPc.region ?_
     | (refine isCond ?_; first | refine WPc.cT ?_ | refine WPc.cF ?_ | (refine WPc.cQ (fun hc => ?_) (fun hc => ?_) <;> try exact prA))
     | (refine isC 12 ?_; refine WPl.cV c12 ?_ (hΔ := provsW))
     | (refine isD 17 ?_; refine WPl.rdX (ReadR.binE rfl rfl BinR.neq (congrArg Value.bool (show (!decide _) = false by rw [decide_eq_true hsb2]; rfl))) ?_)
     | (refine isC 21 ?_; refine WPl.cV c21 ?_ (hΔ := provsW))
     | (refine isD 23 ?_; refine WPl.rdX (readP) ?_)
     | (refine isC 44 ?_; refine WPl.cR c44 (fun v44 hv44 => ?_) (hΔ := provsW))
     | (refine isD 46 ?_; refine WPl.rdX (ReadR.fieldE rfl hasA (by omega)) ?_)
     | (show WPl _ _ _ _ _ _ _ (⟨_, .store _ (.tmp 46) _, _, _, _, _⟩ :: _) _; refine WPl.stEN (i := i * 6 + 5) (m := C.fs.length) (xs := frs C.fs) (by omega) ?_; rw [hs5])
     | (refine isD 48 ?_; refine WPl.rdX (ReadR.fieldE rfl hasA (by rw [hLs]; omega)) ?_)
     | (show WPl _ _ _ _ _ _ _ (⟨_, .store _ (.tmp 48) _, _, _, _, _⟩ :: _) _; refine WPl.stEN (i := i * 6 + 1) (m := C.fs.length) (xs := frs (C.fs.set i { f with bv := v44, s := s })) (by rw [hLs]; omega) ?_; rw [hs1])
     | (refine isD 50 ?_; refine WPl.rdX (ReadR.fieldE rfl hasA (by rw [hLs]; omega)) ?_)
     | (show WPl _ _ _ _ _ _ _ (⟨_, .store _ (.tmp 50) _, _, _, _, _⟩ :: _) _; refine WPl.stEN (i := i * 6 + 2) (m := C.fs.length) (xs := frs (C.fs.set i { f with bv := v44, s := s, dirty := true })) (by rw [hLs]; omega) ?_; rw [hs2])
     | (refine isOp ?_; first | refine WPl.rd ?_ | refine WPl.sk ?_ | refine WPl.rdB ?_)
     | (refine isSt ?_; first | refine WPl.st1 ?_ | refine WPl.stA ?_ | refine WPl.stEB ?_ | refine WPl.stRB ?_)
     | (show WPl _ _ _ _ _ _ _ (⟨_, .indexAddr _ _ _, _, _, _, _⟩ :: _) _; refine WPl.rdX (ReadR.indexE rfl rfl hasA (by first | assumption | omega)) ?_)
     | (show WPl _ _ _ _ _ _ _ (⟨_, .fieldAddr _ _ _, _, _, _, _⟩ :: _) _; refine WPl.rdX (ReadR.fieldE rfl hasA (by first | assumption | omega)) ?_)
     | (show WPl _ _ _ _ _ _ _ (⟨_, .load _ _, _, _, _, _⟩ :: _) _; first | refine WPl.rdX (ReadR.loadE rfl hasA (by assumption)) ?_ | refine WPl.rdX (ReadR.loadES (by assumption) (by first | assumption | omega) rfl hasA) ?_)
     | (show WPl _ _ _ _ _ _ _ (⟨_, .slice _ _ _ _ _, _, _, _, _⟩ :: _) _; first | refine WPl.rdX (ReadR.sliceH rfl rfl hasA (by omega)) ?_ | refine WPl.rdX (ReadR.sliceL rfl rfl hasA (by omega)) ?_ | refine WPl.rdX (ReadR.sliceLH rfl rfl rfl hasA (by omega) (by omega)) ?_)
     | (refine WPl.spQ (fun hc => ?_) (fun hc => ?_) <;> try exact prA)
     | fail)
    refine WPq.vaultIn (A := ob v44 s.b) (v := v44) (s := s) .ob ?_
    have hfi' : FInv n p ((v44, s) :: C.rs) (fD v44) := by rw [hfD]; exact ⟨hv44, fun _ => ⟨(hfi.here hfu).1, List.mem_cons_self ..⟩, (fun hx => by rw [show (⟨f.full, true, true, f.no, f.pins, v44, s⟩ : Frm).full = f.full from rfl, hfu] at hx; cases hx), hfi.pin0, hfi.pin1⟩
    exact WPq.dX (ho := ownsW) (vs := [.int .i64 0]) [bx gK 86 (cxc gV vF (C.hand : Int)), rowN 90 6 vF C.fs.length (frs (C.fs.set i (fD v44))), vault ((v44, s) :: C.rs), bx gV 79 (dvc S.fu vd mD S.cn), rowN 81 256 vd S.ls.length (secs S.ls), mp secM mD S.es, bag S.es] ⟨⟨C.fs.set i (fD v44), C.hand, (v44, s) :: C.rs⟩, S, rfl, set_vw (by rw [hfD]; exact hfu) (by rw [hfD]) _, rfl, (h.in (v44, s)).set hfi' h.hand, hd.mono (Nat.le_succ _), by show _ = [_, rowN _ 6 vF (C.fs.set i (fD v44)).length _, _, _, _, _, _]; rw [List.length_set]⟩
  | none =>
    rw [hco] at c21
    unfold fptr at c21
    dsimp only at c21
    have c26 := room_t gK gV vF mD vd n m p k C S h hd hn h8 hm hkb
    have hr : C.vw.put S.vw no s = match (C.vw.room S.vw).2.2.1 with | none => ((C.vw.room S.vw).1, (C.vw.room S.vw).2.1, (C.vw.room S.vw).2.2.2) | some i => (setF (C.vw.room S.vw).1 i (some ⟨no, 0, true, true, s⟩), (C.vw.room S.vw).2.1, 0) := by
      unfold Cv.put
      rw [at_miss hco]
      rfl
    rw [hr]
    clear hr
    obtain ⟨⟨Cn, Dn, o, er⟩, hroom⟩ : ∃ x, x = C.vw.room S.vw := ⟨_, rfl⟩
    rw [← hroom] at c26 ⊢
    clear hroom
    unfold RRoom at c26
    cases o with
    | none =>
      dsimp only [fptr] at c26 ⊢
      refine Triple.enter Try.func35 rfl Try.ntmps35 rfl (fun W => ?_)
      dsimp only [argsF, Nat.reduceAdd]
      repeat' (first
       | refine WPl.nil ?_ | refine WPq.then ?_ | refine WPq.thenR ?_ | refine WPq.thenE ?_ | refine WPq.blockN ?_ | refine WPq.blockR ?_ | refine WPq.blockE ?_ | refine WPq.blockO rfl ?_ | refine WPc.seq ?_ | refine WPc.block ?_ | refine WPc.ret ?_ | refine WPc.exit ?_ | refine WPc.skip ?_ | refine WPc.region ?_
       | (refine isCond ?_; first | refine WPc.cT ?_ | refine WPc.cF ?_ | (refine WPc.cQ (fun hc => ?_) (fun hc => ?_) <;> try exact prA))
       | (refine isC 12 ?_; refine WPl.cV c12 ?_ (hΔ := provsW))
       | (refine isD 17 ?_; refine WPl.rdX (ReadR.binE rfl rfl BinR.neq (congrArg Value.bool (show (!decide _) = false by rw [decide_eq_true hsb2]; rfl))) ?_)
       | (refine isC 21 ?_; refine WPl.cV c21 ?_ (hΔ := provsW))
       | (refine isD 23 ?_; refine WPl.rdX (readP) ?_)
       | (refine isC 26 ?_; refine WPl.cXs (c26) fun v Γ1 hR => ?_; (obtain ⟨C1, S1, rfl, hCv, hSv, hCi, hDi, hrs, hfr, hne, rfl⟩ := hR; have her := hne rfl); (try dsimp only [putF, List.cons_append, List.nil_append]))
       | (refine isD 30 ?_; refine WPl.rdX (ReadR.binE rfl rfl BinR.neq (congrArg Value.bool (show (!decide _) = true by rw [decide_eq_false her]; rfl))) ?_)
       | (refine isOp ?_; first | refine WPl.rd ?_ | refine WPl.sk ?_ | refine WPl.rdB ?_)
       | (refine isSt ?_; first | refine WPl.st1 ?_ | refine WPl.stA ?_ | refine WPl.stEB ?_ | refine WPl.stRB ?_)
       | (show WPl _ _ _ _ _ _ _ (⟨_, .indexAddr _ _ _, _, _, _, _⟩ :: _) _; refine WPl.rdX (ReadR.indexE rfl rfl hasA (by first | assumption | omega)) ?_)
       | (show WPl _ _ _ _ _ _ _ (⟨_, .fieldAddr _ _ _, _, _, _, _⟩ :: _) _; refine WPl.rdX (ReadR.fieldE rfl hasA (by first | assumption | omega)) ?_)
       | (show WPl _ _ _ _ _ _ _ (⟨_, .load _ _, _, _, _, _⟩ :: _) _; first | refine WPl.rdX (ReadR.loadE rfl hasA (by assumption)) ?_ | refine WPl.rdX (ReadR.loadES (by assumption) (by first | assumption | omega) rfl hasA) ?_)
       | (show WPl _ _ _ _ _ _ _ (⟨_, .slice _ _ _ _ _, _, _, _, _⟩ :: _) _; first | refine WPl.rdX (ReadR.sliceH rfl rfl hasA (by omega)) ?_ | refine WPl.rdX (ReadR.sliceL rfl rfl hasA (by omega)) ?_ | refine WPl.rdX (ReadR.sliceLH rfl rfl rfl hasA (by omega) (by omega)) ?_)
       | (refine WPl.spQ (fun hc => ?_) (fun hc => ?_) <;> try exact prA)
       | fail)
      exact WPq.dX (ho := ownsW) (vs := [.int .i64 er]) (cdA gK gV vF C1 mD vd S1) ⟨C1, S1, rfl, hCv, hSv, hCi, hDi, rfl⟩
    | some i =>
      dsimp only [fptr] at c26 ⊢
      refine Triple.enter Try.func35 rfl Try.ntmps35 rfl (fun W => ?_)
      dsimp only [argsF, Nat.reduceAdd]
      repeat' (first
       | refine WPl.nil ?_ | refine WPq.then ?_ | refine WPq.thenR ?_ | refine WPq.thenE ?_ | refine WPq.blockN ?_ | refine WPq.blockR ?_ | refine WPq.blockE ?_ | refine WPq.blockO rfl ?_ | refine WPc.seq ?_ | refine WPc.block ?_ | refine WPc.ret ?_ | refine WPc.exit ?_ | refine WPc.skip ?_ | refine WPc.region ?_
       | (refine isCond ?_; first | refine WPc.cT ?_ | refine WPc.cF ?_ | (refine WPc.cQ (fun hc => ?_) (fun hc => ?_) <;> try exact prA))
       | (refine isC 12 ?_; refine WPl.cV c12 ?_ (hΔ := provsW))
       | (refine isD 17 ?_; refine WPl.rdX (ReadR.binE rfl rfl BinR.neq (congrArg Value.bool (show (!decide _) = false by rw [decide_eq_true hsb2]; rfl))) ?_)
       | (refine isC 21 ?_; refine WPl.cV c21 ?_ (hΔ := provsW))
       | (refine isD 23 ?_; refine WPl.rdX (readP) ?_)
       | (refine isC 26 ?_; refine WPl.cXs (c26) fun v Γ1 hR => ?_; (obtain ⟨C1, S1, rfl, hCv, hSv, hCi, hDi, hrs, hfr, hne, rfl⟩ := hR; obtain ⟨her, f, hf, hfe⟩ := hfr i rfl; have hfi := hCi.each f (List.mem_of_getElem? hf); obtain ⟨z1, z2, z3, z4, z5⟩ := hfi.gone hfe; have hil : i < C1.fs.length := (List.getElem?_eq_some_iff.1 hf).1; have hL1 := frs_len (l := C1.fs); have hs0 := pw0 hf; have hs3 := pw3 (f := f) (no : Int) hil; have hs5 := pw5 (f := f) (no : Int) s hil; have hs1 := pw1 (f := f) (no : Int) s hil; have hs2 := pw2 (f := f) (no : Int) s hil; have hLs := @pwL C1.fs i); (try dsimp only [putF, List.cons_append, List.nil_append]))
       | (refine isD 30 ?_; refine WPl.rdX (ReadR.binE rfl rfl BinR.neq (congrArg Value.bool (show (!decide _) = false by rw [decide_eq_true her]; rfl))) ?_)
       | (refine isD 37 ?_; refine WPl.rdX (ReadR.fieldE rfl hasA (by omega)) ?_)
       | (show WPl _ _ _ _ _ _ _ (⟨_, .store _ (.tmp 37) _, _, _, _, _⟩ :: _) _; refine WPl.stEN (i := i * 6 + 0) (m := C1.fs.length) (xs := frs C1.fs) (by omega) ?_; rw [hs0])
       | (refine isD 39 ?_; refine WPl.rdX (ReadR.fieldE rfl hasA (by rw [hLs]; omega)) ?_)
       | (show WPl _ _ _ _ _ _ _ (⟨_, .store _ (.tmp 39) _, _, _, _, _⟩ :: _) _; refine WPl.stEN (i := i * 6 + 3) (m := C1.fs.length) (xs := frs (C1.fs.set i { f with full := true })) (by rw [hLs]; omega) ?_; rw [hs3])
       | (refine isC 44 ?_; refine WPl.cR c44 (fun v44 hv44 => ?_) (hΔ := provsW))
       | (refine isD 46 ?_; refine WPl.rdX (ReadR.fieldE rfl hasA (by rw [hLs]; omega)) ?_)
       | (show WPl _ _ _ _ _ _ _ (⟨_, .store _ (.tmp 46) _, _, _, _, _⟩ :: _) _; refine WPl.stEN (i := i * 6 + 5) (m := C1.fs.length) (xs := frs (C1.fs.set i { f with full := true, no := (no : Int) })) (by rw [hLs]; omega) ?_; rw [hs5])
       | (refine isD 48 ?_; refine WPl.rdX (ReadR.fieldE rfl hasA (by rw [hLs]; omega)) ?_)
       | (show WPl _ _ _ _ _ _ _ (⟨_, .store _ (.tmp 48) _, _, _, _, _⟩ :: _) _; refine WPl.stEN (i := i * 6 + 1) (m := C1.fs.length) (xs := frs (C1.fs.set i { f with full := true, no := (no : Int), bv := v44, s := s })) (by rw [hLs]; omega) ?_; rw [hs1])
       | (refine isD 50 ?_; refine WPl.rdX (ReadR.fieldE rfl hasA (by rw [hLs]; omega)) ?_)
       | (show WPl _ _ _ _ _ _ _ (⟨_, .store _ (.tmp 50) _, _, _, _, _⟩ :: _) _; refine WPl.stEN (i := i * 6 + 2) (m := C1.fs.length) (xs := frs (C1.fs.set i { f with full := true, no := (no : Int), bv := v44, s := s, dirty := true })) (by rw [hLs]; omega) ?_; rw [hs2])
       | (refine isOp ?_; first | refine WPl.rd ?_ | refine WPl.sk ?_ | refine WPl.rdB ?_)
       | (refine isSt ?_; first | refine WPl.st1 ?_ | refine WPl.stA ?_ | refine WPl.stEB ?_ | refine WPl.stRB ?_)
       | (show WPl _ _ _ _ _ _ _ (⟨_, .indexAddr _ _ _, _, _, _, _⟩ :: _) _; refine WPl.rdX (ReadR.indexE rfl rfl hasA (by first | assumption | omega)) ?_)
       | (show WPl _ _ _ _ _ _ _ (⟨_, .fieldAddr _ _ _, _, _, _, _⟩ :: _) _; refine WPl.rdX (ReadR.fieldE rfl hasA (by first | assumption | omega)) ?_)
       | (show WPl _ _ _ _ _ _ _ (⟨_, .load _ _, _, _, _, _⟩ :: _) _; first | refine WPl.rdX (ReadR.loadE rfl hasA (by assumption)) ?_ | refine WPl.rdX (ReadR.loadES (by assumption) (by first | assumption | omega) rfl hasA) ?_)
       | (show WPl _ _ _ _ _ _ _ (⟨_, .slice _ _ _ _ _, _, _, _, _⟩ :: _) _; first | refine WPl.rdX (ReadR.sliceH rfl rfl hasA (by omega)) ?_ | refine WPl.rdX (ReadR.sliceL rfl rfl hasA (by omega)) ?_ | refine WPl.rdX (ReadR.sliceLH rfl rfl rfl hasA (by omega) (by omega)) ?_)
       | (refine WPl.spQ (fun hc => ?_) (fun hc => ?_) <;> try exact prA)
       | fail)
      refine WPq.vaultIn (A := ob v44 s.b) (v := v44) (s := s) .ob ?_
      have hfi' : FInv n p ((v44, s) :: C1.rs) ⟨true, true, true, (no : Int), f.pins, v44, s⟩ := ⟨hv44, fun _ => ⟨⟨by show (0 : Int) ≤ (no : Int); omega, by show (no : Int) < (n : Int); omega⟩, List.mem_cons_self ..⟩, (fun hx => by cases hx), hfi.pin0, hfi.pin1⟩
      exact WPq.dX (ho := ownsW) (vs := [.int .i64 0]) [bx gK 86 (cxc gV vF (C1.hand : Int)), rowN 90 6 vF C1.fs.length (frs (C1.fs.set i ⟨true, true, true, (no : Int), f.pins, v44, s⟩)), vault ((v44, s) :: C1.rs), bx gV 79 (dvc S1.fu vd mD S1.cn), rowN 81 256 vd S1.ls.length (secs S1.ls), mp secM mD S1.es, bag S1.es] ⟨⟨C1.fs.set i ⟨true, true, true, (no : Int), f.pins, v44, s⟩, C1.hand, (v44, s) :: C1.rs⟩, S1, rfl, by rw [← hCv]; exact set_vw rfl (by rw [z4]) _, hSv, (hCi.in (v44, s)).set hfi' hCi.hand, hDi, by show _ = [_, rowN _ 6 vF (C1.fs.set i _).length _, _, _, _, _, _]; rw [List.length_set]⟩
end
end Go.Proofs.Ytepmikgjnmjheaa
/- slices.Sort at ints (as in XSf, without what sorts structs). -/
namespace Go.Proofs.Ytepmikgjnmjheaa
section
open Go.RowKit Go.Sort Go.Lib Go.Shelf
set_option linter.unusedSimpArgs false
set_option linter.unusedVariables false
set_option linter.unusedSectionVars false
/-- How a row of one's own lies, as the sort's laws ask it. -/
theorem row_holds {w : World} {g k : Nat} {cur : Array Value} {T : TypeId} {xs : List Value} (hb : w.heap[g]? = some (.cells cur T (0, 0))) (ht : cur.toList.take xs.length = xs) : Sort.Holds id w g 0 xs.toArray := by
  intro j hj
  have hj' : j < xs.length := by simpa using hj
  refine ⟨?_, by simp [World.frozen?, hb]⟩
  have h1 : (cur.toList.take xs.length)[j]? = xs[j]? := by rw [ht]
  rw [List.getElem?_take_of_lt hj'] at h1
  simp only [World.cell?, hb, Nat.zero_add]
  simp only [Option.isSome_none, Bool.false_eq_true, if_false]
  rw [← Array.getElem?_toList, h1]
  simp [hj']
theorem row_put {w : World} {g n : Nat} {os : Array Obj} {cur : Array Value} {T : TypeId} {k cap m : Nat} {ys : List Value} (hb : w.heap[g]? = some (.cells cur T (0, 0))) (h1 : m ≤ cap) (h2 : cap ≤ maxLen) (h3 : cur.size = cap * k) (hl : ys.length = m * k) (Q : Nat → Prop) (hQ : Q g) :
    (rowN T k (.slice (some ⟨g, 0, none⟩) m cap) m ys).holds (Sort.grow (putRow id (Sort.ahead w n) g 0 ys.toArray) os) ∧ Mod Q w (Sort.grow (putRow id (Sort.ahead w n) g 0 ys.toArray) os) := by
  have hg : g < w.heap.size := (Array.getElem?_eq_some_iff.1 hb).1
  have hle : m * k ≤ cap * k := Nat.mul_le_mul_right k h1
  constructor
  · refine ⟨hl, .inr ⟨g, cap, putCells id 0 ys.toArray cur, rfl, Nat.zero_le _, ?_, h1, h2, by simp [putCells, h3], ?_⟩⟩
    · rw [heap_grow_old _ _ (by simpa using hg)]
      simp [putRow, mapBlock, Sort.ahead, Array.getElem?_modify, hb, onCells]
    · apply List.ext_getElem?
      intro j
      by_cases hj : j < m * k
      · rw [List.getElem?_take_of_lt hj, Array.getElem?_toList]
        simp [putCells, hl, hj, show j < cur.size by omega, show j < ys.length by omega]
      · rw [List.getElem?_take_eq_none (by omega), List.getElem?_eq_none (by omega)]
  · refine ⟨rfl, rfl, rfl, by simp, by simp, fun j hj hn => ?_⟩
    rw [heap_grow_old _ _ (by simpa using hj)]
    have : g ≠ j := fun e => hn (e ▸ hQ)
    simp [putRow, mapBlock, Sort.ahead, Array.getElem?_modify, this]
theorem not_own {g : Nat} : ¬ ownFp [] g := by rintro ⟨A, hA, _⟩; cases hA
section
variable {P : Program} {ρ : Ren}
theorem sortI_t (L : Lays.n189 P ρ) {T : TypeId} (hnone : Triple P (ρ.f 189) #[.slice none 0 0] [] (RVal (.tuple #[]))) (v : Value) (l : List Int) (hl : l.length < 4611686018427387904) :
    Triple P (ρ.f 189) #[v] [rowN T 1 v l.length (intsV l)] (RTurns (.tuple #[]) [rowN T 1 v l.length (intsV (l.mergeSort fun x y => decide (x ≤ y)))]) := by
  intro w hw ha
  have hrow := hw _ (List.mem_cons_self ..)
  have hlen : (intsV l).length = l.length * 1 := by simp [intsV]
  rcases hrow.2 with ⟨hv, h0⟩ | ⟨g0, cap, cur, hv, hB, hb, hnc, hcm, hcs, ht⟩
  · subst hv
    have : l = [] := List.eq_nil_of_length_eq_zero h0
    subst this
    refine (hnone w (fun A hA => by cases hA) .nil).mono ?_
    rintro e w' ⟨v, Γ', rfl, ⟨rfl, rfl⟩, hp⟩
    exact ⟨_, _, rfl, ⟨rfl, rfl⟩, .one (hp.mod.weaken fun g _ h => (not_own h).elim) ⟨by simp [intsV], .inl ⟨rfl, rfl⟩⟩ fun g hg => by cases hg⟩
  · subst hv
    have hblk : g0 < w.heap.size := (Array.getElem?_eq_some_iff.1 hb).1
    have hid : ∀ zs : List Int, ∀ w2 : World, putRow (Value.int .i64) w2 g0 0 zs.toArray = putRow id w2 g0 0 (intsV zs).toArray := fun zs w2 => by
      unfold putRow putCells
      congr 1
      funext c
      apply Array.ext
      · simp
      · intro i h1 h2
        simp [intsV]
        split
        · rename_i h9; simp [List.getElem?_eq_getElem h9]
        · rfl
    have hH : Sort.Holds (Value.int .i64) w g0 0 l.toArray := by
      have h2 := row_holds (k := 1) hb (by rw [hlen]; exact ht)
      intro j hj
      have hj' : j < (intsV l).toArray.size := by simpa [intsV] using hj
      have h3 := h2 j hj'
      refine ⟨?_, h3.2⟩
      have h4 := h3.1
      have hjl : j < l.length := by simpa using hj
      simpa [intsV, hjl] using h4
    have h := Any.slices_Sort_int L g0 0 cap l w hH hblk hl
    refine Calls.mono h ?_
    rintro e w' ⟨rfl, n, os, rfl⟩
    rw [hid]
    have hsl : (intsV (l.mergeSort fun x y => decide (x ≤ y))).length = l.length * 1 := by simp [intsV]
    have hfin := row_put (n := n) (os := os) hb hnc hcm hcs hsl (ownFp [rowN T 1 (.slice (some ⟨g0, 0, none⟩) l.length cap) l.length (intsV l)]) ⟨_, List.mem_singleton.2 rfl, rfl, rfl⟩
    exact ⟨_, _, rfl, ⟨rfl, rfl⟩, .one hfin.2 hfin.1 fun g' hg' => .inr (by cases hg'; exact ⟨_, List.mem_singleton.2 rfl, rfl, rfl⟩)⟩
end
theorem sort0_t : Triple Try.prog 75 #[.slice none 0 0] [] (RVal (.tuple #[])) := by
  intro w hw ha
  refine (Any.slices_Sort_int_none Try.sortI none 0 w).mono ?_
  rintro e w' ⟨rfl, rfl⟩
  exact ⟨_, _, rfl, ⟨rfl, rfl⟩, .nil (Mod.refl _ _)⟩
theorem sortInts_t (v : Value) (l : List Int) (hl : l.length < 4611686018427387904) :
    Triple Try.prog 75 #[v] [rowN 3 1 v l.length (intsV l)] (RTurns (.tuple #[]) [rowN 3 1 v l.length (intsV (l.mergeSort fun x y => decide (x ≤ y)))]) :=
  sortI_t Try.sortI sort0_t v l hl
end
end Go.Proofs.Ytepmikgjnmjheaa
/- Layer 5 (cache): contracts: Held, Dirty. -/
namespace Go.Proofs.Ytepmikgjnmjheaa
open Go.RowKit
set_option linter.unusedSimpArgs false
set_option linter.unusedVariables false
set_option maxRecDepth 20000
set_option maxHeartbeats 4000000
attribute [local irreducible] WPc WPl WPq ReadR OpT BinR HasS bx rdN rowN Take Takes Prov Triple ResF BuildP Done ag Int.decLt Int.decLe Int.instDecidableEq
attribute [local irreducible] mp rmp rg rgo bag vrow secs mput mget mfind mdel intsV skeys vault frs pickG
theorem isFull_t (f : Frm) (h : f.bv.oneCell' = true) : Triple Try.prog 60 #[ag (frC f)] [] (RVal (.bool f.full)) := by
  have hk : FOk (frC f) := .one1 rfl (.one1 rfl (.one1 rfl (.one1 rfl (.one1 rfl (.one1 h .nil)))))
  refine Triple.enter Try.func60 rfl Try.ntmps60 rfl (fun W => ?_)
  dsimp only [argsF, Nat.reduceAdd]
  repeat' (first
   | refine WPl.nil ?_ | refine WPq.then ?_ | refine WPq.thenR ?_ | refine WPq.thenE ?_ | refine WPq.blockN ?_ | refine WPq.blockR ?_ | refine WPq.blockE ?_ | refine WPq.blockO rfl ?_ | refine WPc.seq ?_ | refine WPc.block ?_ | refine WPc.ret ?_ | refine WPc.exit ?_ | refine WPc.skip ?_ | refine WPc.region ?_
   | (refine isCond ?_; first | refine WPc.cT ?_ | refine WPc.cF ?_ | (refine WPc.cQ (fun hc => ?_) (fun hc => ?_) <;> try exact prA))
   | (refine isD 1 ?_; refine WPl.boxC (frC f) hk rfl (fun g1 => ?_))
   | (refine isOp ?_; first | refine WPl.rd ?_ | refine WPl.sk ?_ | refine WPl.rdB ?_)
   | (refine isBx ?_; refine WPl.nw fun g => ?_)
   | (show WPl _ _ _ _ _ _ _ (⟨_, .indexAddr _ _ _, _, _, _, _⟩ :: _) _; refine WPl.rdX (ReadR.indexE rfl rfl hasA (by first | assumption | omega)) ?_)
   | (show WPl _ _ _ _ _ _ _ (⟨_, .fieldAddr _ _ _, _, _, _, _⟩ :: _) _; refine WPl.rdX (ReadR.fieldE rfl hasA (by first | assumption | omega)) ?_)
   | (show WPl _ _ _ _ _ _ _ (⟨_, .load _ _, _, _, _, _⟩ :: _) _; first | refine WPl.rdX (ReadR.loadE rfl hasA (by assumption)) ?_ | refine WPl.rdX (ReadR.loadES (by assumption) (by first | assumption | omega) rfl hasA) ?_)
   | (show WPl _ _ _ _ _ _ _ (⟨_, .slice _ _ _ _ _, _, _, _, _⟩ :: _) _; first | refine WPl.rdX (ReadR.sliceH rfl rfl hasA (by omega)) ?_ | refine WPl.rdX (ReadR.sliceL rfl rfl hasA (by omega)) ?_ | refine WPl.rdX (ReadR.sliceLH rfl rfl rfl hasA (by omega) (by omega)) ?_)
   | (refine WPl.spQ (fun hc => ?_) (fun hc => ?_) <;> try exact prA)
   | fail)
  all_goals exact WPq.dV
theorem isDirty_t (f : Frm) (h : f.bv.oneCell' = true) : Triple Try.prog 61 #[ag (frC f)] [] (RVal (.bool (f.full && f.dirty))) := by
  have hk : FOk (frC f) := .one1 rfl (.one1 rfl (.one1 rfl (.one1 rfl (.one1 rfl (.one1 h .nil)))))
  obtain ⟨fu, di, us, no, pi, bv, s⟩ := f
  cases fu with
  | true =>
    refine Triple.enter Try.func61 rfl Try.ntmps61 rfl (fun W => ?_)
    dsimp only [argsF, Nat.reduceAdd]
    repeat' (first
     | refine WPl.nil ?_ | refine WPq.then ?_ | refine WPq.thenR ?_ | refine WPq.thenE ?_ | refine WPq.blockN ?_ | refine WPq.blockR ?_ | refine WPq.blockE ?_ | refine WPq.blockO rfl ?_ | refine WPc.seq ?_ | refine WPc.block ?_ | refine WPc.ret ?_ | refine WPc.exit ?_ | refine WPc.skip ?_ | refine WPc.region ?_
     | (refine isCond ?_; first | refine WPc.cT ?_ | refine WPc.cF ?_ | (refine WPc.cQ (fun hc => ?_) (fun hc => ?_) <;> try exact prA))
     | (refine isD 1 ?_; refine WPl.boxC (frC ⟨true, di, us, no, pi, bv, s⟩) hk rfl (fun g1 => ?_))
     | (refine isOp ?_; first | refine WPl.rd ?_ | refine WPl.sk ?_ | refine WPl.rdB ?_)
     | (refine isBx ?_; refine WPl.nw fun g => ?_)
     | (show WPl _ _ _ _ _ _ _ (⟨_, .indexAddr _ _ _, _, _, _, _⟩ :: _) _; refine WPl.rdX (ReadR.indexE rfl rfl hasA (by first | assumption | omega)) ?_)
     | (show WPl _ _ _ _ _ _ _ (⟨_, .fieldAddr _ _ _, _, _, _, _⟩ :: _) _; refine WPl.rdX (ReadR.fieldE rfl hasA (by first | assumption | omega)) ?_)
     | (show WPl _ _ _ _ _ _ _ (⟨_, .load _ _, _, _, _, _⟩ :: _) _; first | refine WPl.rdX (ReadR.loadE rfl hasA (by assumption)) ?_ | refine WPl.rdX (ReadR.loadES (by assumption) (by first | assumption | omega) rfl hasA) ?_)
     | (show WPl _ _ _ _ _ _ _ (⟨_, .slice _ _ _ _ _, _, _, _, _⟩ :: _) _; first | refine WPl.rdX (ReadR.sliceH rfl rfl hasA (by omega)) ?_ | refine WPl.rdX (ReadR.sliceL rfl rfl hasA (by omega)) ?_ | refine WPl.rdX (ReadR.sliceLH rfl rfl rfl hasA (by omega) (by omega)) ?_)
     | (refine WPl.spQ (fun hc => ?_) (fun hc => ?_) <;> try exact prA)
     | fail)
    all_goals exact WPq.dV
  | false =>
    refine Triple.enter Try.func61 rfl Try.ntmps61 rfl (fun W => ?_)
    dsimp only [argsF, Nat.reduceAdd]
    repeat' (first
     | refine WPl.nil ?_ | refine WPq.then ?_ | refine WPq.thenR ?_ | refine WPq.thenE ?_ | refine WPq.blockN ?_ | refine WPq.blockR ?_ | refine WPq.blockE ?_ | refine WPq.blockO rfl ?_ | refine WPc.seq ?_ | refine WPc.block ?_ | refine WPc.ret ?_ | refine WPc.exit ?_ | refine WPc.skip ?_ | refine WPc.region ?_
     | (refine isCond ?_; first | refine WPc.cT ?_ | refine WPc.cF ?_ | (refine WPc.cQ (fun hc => ?_) (fun hc => ?_) <;> try exact prA))
     | (refine isD 1 ?_; refine WPl.boxC (frC ⟨false, di, us, no, pi, bv, s⟩) hk rfl (fun g1 => ?_))
     | (refine isOp ?_; first | refine WPl.rd ?_ | refine WPl.sk ?_ | refine WPl.rdB ?_)
     | (refine isBx ?_; refine WPl.nw fun g => ?_)
     | (show WPl _ _ _ _ _ _ _ (⟨_, .indexAddr _ _ _, _, _, _, _⟩ :: _) _; refine WPl.rdX (ReadR.indexE rfl rfl hasA (by first | assumption | omega)) ?_)
     | (show WPl _ _ _ _ _ _ _ (⟨_, .fieldAddr _ _ _, _, _, _, _⟩ :: _) _; refine WPl.rdX (ReadR.fieldE rfl hasA (by first | assumption | omega)) ?_)
     | (show WPl _ _ _ _ _ _ _ (⟨_, .load _ _, _, _, _, _⟩ :: _) _; first | refine WPl.rdX (ReadR.loadE rfl hasA (by assumption)) ?_ | refine WPl.rdX (ReadR.loadES (by assumption) (by first | assumption | omega) rfl hasA) ?_)
     | (show WPl _ _ _ _ _ _ _ (⟨_, .slice _ _ _ _ _, _, _, _, _⟩ :: _) _; first | refine WPl.rdX (ReadR.sliceH rfl rfl hasA (by omega)) ?_ | refine WPl.rdX (ReadR.sliceL rfl rfl hasA (by omega)) ?_ | refine WPl.rdX (ReadR.sliceLH rfl rfl rfl hasA (by omega) (by omega)) ?_)
     | (refine WPl.spQ (fun hc => ?_) (fun hc => ?_) <;> try exact prA)
     | fail)
    all_goals exact WPq.dV
def nosF (p : Frm → Bool) (fs : List Frm) : List Int := (fs.filter p).map (·.no)
theorem nosF_len {p : Frm → Bool} {fs : List Frm} : (nosF p fs).length ≤ fs.length := by
  unfold nosF; rw [List.length_map]; exact List.length_filter_le _ _
theorem nosF_next {p : Frm → Bool} {fs : List Frm} {i : Nat} {f : Frm} (h : fs[i]? = some f) : nosF p (fs.take (i + 1)) = nosF p (fs.take i) ++ if p f then [f.no] else [] := by
  unfold nosF
  rw [List.take_add_one, h, List.filter_append, List.map_append]
  congr 1
  show List.map _ (List.filter p [f]) = _
  rw [List.filter_cons]
  split <;> rfl
section
variable (gK gV : Nat) (vF : Value) (hand : Int) (fs : List Frm)
theorem those_t (ch : FuncId) (hc0 : isCode Try.prog ch = true) (p : Frm → Bool) (hp : ∀ f : Frm, f.bv.oneCell' = true → Triple Try.prog ch #[ag (frC f)] [] (RVal (.bool (p f)))) (h1 : ∀ f ∈ fs, f.bv.oneCell' = true) (hm : fs.length ≤ 1000) :
    Triple Try.prog 59 #[hC gK, .func (.func ch) #[] #[]] [rbx gK 86 (cxc gV vF hand), rdN vF fs.length (frs fs)] (RRow 3 1 (nosF p fs).length (intsV ((nosF p fs).mergeSort fun x y => decide (x ≤ y)))) := by
  have hL := frs_len (l := fs)
  have e1 : rowN 3 1 (.slice none 0 0) 0 [] = rowN 3 1 (.slice none 0 0) (nosF p (fs.take 0)).length (intsV (nosF p (fs.take 0))) := by with_unfolding_all rfl
  refine Triple.enter Try.func59 rfl Try.ntmps59 rfl (fun W => ?_)
  dsimp only [argsF, Nat.reduceAdd]
  refine WPc.nilRowN 3 1 ?_
  repeat' (first
   | refine WPl.nil ?_ | refine WPq.then ?_ | refine WPq.thenR ?_ | refine WPq.thenE ?_ | refine WPq.blockN ?_ | refine WPq.blockR ?_ | refine WPq.blockE ?_ | refine WPq.blockO rfl ?_ | refine WPc.seq ?_ | refine WPc.block ?_ | refine WPc.ret ?_ | refine WPc.exit ?_ | refine WPc.skip ?_ | refine WPc.region ?_
   | (refine isCond ?_; first | refine WPc.cT ?_ | refine WPc.cF ?_ | (refine WPc.cQ (fun hc => ?_) (fun hc => ?_) <;> try exact prA))
   | (refine isD 9 ?_; refine WPl.rdX (readP) ?_)
   | (refine isD 13 ?_; refine WPl.rdX (ReadR.loadO memA rfl rfl) ?_)
   | (refine isOp ?_; first | refine WPl.rd ?_ | refine WPl.sk ?_ | refine WPl.rdB ?_)
   | (refine isAl ?_; refine WPl.nw fun g => ?_)
   | (refine isSt ?_; first | refine WPl.st1 ?_ | refine WPl.stA ?_ | refine WPl.stEB ?_ | refine WPl.stRB ?_)
   | (show WPl _ _ _ _ _ _ _ (⟨_, .indexAddr _ _ _, _, _, _, _⟩ :: _) _; refine WPl.rdX (ReadR.indexE rfl rfl hasA (by first | assumption | omega)) ?_)
   | (show WPl _ _ _ _ _ _ _ (⟨_, .fieldAddr _ _ _, _, _, _, _⟩ :: _) _; refine WPl.rdX (ReadR.fieldE rfl hasA (by first | assumption | omega)) ?_)
   | (show WPl _ _ _ _ _ _ _ (⟨_, .load _ _, _, _, _, _⟩ :: _) _; first | refine WPl.rdX (ReadR.loadE rfl hasA (by assumption)) ?_ | refine WPl.rdX (ReadR.loadES (by assumption) (by first | assumption | omega) rfl hasA) ?_)
   | (show WPl _ _ _ _ _ _ _ (⟨_, .slice _ _ _ _ _, _, _, _, _⟩ :: _) _; first | refine WPl.rdX (ReadR.sliceH rfl rfl hasA (by omega)) ?_ | refine WPl.rdX (ReadR.sliceL rfl rfl hasA (by omega)) ?_ | refine WPl.rdX (ReadR.sliceLH rfl rfl rfl hasA (by omega) (by omega)) ?_)
   | (refine WPl.spQ (fun hc => ?_) (fun hc => ?_) <;> try exact prA)
   | fail)
  rw [e1]
  first | refine WPc.loop (σ := Nat × Value) (fun st => st.1 ≤ fs.length ∧ st.2.oneCell' = true) (fun st => [rbx gK 86 (cxc gV vF hand), rdN vF fs.length (frs fs), rowN 3 1 st.2 (nosF p (fs.take st.1)).length (intsV (nosF p (fs.take st.1)))]) (fun st => [(0, hC gK), (1, .func (.func ch) #[] #[]), (5, st.2), (13, vF), (14, .int .i64 (fs.length : Int)), (15, .int .i64 (st.1 : Int))]) (fun st => fs.length - st.1) ((0, .slice none 0 0)) ?_ takesA frsA (fun st km hx hk => ?_)
  · exact ⟨Nat.zero_le _, rfl⟩
  obtain ⟨i, vo⟩ := st
  obtain ⟨hi, hvo⟩ := hx
  dsimp only at hi hvo hk ⊢
  have hkm : km = fs.length - i := hk
  clear hk
  have hnl := nosF_len (p := p) (fs := fs.take i)
  rw [List.length_take] at hnl
  by_cases hlt : i < fs.length
  · obtain ⟨f, hf⟩ : ∃ f, fs[i]? = some f := ⟨_, List.getElem?_eq_getElem hlt⟩
    have hone := h1 f (List.mem_of_getElem? hf)
    have hfk : FOk (frC f) := .one1 rfl (.one1 rfl (.one1 rfl (.one1 rfl (.one1 rfl (.one1 hone .nil)))))
    have hfa := frs_at hf
    have c21 := hp f hone
    have hnx := nosF_next (p := p) hf
    cases hpf : p f with
    | true =>
      rw [hpf, if_pos rfl] at hnx
      rw [hpf] at c21
      have hrow : ∀ v2, rowN 3 1 v2 ((nosF p (fs.take i)).length + 1) (intsV (nosF p (fs.take i)) ++ [.int .i64 f.no]) = rowN 3 1 v2 (nosF p (fs.take (i + 1))).length (intsV (nosF p (fs.take (i + 1)))) := fun v2 => by
        rw [hnx, List.length_append]
        with_unfolding_all (unfold intsV; rw [List.map_append]; rfl)
      repeat' (first
       | refine WPl.nil ?_ | refine WPq.then ?_ | refine WPq.thenR ?_ | refine WPq.thenE ?_ | refine WPq.blockN ?_ | refine WPq.blockR ?_ | refine WPq.blockE ?_ | refine WPq.blockO rfl ?_ | refine WPc.seq ?_ | refine WPc.block ?_ | refine WPc.ret ?_ | refine WPc.exit ?_ | refine WPc.skip ?_ | refine WPc.region ?_
       | (refine isCond ?_; first | refine WPc.cT ?_ | refine WPc.cF ?_ | (refine WPc.cQ (fun hc => ?_) (fun hc => ?_) <;> try first | exact prA | (exfalso; first | omega)))
       | (refine isD 17 ?_; refine WPl.rdX (ReadR.indexE (i := i) rfl rfl hasA hlt) ?_)
       | (refine isD 18 ?_; refine WPl.rdX (ReadR.loadES (cs := frC f) hfa (by omega) rfl hasA) ?_)
       | (refine isD 7 ?_; first | (refine isAl ?_; refine WPl.nw fun g7 => ?_) | (refine isBx ?_; refine WPl.nw fun g7 => ?_))
       | (show WPl _ _ _ _ _ _ _ (⟨_, .store _ (.tmp 7) _, _, _, _, _⟩ :: _) _; refine WPl.stA (new := frC f) ?_ (hn := hfk))
       | (refine isD 21 ?_; refine WPl.cFV [ag (frC f)] [] c21 ?_ (hc := hc0))
       | (refine isLit ?_; refine WPl.lits fun w25 hw25 => ?_)
       | (refine isD 26 ?_; refine WPl.appN (m := (nosF p (fs.take i)).length) (m2 := 1) (xs := intsV (nosF p (fs.take i))) (ys := [.int .i64 f.no]) rfl (fun u hu => by rw [List.mem_singleton.1 hu]; rfl) (by omega) fun v2 hv2 => ?_)
       | (refine isOp ?_; first | refine WPl.rd ?_ | refine WPl.sk ?_ | refine WPl.rdB ?_)
       | (refine isAl ?_; refine WPl.nw fun g => ?_)
       | (refine isSt ?_; first | refine WPl.st1 ?_ | refine WPl.stA ?_ | refine WPl.stEB ?_ | refine WPl.stRB ?_)
       | (show WPl _ _ _ _ _ _ _ (⟨_, .indexAddr _ _ _, _, _, _, _⟩ :: _) _; refine WPl.rdX (ReadR.indexE rfl rfl hasA (by first | assumption | omega)) ?_)
       | (show WPl _ _ _ _ _ _ _ (⟨_, .fieldAddr _ _ _, _, _, _, _⟩ :: _) _; refine WPl.rdX (ReadR.fieldE rfl hasA (by first | assumption | omega)) ?_)
       | (show WPl _ _ _ _ _ _ _ (⟨_, .load _ _, _, _, _, _⟩ :: _) _; first | refine WPl.rdX (ReadR.loadE rfl hasA (by assumption)) ?_ | refine WPl.rdX (ReadR.loadES (by assumption) (by first | assumption | omega) rfl hasA) ?_)
       | (show WPl _ _ _ _ _ _ _ (⟨_, .slice _ _ _ _ _, _, _, _, _⟩ :: _) _; first | refine WPl.rdX (ReadR.sliceH rfl rfl hasA (by omega)) ?_ | refine WPl.rdX (ReadR.sliceL rfl rfl hasA (by omega)) ?_ | refine WPl.rdX (ReadR.sliceLH rfl rfl rfl hasA (by omega) (by omega)) ?_)
       | (refine WPl.spQ (fun hc => ?_) (fun hc => ?_) <;> try first | exact prA | (exfalso; first | omega))
       | fail)
      rw [hrow]
      exact WPq.rnd (i + 1, v2) ⟨hlt, hv2⟩ (by dsimp only; omega)
    | false =>
      rw [hpf, if_neg (by simp), List.append_nil] at hnx
      rw [hpf] at c21
      repeat' (first
       | refine WPl.nil ?_ | refine WPq.then ?_ | refine WPq.thenR ?_ | refine WPq.thenE ?_ | refine WPq.blockN ?_ | refine WPq.blockR ?_ | refine WPq.blockE ?_ | refine WPq.blockO rfl ?_ | refine WPc.seq ?_ | refine WPc.block ?_ | refine WPc.ret ?_ | refine WPc.exit ?_ | refine WPc.skip ?_ | refine WPc.region ?_
       | (refine isCond ?_; first | refine WPc.cT ?_ | refine WPc.cF ?_ | (refine WPc.cQ (fun hc => ?_) (fun hc => ?_) <;> try first | exact prA | (exfalso; first | omega)))
       | (refine isD 17 ?_; refine WPl.rdX (ReadR.indexE (i := i) rfl rfl hasA hlt) ?_)
       | (refine isD 18 ?_; refine WPl.rdX (ReadR.loadES (cs := frC f) hfa (by omega) rfl hasA) ?_)
       | (refine isD 7 ?_; first | (refine isAl ?_; refine WPl.nw fun g7 => ?_) | (refine isBx ?_; refine WPl.nw fun g7 => ?_))
       | (show WPl _ _ _ _ _ _ _ (⟨_, .store _ (.tmp 7) _, _, _, _, _⟩ :: _) _; refine WPl.stA (new := frC f) ?_ (hn := hfk))
       | (refine isD 21 ?_; refine WPl.cFV [ag (frC f)] [] c21 ?_ (hc := hc0))
       | (refine isOp ?_; first | refine WPl.rd ?_ | refine WPl.sk ?_ | refine WPl.rdB ?_)
       | (refine isAl ?_; refine WPl.nw fun g => ?_)
       | (refine isSt ?_; first | refine WPl.st1 ?_ | refine WPl.stA ?_ | refine WPl.stEB ?_ | refine WPl.stRB ?_)
       | (show WPl _ _ _ _ _ _ _ (⟨_, .indexAddr _ _ _, _, _, _, _⟩ :: _) _; refine WPl.rdX (ReadR.indexE rfl rfl hasA (by first | assumption | omega)) ?_)
       | (show WPl _ _ _ _ _ _ _ (⟨_, .fieldAddr _ _ _, _, _, _, _⟩ :: _) _; refine WPl.rdX (ReadR.fieldE rfl hasA (by first | assumption | omega)) ?_)
       | (show WPl _ _ _ _ _ _ _ (⟨_, .load _ _, _, _, _, _⟩ :: _) _; first | refine WPl.rdX (ReadR.loadE rfl hasA (by assumption)) ?_ | refine WPl.rdX (ReadR.loadES (by assumption) (by first | assumption | omega) rfl hasA) ?_)
       | (show WPl _ _ _ _ _ _ _ (⟨_, .slice _ _ _ _ _, _, _, _, _⟩ :: _) _; first | refine WPl.rdX (ReadR.sliceH rfl rfl hasA (by omega)) ?_ | refine WPl.rdX (ReadR.sliceL rfl rfl hasA (by omega)) ?_ | refine WPl.rdX (ReadR.sliceLH rfl rfl rfl hasA (by omega) (by omega)) ?_)
       | (refine WPl.spQ (fun hc => ?_) (fun hc => ?_) <;> try first | exact prA | (exfalso; first | omega))
       | fail)
      rw [← hnx]
      exact WPq.rnd (i + 1, vo) ⟨hlt, hvo⟩ (by dsimp only; omega)
  · have hil : fs.take i = fs := List.take_of_length_le (by omega)
    rw [hil]
    have c29 := sortInts_t vo (nosF p fs) (by have := nosF_len (p := p) (fs := fs); omega)
    have hll : (nosF p fs).length = ((nosF p fs).mergeSort fun x y => decide (x ≤ y)).length := by rw [List.length_mergeSort]
    repeat' (first
     | refine WPl.nil ?_ | refine WPq.then ?_ | refine WPq.thenR ?_ | refine WPq.thenE ?_ | refine WPq.blockN ?_ | refine WPq.blockR ?_ | refine WPq.blockE ?_ | refine WPq.blockO rfl ?_ | refine WPc.seq ?_ | refine WPc.block ?_ | refine WPc.ret ?_ | refine WPc.exit ?_ | refine WPc.skip ?_ | refine WPc.region ?_
     | (refine isCond ?_; first | refine WPc.cT ?_ | refine WPc.cF ?_ | (refine WPc.cQ (fun hc => ?_) (fun hc => ?_) <;> try first | exact prA | (exfalso; first | omega)))
     | (refine isC 29 ?_; refine WPl.cTs (c29) ?_; (try dsimp only [putF, List.cons_append, List.nil_append]))
     | (refine isOp ?_; first | refine WPl.rd ?_ | refine WPl.sk ?_ | refine WPl.rdB ?_)
     | (refine isAl ?_; refine WPl.nw fun g => ?_)
     | (refine isSt ?_; first | refine WPl.st1 ?_ | refine WPl.stA ?_ | refine WPl.stEB ?_ | refine WPl.stRB ?_)
     | (show WPl _ _ _ _ _ _ _ (⟨_, .indexAddr _ _ _, _, _, _, _⟩ :: _) _; refine WPl.rdX (ReadR.indexE rfl rfl hasA (by first | assumption | omega)) ?_)
     | (show WPl _ _ _ _ _ _ _ (⟨_, .fieldAddr _ _ _, _, _, _, _⟩ :: _) _; refine WPl.rdX (ReadR.fieldE rfl hasA (by first | assumption | omega)) ?_)
     | (show WPl _ _ _ _ _ _ _ (⟨_, .load _ _, _, _, _, _⟩ :: _) _; first | refine WPl.rdX (ReadR.loadE rfl hasA (by assumption)) ?_ | refine WPl.rdX (ReadR.loadES (by assumption) (by first | assumption | omega) rfl hasA) ?_)
     | (show WPl _ _ _ _ _ _ _ (⟨_, .slice _ _ _ _ _, _, _, _, _⟩ :: _) _; first | refine WPl.rdX (ReadR.sliceH rfl rfl hasA (by omega)) ?_ | refine WPl.rdX (ReadR.sliceL rfl rfl hasA (by omega)) ?_ | refine WPl.rdX (ReadR.sliceLH rfl rfl rfl hasA (by omega) (by omega)) ?_)
     | (refine WPl.spQ (fun hc => ?_) (fun hc => ?_) <;> try first | exact prA | (exfalso; first | omega))
     | fail)
    exact WPq.dR
theorem held_t (h1 : ∀ f ∈ fs, f.bv.oneCell' = true) (hm : fs.length ≤ 1000) : Triple Try.prog 33 #[hC gK] [rbx gK 86 (cxc gV vF hand), rdN vF fs.length (frs fs)] (RRow 3 1 (nosF (·.full) fs).length (intsV ((nosF (·.full) fs).mergeSort fun x y => decide (x ≤ y)))) := by
  have c4 := those_t gK gV vF hand fs 60 (by kernel_rfl) (·.full) isFull_t h1 hm
  refine Triple.enter Try.func33 rfl Try.ntmps33 rfl (fun W => ?_)
  dsimp only [argsF, Nat.reduceAdd]
  repeat' (first
   | refine WPl.nil ?_ | refine WPq.then ?_ | refine WPq.thenR ?_ | refine WPq.thenE ?_ | refine WPq.blockN ?_ | refine WPq.blockR ?_ | refine WPq.blockE ?_ | refine WPq.blockO rfl ?_ | refine WPc.seq ?_ | refine WPc.block ?_ | refine WPc.ret ?_ | refine WPc.exit ?_ | refine WPc.skip ?_ | refine WPc.region ?_
   | (refine isCond ?_; first | refine WPc.cT ?_ | refine WPc.cF ?_ | (refine WPc.cQ (fun hc => ?_) (fun hc => ?_) <;> try exact prA))
   | (refine isC 4 ?_; refine WPl.cR c4 (fun v4 hv4 => ?_) (hΔ := provsW))
   | (refine isOp ?_; first | refine WPl.rd ?_ | refine WPl.sk ?_ | refine WPl.rdB ?_)
   | (show WPl _ _ _ _ _ _ _ (⟨_, .indexAddr _ _ _, _, _, _, _⟩ :: _) _; refine WPl.rdX (ReadR.indexE rfl rfl hasA (by first | assumption | omega)) ?_)
   | (show WPl _ _ _ _ _ _ _ (⟨_, .fieldAddr _ _ _, _, _, _, _⟩ :: _) _; refine WPl.rdX (ReadR.fieldE rfl hasA (by first | assumption | omega)) ?_)
   | (show WPl _ _ _ _ _ _ _ (⟨_, .load _ _, _, _, _, _⟩ :: _) _; first | refine WPl.rdX (ReadR.loadE rfl hasA (by assumption)) ?_ | refine WPl.rdX (ReadR.loadES (by assumption) (by first | assumption | omega) rfl hasA) ?_)
   | (show WPl _ _ _ _ _ _ _ (⟨_, .slice _ _ _ _ _, _, _, _, _⟩ :: _) _; first | refine WPl.rdX (ReadR.sliceH rfl rfl hasA (by omega)) ?_ | refine WPl.rdX (ReadR.sliceL rfl rfl hasA (by omega)) ?_ | refine WPl.rdX (ReadR.sliceLH rfl rfl rfl hasA (by omega) (by omega)) ?_)
   | (refine WPl.spQ (fun hc => ?_) (fun hc => ?_) <;> try exact prA)
   | fail)
  exact WPq.dR
theorem dirty_t (h1 : ∀ f ∈ fs, f.bv.oneCell' = true) (hm : fs.length ≤ 1000) : Triple Try.prog 40 #[hC gK] [rbx gK 86 (cxc gV vF hand), rdN vF fs.length (frs fs)] (RRow 3 1 (nosF (fun f => f.full && f.dirty) fs).length (intsV ((nosF (fun f => f.full && f.dirty) fs).mergeSort fun x y => decide (x ≤ y)))) := by
  have c4 := those_t gK gV vF hand fs 61 (by kernel_rfl) (fun f => f.full && f.dirty) isDirty_t h1 hm
  refine Triple.enter Try.func40 rfl Try.ntmps40 rfl (fun W => ?_)
  dsimp only [argsF, Nat.reduceAdd]
  repeat' (first
   | refine WPl.nil ?_ | refine WPq.then ?_ | refine WPq.thenR ?_ | refine WPq.thenE ?_ | refine WPq.blockN ?_ | refine WPq.blockR ?_ | refine WPq.blockE ?_ | refine WPq.blockO rfl ?_ | refine WPc.seq ?_ | refine WPc.block ?_ | refine WPc.ret ?_ | refine WPc.exit ?_ | refine WPc.skip ?_ | refine WPc.region ?_
   | (refine isCond ?_; first | refine WPc.cT ?_ | refine WPc.cF ?_ | (refine WPc.cQ (fun hc => ?_) (fun hc => ?_) <;> try exact prA))
   | (refine isC 4 ?_; refine WPl.cR c4 (fun v4 hv4 => ?_) (hΔ := provsW))
   | (refine isOp ?_; first | refine WPl.rd ?_ | refine WPl.sk ?_ | refine WPl.rdB ?_)
   | (show WPl _ _ _ _ _ _ _ (⟨_, .indexAddr _ _ _, _, _, _, _⟩ :: _) _; refine WPl.rdX (ReadR.indexE rfl rfl hasA (by first | assumption | omega)) ?_)
   | (show WPl _ _ _ _ _ _ _ (⟨_, .fieldAddr _ _ _, _, _, _, _⟩ :: _) _; refine WPl.rdX (ReadR.fieldE rfl hasA (by first | assumption | omega)) ?_)
   | (show WPl _ _ _ _ _ _ _ (⟨_, .load _ _, _, _, _, _⟩ :: _) _; first | refine WPl.rdX (ReadR.loadE rfl hasA (by assumption)) ?_ | refine WPl.rdX (ReadR.loadES (by assumption) (by first | assumption | omega) rfl hasA) ?_)
   | (show WPl _ _ _ _ _ _ _ (⟨_, .slice _ _ _ _ _, _, _, _, _⟩ :: _) _; first | refine WPl.rdX (ReadR.sliceH rfl rfl hasA (by omega)) ?_ | refine WPl.rdX (ReadR.sliceL rfl rfl hasA (by omega)) ?_ | refine WPl.rdX (ReadR.sliceLH rfl rfl rfl hasA (by omega) (by omega)) ?_)
   | (refine WPl.spQ (fun hc => ?_) (fun hc => ?_) <;> try exact prA)
   | fail)
  exact WPq.dR
end
end Go.Proofs.Ytepmikgjnmjheaa
/- Law 05 (cache): contracts; what lives. -/
namespace Go.Proofs.Ytepmikgjnmjheaa
open Go.RowKit
set_option linter.unusedSimpArgs false
set_option linter.unusedVariables false
set_option maxRecDepth 20000
set_option maxHeartbeats 4000000
attribute [local irreducible] WPc WPl WPq ReadR OpT BinR HasS bx rdN rowN Take Takes Prov Triple ResF BuildP Done ag Int.decLt Int.decLe Int.instDecidableEq
attribute [local irreducible] mp rmp rg rgo bag vrow secs mput mget mfind mdel intsV skeys vault frs pickG secF
theorem full5_t (b : UInt8) : Triple Try.prog 36 #[.int .u8 ((b.toNat : Nat) : Int)] [] (ROb (List.replicate 256 b)) := by
  refine Triple.enter Try.func36 rfl Try.ntmps36 rfl (fun W => ?_)
  dsimp only [argsF, Nat.reduceAdd]
  repeat' (first
   | refine WPl.nil ?_ | refine WPq.then ?_ | refine WPq.thenR ?_ | refine WPq.thenE ?_ | refine WPq.blockN ?_ | refine WPq.blockR ?_ | refine WPq.blockE ?_ | refine WPq.blockO rfl ?_ | refine WPc.seq ?_ | refine WPc.block ?_ | refine WPc.ret ?_ | refine WPc.exit ?_ | refine WPc.skip ?_ | refine WPc.region ?_
   | (refine isCond ?_; first | refine WPc.cT ?_ | refine WPc.cF ?_ | (refine WPc.cQ (fun hc => ?_) (fun hc => ?_) <;> try exact prA))
   | (refine isMk ?_; refine WPl.mk fun v hv => ?_)
   | (refine isOp ?_; first | refine WPl.rd ?_ | refine WPl.sk ?_ | refine WPl.rdB ?_)
   | (refine isSt ?_; first | refine WPl.st1 ?_ | refine WPl.stA ?_ | refine WPl.stEB ?_ | refine WPl.stRB ?_)
   | (show WPl _ _ _ _ _ _ _ (⟨_, .indexAddr _ _ _, _, _, _, _⟩ :: _) _; refine WPl.rdX (ReadR.indexE rfl rfl hasA (by first | assumption | omega)) ?_)
   | (show WPl _ _ _ _ _ _ _ (⟨_, .fieldAddr _ _ _, _, _, _, _⟩ :: _) _; refine WPl.rdX (ReadR.fieldE rfl hasA (by first | assumption | omega)) ?_)
   | (show WPl _ _ _ _ _ _ _ (⟨_, .load _ _, _, _, _, _⟩ :: _) _; first | refine WPl.rdX (ReadR.loadE rfl hasA (by assumption)) ?_ | refine WPl.rdX (ReadR.loadES (by assumption) (by first | assumption | omega) rfl hasA) ?_)
   | (show WPl _ _ _ _ _ _ _ (⟨_, .slice _ _ _ _ _, _, _, _, _⟩ :: _) _; first | refine WPl.rdX (ReadR.sliceH rfl rfl hasA (by omega)) ?_ | refine WPl.rdX (ReadR.sliceL rfl rfl hasA (by omega)) ?_ | refine WPl.rdX (ReadR.sliceLH rfl rfl rfl hasA (by omega) (by omega)) ?_)
   | (refine WPl.spQ (fun hc => ?_) (fun hc => ?_) <;> try exact prA)
   | fail)
  first | refine WPc.loop (σ := Nat) (fun st => st ≤ 256) (fun st => [ob v (List.replicate st b ++ (List.replicate 256 (0 : UInt8)).drop st)]) (fun st => [(0, .int .u8 ((b.toNat : Nat) : Int)), (3, v), (4, .int .i64 (st : Int))]) (fun st => 256 - st) (0) ?_ takesA frsA (fun st km hx hk => ?_)
  · omega
  have hl : (List.replicate st b ++ (List.replicate 256 (0 : UInt8)).drop st).length = 256 := by simp; omega
  repeat' (first
   | refine WPl.nil ?_ | refine WPq.then ?_ | refine WPq.thenR ?_ | refine WPq.thenE ?_ | refine WPq.blockN ?_ | refine WPq.blockR ?_ | refine WPq.blockE ?_ | refine WPq.blockO rfl ?_ | refine WPc.seq ?_ | refine WPc.block ?_ | refine WPc.ret ?_ | refine WPc.exit ?_ | refine WPc.skip ?_ | refine WPc.region ?_
   | (refine isCond ?_; first | refine WPc.cT ?_ | refine WPc.cF ?_ | (refine WPc.cQ (fun hc => ?_) (fun hc => ?_) <;> try exact prA))
   | (show WPl _ _ _ _ _ _ _ (⟨_, .store _ (.tmp 13) _, _, _, _, _⟩ :: _) _; first | refine WPl.stEB (b := b) ?_ | refine WPl.stRB (b := b) ?_)
   | (refine isMk ?_; refine WPl.mk fun v hv => ?_)
   | (refine isOp ?_; first | refine WPl.rd ?_ | refine WPl.sk ?_ | refine WPl.rdB ?_)
   | (refine isSt ?_; first | refine WPl.st1 ?_ | refine WPl.stA ?_ | refine WPl.stEB ?_ | refine WPl.stRB ?_)
   | (show WPl _ _ _ _ _ _ _ (⟨_, .indexAddr _ _ _, _, _, _, _⟩ :: _) _; refine WPl.rdX (ReadR.indexE rfl rfl hasA (by first | assumption | omega)) ?_)
   | (show WPl _ _ _ _ _ _ _ (⟨_, .fieldAddr _ _ _, _, _, _, _⟩ :: _) _; refine WPl.rdX (ReadR.fieldE rfl hasA (by first | assumption | omega)) ?_)
   | (show WPl _ _ _ _ _ _ _ (⟨_, .load _ _, _, _, _, _⟩ :: _) _; first | refine WPl.rdX (ReadR.loadE rfl hasA (by assumption)) ?_ | refine WPl.rdX (ReadR.loadES (by assumption) (by first | assumption | omega) rfl hasA) ?_)
   | (show WPl _ _ _ _ _ _ _ (⟨_, .slice _ _ _ _ _, _, _, _, _⟩ :: _) _; first | refine WPl.rdX (ReadR.sliceH rfl rfl hasA (by omega)) ?_ | refine WPl.rdX (ReadR.sliceL rfl rfl hasA (by omega)) ?_ | refine WPl.rdX (ReadR.sliceLH rfl rfl rfl hasA (by omega) (by omega)) ?_)
   | (refine WPl.spQ (fun hc => ?_) (fun hc => ?_) <;> try exact prA)
   | fail)
  · rw [rep_set (by simp; omega)]
    exact WPq.rnd (st + 1) (by omega) (by omega)
  · rw [show st = 256 by omega, List.drop_of_length_le (by simp), List.append_nil]
    exact WPq.dR
def Cv.dnos (C : Cv) : List Int := C.fs.filterMap fun o => match o with | some f => if f.dirty then some f.no else none | none => none
def Cv.hnos (C : Cv) : List Int := C.fs.filterMap fun o => o.map (·.no)
theorem dnos_vw (C : CS) : nosF (fun f => f.full && f.dirty) C.fs = C.vw.dnos := by
  unfold Cv.dnos CS.vw nosF
  dsimp only
  induction C.fs with
  | nil => rfl
  | cons f l ih =>
    rw [List.filter_cons, List.map_cons, List.filterMap_cons]
    unfold Frm.vw
    cases f.full with
    | false => exact ih
    | true =>
      cases hd : f.dirty with
      | false => exact ih
      | true =>
        exact congrArg (List.cons f.no) ih
theorem hnos_vw (C : CS) : nosF (·.full) C.fs = C.vw.hnos := by
  unfold Cv.hnos CS.vw nosF
  dsimp only
  induction C.fs with
  | nil => rfl
  | cons f l ih =>
    rw [List.filter_cons, List.map_cons, List.filterMap_cons]
    unfold Frm.vw
    cases f.full with
    | false => exact ih
    | true =>
      exact congrArg (List.cons f.no) ih
def Cv.dirty (C : Cv) : List Int := C.dnos.mergeSort fun x y => decide (x ≤ y)
def Cv.held (C : Cv) : List Int := C.hnos.mergeSort fun x y => decide (x ≤ y)
section
variable (gK gV : Nat) (vF : Value) (mD : Nat) (vd : Value) (n m p k : Nat) (C : CS) (S : DS)
theorem cheld_t (h : CInv n m p C) (hm : m ≤ 64) : Triple Try.prog 33 #[hC gK] [rbx gK 86 (cxc gV vF (C.hand : Int)), rdN vF C.fs.length (frs C.fs)] (RRow 3 1 C.vw.held.length (intsV C.vw.held)) := by
  have := held_t gK gV vF (C.hand : Int) C.fs (fun f hf => (h.each f hf).one) (by have := h.len; omega)
  rw [hnos_vw] at this
  unfold Cv.held
  rw [List.length_mergeSort]
  exact this
theorem cdirty_t (h : CInv n m p C) (hm : m ≤ 64) : Triple Try.prog 40 #[hC gK] [rbx gK 86 (cxc gV vF (C.hand : Int)), rdN vF C.fs.length (frs C.fs)] (RRow 3 1 C.vw.dirty.length (intsV C.vw.dirty)) := by
  have := dirty_t gK gV vF (C.hand : Int) C.fs (fun f hf => (h.each f hf).one) (by have := h.len; omega)
  rw [dnos_vw] at this
  unfold Cv.dirty
  rw [List.length_mergeSort]
  exact this
def cl0 : Cv := ⟨List.replicate 8 none, 0⟩
def cl1 : Cv := ⟨(List.replicate 8 none).set 0 (some ⟨3, 0, true, true, secF 7⟩), 0⟩
def dl0 : Dv := ⟨f4, List.replicate 16 (secF 0), fun _ => [], 0⟩
theorem lput_t (hCv : C.vw = cl0) (hSv : S.vw = dl0) (h : CInv 16 8 0 C) (hd : DInv 16 0 S) (bv : Value) : Triple Try.prog 35 #[hC gK, .int .i64 3, bv] ([rb bv (secF 7).b] ++ cdA gK gV vF C mD vd S) (RPut gK gV vF mD vd 16 8 0 1 (cl1, dl0, 0)) := by
  have := cput_t gK gV vF mD vd 16 8 0 0 C S 3 bv (secF 7) h hd (by omega) (by omega) (by omega) (by omega) (by omega)
  rw [hCv, hSv, show cl0.put dl0 3 (secF 7) = (cl1, dl0, 0) by with_unfolding_all rfl] at this
  exact this
theorem lget_t (hCv : C.vw = cl1) (hSv : S.vw = dl0) (h : CInv 16 8 0 C) (hd : DInv 16 1 S) : Triple Try.prog 31 #[hC gK, .int .i64 3] (cdA gK gV vF C mD vd S) (RGet gK gV vF mD vd 16 8 0 2 (cl1, dl0, (secF 7).b, 0)) := by
  have := cget_t gK gV vF mD vd 16 8 0 1 C S 3 h hd (by omega) (by omega) (by omega) (by omega) (by omega)
  rw [hCv, hSv, show cl1.get dl0 3 = (cl1, dl0, (secF 7).b, 0) by with_unfolding_all rfl] at this
  exact this
theorem ldirty_t (hCv : C.vw = cl1) (h : CInv 16 8 0 C) : Triple Try.prog 40 #[hC gK] [rbx gK 86 (cxc gV vF (C.hand : Int)), rdN vF C.fs.length (frs C.fs)] (RRow 3 1 1 (intsV [3])) := by
  have := cdirty_t gK gV vF 16 8 0 C h (by omega)
  rw [hCv, show cl1.dirty = [3] by with_unfolding_all (unfold Cv.dirty; rw [show cl1.dnos = [3] by with_unfolding_all rfl]; exact List.mergeSort_singleton 3)] at this
  exact this
end
theorem clives_t : Triple Try.prog 34 #[] [] (RVal (.bool true)) := by
  have c9 := dnew_t 16 (by omega) (by omega)
  have hbb : (secF 7).b = List.replicate 256 (7 : UInt8) := by with_unfolding_all rfl
  have c24 := full5_t 7
  rw [← hbb] at c24
  refine Triple.enter Try.func34 rfl Try.ntmps34 rfl (fun W => ?_)
  dsimp only [argsF, Nat.reduceAdd]
  repeat' (first
   | refine WPl.nil ?_ | refine WPq.then ?_ | refine WPq.thenR ?_ | refine WPq.thenE ?_ | refine WPq.blockN ?_ | refine WPq.blockR ?_ | refine WPq.blockE ?_ | refine WPq.blockO rfl ?_ | refine WPc.seq ?_ | refine WPc.block ?_ | refine WPc.ret ?_ | refine WPc.exit ?_ | refine WPc.skip ?_ | refine WPc.region ?_
   | (refine isReg 7 ?_; refine WPc.drA [([], []), ([0], [31]), ([0, 1], [31, 32]), ([0, 1, 2], [31, 32, 33]), ([0, 1, 2, 3], [31, 32, 33, 34]), ([0, 1, 2, 3, 4], [31, 32, 33, 34, 35]), ([0, 1, 2, 3, 4, 5], [31, 32, 33, 34, 35, 36]), ([0, 1, 2, 3, 4, 5, 6], [31, 32, 33, 34, 35, 36, 37, 40, 41]), ([0, 1, 2, 3, 4, 5, 6, 7], [31, 32, 33, 34, 35, 36, 37, 38, 40, 41]), ([0, 1, 2, 3, 4, 5, 6], [31, 32, 33, 34, 35, 36, 37, 38, 39]), ([0, 1, 2, 3, 4, 5, 6, 9], [31, 32, 33, 34, 35, 36, 37, 38, 39, 40]), ([0, 1, 2, 3, 4, 5, 6, 7, 8, 9, 10], [31, 32, 33, 34, 35, 36, 37, 38, 39, 40, 41]), ([0, 1, 2, 3, 4, 5, 6, 7, 8, 9, 10, 11], [31, 32, 33, 34, 35, 36, 37, 38, 39, 40, 41, 42]), ([0, 1, 2, 3, 4, 5, 6, 7, 8, 9, 10, 11, 12], [31, 32, 33, 34, 35, 36, 37, 38, 39, 40, 41, 42, 43]), ([0, 1, 2, 3, 4, 5, 6, 7, 8, 9, 10, 11, 12, 13], [31, 32, 33, 34, 35, 36, 37, 38, 39, 40, 41, 42, 43, 44]), ([0, 1, 2, 3, 4, 5, 6, 7, 8, 9, 10, 11, 12, 13, 14], [31, 32, 33, 34, 35, 36, 37, 38, 39, 40, 41, 42, 43, 44, 45]), ([0, 1, 2, 3, 4, 5, 6, 7, 8, 9, 10, 11, 12, 13, 14, 15], [31, 32, 33, 34, 35, 36, 37, 38, 39, 40, 41, 42, 43, 44, 45, 46]), ([0, 1, 2, 3, 4, 5, 6, 7, 8, 9, 10, 11, 12, 13, 14, 15, 16], [31, 32, 33, 34, 35, 36, 37, 38, 39, 40, 41, 42, 43, 44, 45, 46, 47]), ([0, 1, 2, 3, 4, 5, 6, 7, 8, 9, 10, 11, 12, 13, 14, 15, 16, 17], [31, 32, 33, 34, 35, 36, 37, 38, 39, 40, 41, 42, 43, 44, 45, 46, 47, 48]), ([0, 1, 2, 3, 4, 5, 6, 7, 8, 9, 10, 11, 12, 13, 14, 15, 16, 17, 18], [31, 32, 33, 34, 35, 36, 37, 38, 39, 40, 41, 42, 43, 44, 45, 46, 47, 48, 49])] [] (Γx := []) ?_; dsimp only [prev0, List.length_nil, List.length_cons])
   | (refine gAny ?_; first | (refine gGd ?_; refine RGl.skp ?_) | (refine gC 24 ?_; refine RGl.row (Γ1 := fun _ => []) (fun e hk => OpT.callN (c24)) ?_) | (refine gC 40 ?_; refine RGl.row (Γ1 := fun _ => []) (fun e hk => OpT.callN (c24)) ?_) | (refine gD 18 ?_; refine RGl.rdX (fun e hk => by (try dsimp only [bndR, ensR, oksR, fcutR, List.append_nil, List.nil_append, List.cons_append, List.append_assoc] at hk ⊢); exact readP) ?_) | (refine gD 32 ?_; refine RGl.rdX (fun e hk => by (try dsimp only [bndR, ensR, oksR, fcutR, List.append_nil, List.nil_append, List.cons_append, List.append_assoc] at hk ⊢); exact ReadR.binE rfl rfl BinR.eql (congrArg Value.bool (decide_eq_true rfl))) ?_) | (refine gD 35 ?_; refine RGl.rdX (fun e hk => by (try dsimp only [bndR, ensR, oksR, fcutR, List.append_nil, List.nil_append, List.cons_append, List.append_assoc] at hk ⊢); exact ReadR.binE rfl rfl BinR.eql (congrArg Value.bool (decide_eq_true rfl))) ?_) | (refine gD 42 ?_; refine RGl.rdX (fun e hk => by (try dsimp only [bndR, ensR, oksR, fcutR, List.append_nil, List.nil_append, List.cons_append, List.append_assoc] at hk ⊢); exact ReadR.binE rfl rfl BinR.strUE (congrArg Value.bool (decide_eq_true rfl))) ?_) | (refine gOp ?_; (refine gC 46 ?_; refine RGl.row (Γ1 := fun _ => []) (fun e hk => OpT.callN c46 (hΔ := by (try dsimp only [bndR, ensR, oksR, fcutR, List.append_nil, List.nil_append, List.cons_append, List.append_assoc] at hk ⊢); exact provsW)) ?_)) | (refine gD 48 ?_; refine RGl.rdX (fun e hk => by (try dsimp only [bndR, ensR, oksR, fcutR, List.append_nil, List.nil_append, List.cons_append, List.append_assoc] at hk ⊢); exact ReadR.binE rfl rfl BinR.eql (congrArg Value.bool (decide_eq_true rfl))) ?_) | (refine gOp ?_; first | refine RGl.rdA ?_ | refine RGl.rdX (fun e hk => by (try dsimp only [bndR, ensR, oksR, fcutR, List.append_nil, List.nil_append, List.cons_append, List.append_assoc] at hk ⊢); exact readB) ?_) | (refine RGl.fin (fun e hk => ?_); (try dsimp only [bndA, ensAR, oksA, List.append_nil, List.nil_append, List.cons_append, List.append_assoc] at hk ⊢); (repeat (obtain ⟨hk1, hk⟩ := hk))) | fail)
   | (refine isCond ?_; first | refine WPc.cT ?_ | refine WPc.cF ?_ | (refine WPc.cQ (fun hc => ?_) (fun hc => ?_) <;> try exact prA))
   | (refine isC 9 ?_; refine WPl.cXs (c9) fun v Γ1 hR => ?_; (obtain ⟨gV, mD, vd, S0, rfl, hvd, hS0, hD0, rfl⟩ := hR; have c14 := cnew_t gV 8 (by omega) (by omega)); (try dsimp only [putF, List.cons_append, List.nil_append]))
   | (refine isC 14 ?_; refine WPl.cXs (c14) fun v Γ1 hR => ?_; (obtain ⟨gK, vF, C0, rfl, hvF, hC0, hI0, rfl⟩ := hR; have c25 := lput_t gK gV vF mD vd C0 S0 hC0 hS0 (hI0 16) hD0); (try dsimp only [putF, List.cons_append, List.nil_append]))
   | (refine isD 18 ?_; refine WPl.rdX (readP) ?_)
   | (refine isC 24 ?_; refine WPl.cR (c24) fun bv hbv => ?_)
   | (refine isC 25 ?_; refine WPl.cO (c25 bv) (fun v Γ1 hR => ?_) ?_; rotate_left; exact fpA; (obtain ⟨C1, S1, rfl, hC1, hS1, hI1, hD1, rfl⟩ := hR; have c28 := lget_t gK gV vF mD vd C1 S1 hC1 hS1 hI1 hD1); (try dsimp only [putF, List.cons_append, List.nil_append]))
   | (refine isC 28 ?_; refine WPl.cXs (c28) fun v Γ1 hR => ?_; (obtain ⟨C2, S2, sv, rfl, hsv, hC2, hS2, hI2, hD2, rfl⟩ := hR; have c46 := ldirty_t gK gV vF C2 hC2 hI2); (try dsimp only [putF, List.cons_append, List.nil_append]))
   | (refine isC 40 ?_; refine WPl.cR (c24) fun v hv => ?_)
   | (refine isOp ?_; first | refine WPl.rd ?_ | refine WPl.sk ?_ | refine WPl.rdB ?_)
   | (show WPl _ _ _ _ _ _ _ (⟨_, .indexAddr _ _ _, _, _, _, _⟩ :: _) _; refine WPl.rdX (ReadR.indexE rfl rfl hasA (by first | assumption | omega)) ?_)
   | (show WPl _ _ _ _ _ _ _ (⟨_, .fieldAddr _ _ _, _, _, _, _⟩ :: _) _; refine WPl.rdX (ReadR.fieldE rfl hasA (by first | assumption | omega)) ?_)
   | (show WPl _ _ _ _ _ _ _ (⟨_, .load _ _, _, _, _, _⟩ :: _) _; first | refine WPl.rdX (ReadR.loadE rfl hasA (by assumption)) ?_ | refine WPl.rdX (ReadR.loadES (by assumption) (by first | assumption | omega) rfl hasA) ?_)
   | (show WPl _ _ _ _ _ _ _ (⟨_, .slice _ _ _ _ _, _, _, _, _⟩ :: _) _; first | refine WPl.rdX (ReadR.sliceH rfl rfl hasA (by omega)) ?_ | refine WPl.rdX (ReadR.sliceL rfl rfl hasA (by omega)) ?_ | refine WPl.rdX (ReadR.sliceLH rfl rfl rfl hasA (by omega) (by omega)) ?_)
   | (refine WPl.spQ (fun hc => ?_) (fun hc => ?_) <;> try exact prA)
   | fail)
  all_goals exact WPq.dV
end Go.Proofs.Ytepmikgjnmjheaa
