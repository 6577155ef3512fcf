/- Layer 5 (cache): contracts: Put. -/
import Derived.Test.YtepmikgjnmjheaaCh
namespace Go.Proofs.Ytepmikgjnmjheaa
open Go.RowKit
set_option linter.unusedSimpArgs false
set_option linter.unusedVariables false
set_option maxRecDepth 20000
set_option maxHeartbeats 4000000
attribute [local irreducible] WPc WPl WPq ReadR OpT BinR HasS bx rdN rowN Take Takes Prov Triple ResF BuildP Done ag Int.decLt Int.decLe Int.instDecidableEq
attribute [local irreducible] mp rmp rg rgo bag vrow secs mput mget mfind mdel intsV skeys vault frs pickG
theorem frs_2 {l : List Frm} {i : Nat} {f f' : Frm} (hi : i < l.length) {o : Nat} {u : Value} (ho : o < 6) (hu : flat (frC f') = (flat (frC f)).set o u) : (frs (l.set i f)).set (i * 6 + o) u = frs (l.set i f') := by
  rw [frs_1 (List.getElem?_set_self hi) ho hu, List.set_set]
theorem pw0 {l : List Frm} {i : Nat} {f : Frm} (hf : l[i]? = some f) : (frs l).set (i * 6 + 0) (.bool true) = frs (l.set i { f with full := true }) := frs_1 hf (by omega) rfl
theorem pw3 {l : List Frm} {i : Nat} {f : Frm} (no : Int) (hil : i < l.length) : (frs (l.set i { f with full := true })).set (i * 6 + 3) (.int .i64 no) = frs (l.set i { f with full := true, no := no }) := frs_2 hil (by omega) rfl
theorem pw5 {l : List Frm} {i : Nat} {f : Frm} (no : Int) (s : Sec) (hil : i < l.length) (v : Value) : (frs (l.set i { f with full := true, no := no })).set (i * 6 + 5) v = frs (l.set i { f with full := true, no := no, bv := v, s := s }) := frs_2 hil (by omega) rfl
theorem pw1 {l : List Frm} {i : Nat} {f : Frm} (no : Int) (s : Sec) (hil : i < l.length) (v : Value) : (frs (l.set i { f with full := true, no := no, bv := v, s := s })).set (i * 6 + 1) (.bool true) = frs (l.set i { f with full := true, no := no, bv := v, s := s, dirty := true }) := frs_2 hil (by omega) rfl
theorem pw2 {l : List Frm} {i : Nat} {f : Frm} (no : Int) (s : Sec) (hil : i < l.length) (v : Value) : (frs (l.set i { f with full := true, no := no, bv := v, s := s, dirty := true })).set (i * 6 + 2) (.bool true) = frs (l.set i ⟨true, true, true, no, f.pins, v, s⟩) := frs_2 hil (by omega) rfl
theorem pwL {l : List Frm} {i : Nat} (g : Frm) : (frs (l.set i g)).length = l.length * 6 := by rw [frs_len, List.length_set]
def RPut (gK gV : Nat) (vF : Value) (mD : Nat) (vd : Value) (n m p k : Nat) (r : Cv × Dv × Int) : Value → List Asn → Prop := fun v Γ => ∃ C S, v = .int .i64 r.2.2 ∧ C.vw = r.1 ∧ S.vw = r.2.1 ∧ CInv n m p C ∧ DInv n k S ∧ Γ = cdA gK gV vF C mD vd S
section
variable (gK gV : Nat) (vF : Value) (mD : Nat) (vd : Value) (n m p k : Nat) (C : CS) (S : DS)
theorem cputN_t (no : Int) (bv : Value) : Triple Try.prog 35 #[.pointer none, .int .i64 no, bv] [] (RVal (.int .i64 1)) := by
  have c12 := chasN_t no
  refine Triple.enter Try.func35 rfl Try.ntmps35 rfl (fun W => ?_)
  dsimp only [argsF, Nat.reduceAdd]
  repeat' (first
   | refine WPl.nil ?_ | refine WPq.then ?_ | refine WPq.thenR ?_ | refine WPq.thenE ?_ | refine WPq.blockN ?_ | refine WPq.blockR ?_ | refine WPq.blockE ?_ | refine WPq.blockO rfl ?_ | refine WPc.seq ?_ | refine WPc.block ?_ | refine WPc.ret ?_ | refine WPc.exit ?_ | refine WPc.skip ?_ | refine WPc.region ?_
   | (refine isCond ?_; first | refine WPc.cT ?_ | refine WPc.cF ?_ | (refine WPc.cQ (fun hc => ?_) (fun hc => ?_) <;> try exact prA))
   | (refine isC 12 ?_; refine WPl.cV c12 ?_ (hΔ := provsG))
   | (refine isOp ?_; first | refine WPl.rd ?_ | refine WPl.sk ?_ | refine WPl.rdB ?_)
   | (refine isSt ?_; first | refine WPl.st1 ?_ | refine WPl.stA ?_ | refine WPl.stEB ?_ | refine WPl.stRB ?_)
   | (show WPl _ _ _ _ _ _ _ (⟨_, .indexAddr _ _ _, _, _, _, _⟩ :: _) _; refine WPl.rdX (ReadR.indexE rfl rfl hasA (by first | assumption | omega)) ?_)
   | (show WPl _ _ _ _ _ _ _ (⟨_, .fieldAddr _ _ _, _, _, _, _⟩ :: _) _; refine WPl.rdX (ReadR.fieldE rfl hasA (by first | assumption | omega)) ?_)
   | (show WPl _ _ _ _ _ _ _ (⟨_, .load _ _, _, _, _, _⟩ :: _) _; first | refine WPl.rdX (ReadR.loadE rfl hasA (by assumption)) ?_ | refine WPl.rdX (ReadR.loadES (by assumption) (by first | assumption | omega) rfl hasA) ?_)
   | (show WPl _ _ _ _ _ _ _ (⟨_, .slice _ _ _ _ _, _, _, _, _⟩ :: _) _; first | refine WPl.rdX (ReadR.sliceH rfl rfl hasA (by omega)) ?_ | refine WPl.rdX (ReadR.sliceL rfl rfl hasA (by omega)) ?_ | refine WPl.rdX (ReadR.sliceLH rfl rfl rfl hasA (by omega) (by omega)) ?_)
   | (refine WPl.spQ (fun hc => ?_) (fun hc => ?_) <;> try exact prA)
   | fail)
  all_goals exact WPq.dV
theorem cputNo_t (no : Int) (bv : Value) (s : Sec) (h : CInv n m p C) (hd : DInv n k S) (hn : n ≤ 1600) (hno : no < 0 ∨ (n : Int) ≤ no) : Triple Try.prog 35 #[hC gK, .int .i64 no, bv] ([rb bv s.b] ++ cdA gK gV vF C mD vd S) (RPut gK gV vF mD vd n m p k (C.vw, S.vw, 1)) := by
  have hnl := hd.nl
  have c12 := chas_t gK gV vF mD vd C S no (by omega)
  rw [show (decide (0 ≤ no) && decide (no < (S.ls.length : Int))) = false by simp; omega] at c12
  rw [show [rb bv s.b] ++ cdA gK gV vF C mD vd S = rb bv s.b :: cdA gK gV vF C mD vd S from rfl]
  refine Triple.enter Try.func35 rfl Try.ntmps35 rfl (fun W => ?_)
  dsimp only [argsF, Nat.reduceAdd]
  repeat' (first
   | refine WPl.nil ?_ | refine WPq.then ?_ | refine WPq.thenR ?_ | refine WPq.thenE ?_ | refine WPq.blockN ?_ | refine WPq.blockR ?_ | refine WPq.blockE ?_ | refine WPq.blockO rfl ?_ | refine WPc.seq ?_ | refine WPc.block ?_ | refine WPc.ret ?_ | refine WPc.exit ?_ | refine WPc.skip ?_ | refine WPc.region ?_
   | (refine isCond ?_; first | refine WPc.cT ?_ | refine WPc.cF ?_ | (refine WPc.cQ (fun hc => ?_) (fun hc => ?_) <;> try exact prA))
   | (refine isC 12 ?_; refine WPl.cV c12 ?_ (hΔ := provsW))
   | (refine isOp ?_; first | refine WPl.rd ?_ | refine WPl.sk ?_ | refine WPl.rdB ?_)
   | (refine isSt ?_; first | refine WPl.st1 ?_ | refine WPl.stA ?_ | refine WPl.stEB ?_ | refine WPl.stRB ?_)
   | (show WPl _ _ _ _ _ _ _ (⟨_, .indexAddr _ _ _, _, _, _, _⟩ :: _) _; refine WPl.rdX (ReadR.indexE rfl rfl hasA (by first | assumption | omega)) ?_)
   | (show WPl _ _ _ _ _ _ _ (⟨_, .fieldAddr _ _ _, _, _, _, _⟩ :: _) _; refine WPl.rdX (ReadR.fieldE rfl hasA (by first | assumption | omega)) ?_)
   | (show WPl _ _ _ _ _ _ _ (⟨_, .load _ _, _, _, _, _⟩ :: _) _; first | refine WPl.rdX (ReadR.loadE rfl hasA (by assumption)) ?_ | refine WPl.rdX (ReadR.loadES (by assumption) (by first | assumption | omega) rfl hasA) ?_)
   | (show WPl _ _ _ _ _ _ _ (⟨_, .slice _ _ _ _ _, _, _, _, _⟩ :: _) _; first | refine WPl.rdX (ReadR.sliceH rfl rfl hasA (by omega)) ?_ | refine WPl.rdX (ReadR.sliceL rfl rfl hasA (by omega)) ?_ | refine WPl.rdX (ReadR.sliceLH rfl rfl rfl hasA (by omega) (by omega)) ?_)
   | (refine WPl.spQ (fun hc => ?_) (fun hc => ?_) <;> try exact prA)
   | fail)
  exact WPq.dX (ho := ownsW) (vs := [.int .i64 1]) (cdA gK gV vF C mD vd S) ⟨C, S, rfl, rfl, rfl, h, hd, rfl⟩
theorem cput_t (no : Nat) (bv : Value) (s : Sec) (h : CInv n m p C) (hd : DInv n k S) (hn : n ≤ 1600) (h8 : 8 ≤ m) (hm : m ≤ 64) (hkb : k ≤ 80000) (hno : no < n) : Triple Try.prog 35 #[hC gK, .int .i64 (no : Int), bv] ([rb bv s.b] ++ cdA gK gV vF C mD vd S) (RPut gK gV vF mD vd n m p (k + 1) (C.vw.put S.vw no s)) := by
  have hnl := hd.nl
  have hlen := h.len
  have hsb := s.len
  have hsb2 : (s.b.length : Int) = 256 := by omega
  have c12 := chas_t gK gV vF mD vd C S (no : Int) (by omega)
  rw [show (decide (0 ≤ (no : Int)) && decide ((no : Int) < (S.ls.length : Int))) = true by simp; omega] at c12
  have c21 := at_t gK gV vF (C.hand : Int) C.fs (no : Int) (by omega)
  have hL := frs_len (l := C.fs)
  have c44 := clone_t bv s.b (by omega)
  rw [show [rb bv s.b] ++ cdA gK gV vF C mD vd S = rb bv s.b :: cdA gK gV vF C mD vd S from rfl]
  cases hco : atF C.fs (no : Int) with
  | some i =>
    obtain ⟨f, hf, hfu, hfn, hfi, hmem, hil, hat, hvf⟩ := at_hit h hco
    rw [hco] at c21
    unfold fptr at c21
    dsimp only at c21
    have hr : C.vw.put S.vw no s = (setF C.vw i (some ⟨f.no, f.pins, true, true, s⟩), S.vw, 0) := by unfold Cv.put; rw [hat]; dsimp only; rw [hvf]
    rw [hr]
    obtain ⟨fD, hfD⟩ : ∃ fD : Value → Frm, fD = fun v => ⟨f.full, true, true, f.no, f.pins, v, s⟩ := ⟨_, rfl⟩
    have hs5 : ∀ v, (frs C.fs).set (i * 6 + 5) v = frs (C.fs.set i { f with bv := v, s := s }) := fun v => frs_1 hf (by omega) rfl
    have hs1 : ∀ v, (frs (C.fs.set i { f with bv := v, s := s })).set (i * 6 + 1) (.bool true) = frs (C.fs.set i { f with bv := v, s := s, dirty := true }) := fun v => frs_2 hil (by omega) rfl
    have hs2 : ∀ v, (frs (C.fs.set i { f with bv := v, s := s, dirty := true })).set (i * 6 + 2) (.bool true) = frs (C.fs.set i (fD v)) := fun v => frs_2 hil (by omega) (by rw [hfD]; rfl)
    have hLs : ∀ g : Frm, (frs (C.fs.set i g)).length = C.fs.length * 6 := fun g => by rw [frs_len, List.length_set]
    refine Triple.enter Try.func35 rfl Try.ntmps35 rfl (fun W => ?_)
    dsimp only [argsF, Nat.reduceAdd]
    repeat' (first
     | refine WPl.nil ?_ | refine WPq.then ?_ | refine WPq.thenR ?_ | refine WPq.thenE ?_ | refine WPq.blockN ?_ | refine WPq.blockR ?_ | refine WPq.blockE ?_ | refine WPq.blockO rfl ?_ | refine WPc.seq ?_ | refine WPc.block ?_ | refine WPc.ret ?_ | refine WPc.exit ?_ | refine WPc.skip ?_ | refine WPc.region ?_
     | (refine isCond ?_; first | refine WPc.cT ?_ | refine WPc.cF ?_ | (refine WPc.cQ (fun hc => ?_) (fun hc => ?_) <;> try exact prA))
     | (refine isC 12 ?_; refine WPl.cV c12 ?_ (hΔ := provsW))
     | (refine isD 17 ?_; refine WPl.rdX (ReadR.binE rfl rfl BinR.neq (congrArg Value.bool (show (!decide _) = false by rw [decide_eq_true hsb2]; rfl))) ?_)
     | (refine isC 21 ?_; refine WPl.cV c21 ?_ (hΔ := provsW))
     | (refine isD 23 ?_; refine WPl.rdX (readP) ?_)
     | (refine isC 44 ?_; refine WPl.cR c44 (fun v44 hv44 => ?_) (hΔ := provsW))
     | (refine isD 46 ?_; refine WPl.rdX (ReadR.fieldE rfl hasA (by omega)) ?_)
     | (show WPl _ _ _ _ _ _ _ (⟨_, .store _ (.tmp 46) _, _, _, _, _⟩ :: _) _; refine WPl.stEN (i := i * 6 + 5) (m := C.fs.length) (xs := frs C.fs) (by omega) ?_; rw [hs5])
     | (refine isD 48 ?_; refine WPl.rdX (ReadR.fieldE rfl hasA (by rw [hLs]; omega)) ?_)
     | (show WPl _ _ _ _ _ _ _ (⟨_, .store _ (.tmp 48) _, _, _, _, _⟩ :: _) _; refine WPl.stEN (i := i * 6 + 1) (m := C.fs.length) (xs := frs (C.fs.set i { f with bv := v44, s := s })) (by rw [hLs]; omega) ?_; rw [hs1])
     | (refine isD 50 ?_; refine WPl.rdX (ReadR.fieldE rfl hasA (by rw [hLs]; omega)) ?_)
     | (show WPl _ _ _ _ _ _ _ (⟨_, .store _ (.tmp 50) _, _, _, _, _⟩ :: _) _; refine WPl.stEN (i := i * 6 + 2) (m := C.fs.length) (xs := frs (C.fs.set i { f with bv := v44, s := s, dirty := true })) (by rw [hLs]; omega) ?_; rw [hs2])
     | (refine isOp ?_; first | refine WPl.rd ?_ | refine WPl.sk ?_ | refine WPl.rdB ?_)
     | (refine isSt ?_; first | refine WPl.st1 ?_ | refine WPl.stA ?_ | refine WPl.stEB ?_ | refine WPl.stRB ?_)
     | (show WPl _ _ _ _ _ _ _ (⟨_, .indexAddr _ _ _, _, _, _, _⟩ :: _) _; refine WPl.rdX (ReadR.indexE rfl rfl hasA (by first | assumption | omega)) ?_)
     | (show WPl _ _ _ _ _ _ _ (⟨_, .fieldAddr _ _ _, _, _, _, _⟩ :: _) _; refine WPl.rdX (ReadR.fieldE rfl hasA (by first | assumption | omega)) ?_)
     | (show WPl _ _ _ _ _ _ _ (⟨_, .load _ _, _, _, _, _⟩ :: _) _; first | refine WPl.rdX (ReadR.loadE rfl hasA (by assumption)) ?_ | refine WPl.rdX (ReadR.loadES (by assumption) (by first | assumption | omega) rfl hasA) ?_)
     | (show WPl _ _ _ _ _ _ _ (⟨_, .slice _ _ _ _ _, _, _, _, _⟩ :: _) _; first | refine WPl.rdX (ReadR.sliceH rfl rfl hasA (by omega)) ?_ | refine WPl.rdX (ReadR.sliceL rfl rfl hasA (by omega)) ?_ | refine WPl.rdX (ReadR.sliceLH rfl rfl rfl hasA (by omega) (by omega)) ?_)
     | (refine WPl.spQ (fun hc => ?_) (fun hc => ?_) <;> try exact prA)
     | fail)
    refine WPq.vaultIn (A := ob v44 s.b) (v := v44) (s := s) .ob ?_
    have hfi' : FInv n p ((v44, s) :: C.rs) (fD v44) := by rw [hfD]; exact ⟨hv44, fun _ => ⟨(hfi.here hfu).1, List.mem_cons_self ..⟩, (fun hx => by rw [show (⟨f.full, true, true, f.no, f.pins, v44, s⟩ : Frm).full = f.full from rfl, hfu] at hx; cases hx), hfi.pin0, hfi.pin1⟩
    exact WPq.dX (ho := ownsW) (vs := [.int .i64 0]) [bx gK 86 (cxc gV vF (C.hand : Int)), rowN 90 6 vF C.fs.length (frs (C.fs.set i (fD v44))), vault ((v44, s) :: C.rs), bx gV 79 (dvc S.fu vd mD S.cn), rowN 81 256 vd S.ls.length (secs S.ls), mp secM mD S.es, bag S.es] ⟨⟨C.fs.set i (fD v44), C.hand, (v44, s) :: C.rs⟩, S, rfl, set_vw (by rw [hfD]; exact hfu) (by rw [hfD]) _, rfl, (h.in (v44, s)).set hfi' h.hand, hd.mono (Nat.le_succ _), by show _ = [_, rowN _ 6 vF (C.fs.set i (fD v44)).length _, _, _, _, _, _]; rw [List.length_set]⟩
  | none =>
    rw [hco] at c21
    unfold fptr at c21
    dsimp only at c21
    have c26 := room_t gK gV vF mD vd n m p k C S h hd hn h8 hm hkb
    have hr : C.vw.put S.vw no s = match (C.vw.room S.vw).2.2.1 with | none => ((C.vw.room S.vw).1, (C.vw.room S.vw).2.1, (C.vw.room S.vw).2.2.2) | some i => (setF (C.vw.room S.vw).1 i (some ⟨no, 0, true, true, s⟩), (C.vw.room S.vw).2.1, 0) := by
      unfold Cv.put
      rw [at_miss hco]
      rfl
    rw [hr]
    clear hr
    obtain ⟨⟨Cn, Dn, o, er⟩, hroom⟩ : ∃ x, x = C.vw.room S.vw := ⟨_, rfl⟩
    rw [← hroom] at c26 ⊢
    clear hroom
    unfold RRoom at c26
    cases o with
    | none =>
      dsimp only [fptr] at c26 ⊢
      refine Triple.enter Try.func35 rfl Try.ntmps35 rfl (fun W => ?_)
      dsimp only [argsF, Nat.reduceAdd]
      repeat' (first
       | refine WPl.nil ?_ | refine WPq.then ?_ | refine WPq.thenR ?_ | refine WPq.thenE ?_ | refine WPq.blockN ?_ | refine WPq.blockR ?_ | refine WPq.blockE ?_ | refine WPq.blockO rfl ?_ | refine WPc.seq ?_ | refine WPc.block ?_ | refine WPc.ret ?_ | refine WPc.exit ?_ | refine WPc.skip ?_ | refine WPc.region ?_
       | (refine isCond ?_; first | refine WPc.cT ?_ | refine WPc.cF ?_ | (refine WPc.cQ (fun hc => ?_) (fun hc => ?_) <;> try exact prA))
       | (refine isC 12 ?_; refine WPl.cV c12 ?_ (hΔ := provsW))
       | (refine isD 17 ?_; refine WPl.rdX (ReadR.binE rfl rfl BinR.neq (congrArg Value.bool (show (!decide _) = false by rw [decide_eq_true hsb2]; rfl))) ?_)
       | (refine isC 21 ?_; refine WPl.cV c21 ?_ (hΔ := provsW))
       | (refine isD 23 ?_; refine WPl.rdX (readP) ?_)
       | (refine isC 26 ?_; refine WPl.cXs (c26) fun v Γ1 hR => ?_; (obtain ⟨C1, S1, rfl, hCv, hSv, hCi, hDi, hrs, hfr, hne, rfl⟩ := hR; have her := hne rfl); (try dsimp only [putF, List.cons_append, List.nil_append]))
       | (refine isD 30 ?_; refine WPl.rdX (ReadR.binE rfl rfl BinR.neq (congrArg Value.bool (show (!decide _) = true by rw [decide_eq_false her]; rfl))) ?_)
       | (refine isOp ?_; first | refine WPl.rd ?_ | refine WPl.sk ?_ | refine WPl.rdB ?_)
       | (refine isSt ?_; first | refine WPl.st1 ?_ | refine WPl.stA ?_ | refine WPl.stEB ?_ | refine WPl.stRB ?_)
       | (show WPl _ _ _ _ _ _ _ (⟨_, .indexAddr _ _ _, _, _, _, _⟩ :: _) _; refine WPl.rdX (ReadR.indexE rfl rfl hasA (by first | assumption | omega)) ?_)
       | (show WPl _ _ _ _ _ _ _ (⟨_, .fieldAddr _ _ _, _, _, _, _⟩ :: _) _; refine WPl.rdX (ReadR.fieldE rfl hasA (by first | assumption | omega)) ?_)
       | (show WPl _ _ _ _ _ _ _ (⟨_, .load _ _, _, _, _, _⟩ :: _) _; first | refine WPl.rdX (ReadR.loadE rfl hasA (by assumption)) ?_ | refine WPl.rdX (ReadR.loadES (by assumption) (by first | assumption | omega) rfl hasA) ?_)
       | (show WPl _ _ _ _ _ _ _ (⟨_, .slice _ _ _ _ _, _, _, _, _⟩ :: _) _; first | refine WPl.rdX (ReadR.sliceH rfl rfl hasA (by omega)) ?_ | refine WPl.rdX (ReadR.sliceL rfl rfl hasA (by omega)) ?_ | refine WPl.rdX (ReadR.sliceLH rfl rfl rfl hasA (by omega) (by omega)) ?_)
       | (refine WPl.spQ (fun hc => ?_) (fun hc => ?_) <;> try exact prA)
       | fail)
      exact WPq.dX (ho := ownsW) (vs := [.int .i64 er]) (cdA gK gV vF C1 mD vd S1) ⟨C1, S1, rfl, hCv, hSv, hCi, hDi, rfl⟩
    | some i =>
      dsimp only [fptr] at c26 ⊢
      refine Triple.enter Try.func35 rfl Try.ntmps35 rfl (fun W => ?_)
      dsimp only [argsF, Nat.reduceAdd]
      repeat' (first
       | refine WPl.nil ?_ | refine WPq.then ?_ | refine WPq.thenR ?_ | refine WPq.thenE ?_ | refine WPq.blockN ?_ | refine WPq.blockR ?_ | refine WPq.blockE ?_ | refine WPq.blockO rfl ?_ | refine WPc.seq ?_ | refine WPc.block ?_ | refine WPc.ret ?_ | refine WPc.exit ?_ | refine WPc.skip ?_ | refine WPc.region ?_
       | (refine isCond ?_; first | refine WPc.cT ?_ | refine WPc.cF ?_ | (refine WPc.cQ (fun hc => ?_) (fun hc => ?_) <;> try exact prA))
       | (refine isC 12 ?_; refine WPl.cV c12 ?_ (hΔ := provsW))
       | (refine isD 17 ?_; refine WPl.rdX (ReadR.binE rfl rfl BinR.neq (congrArg Value.bool (show (!decide _) = false by rw [decide_eq_true hsb2]; rfl))) ?_)
       | (refine isC 21 ?_; refine WPl.cV c21 ?_ (hΔ := provsW))
       | (refine isD 23 ?_; refine WPl.rdX (readP) ?_)
       | (refine isC 26 ?_; refine WPl.cXs (c26) fun v Γ1 hR => ?_; (obtain ⟨C1, S1, rfl, hCv, hSv, hCi, hDi, hrs, hfr, hne, rfl⟩ := hR; obtain ⟨her, f, hf, hfe⟩ := hfr i rfl; have hfi := hCi.each f (List.mem_of_getElem? hf); obtain ⟨z1, z2, z3, z4, z5⟩ := hfi.gone hfe; have hil : i < C1.fs.length := (List.getElem?_eq_some_iff.1 hf).1; have hL1 := frs_len (l := C1.fs); have hs0 := pw0 hf; have hs3 := pw3 (f := f) (no : Int) hil; have hs5 := pw5 (f := f) (no : Int) s hil; have hs1 := pw1 (f := f) (no : Int) s hil; have hs2 := pw2 (f := f) (no : Int) s hil; have hLs := @pwL C1.fs i); (try dsimp only [putF, List.cons_append, List.nil_append]))
       | (refine isD 30 ?_; refine WPl.rdX (ReadR.binE rfl rfl BinR.neq (congrArg Value.bool (show (!decide _) = false by rw [decide_eq_true her]; rfl))) ?_)
       | (refine isD 37 ?_; refine WPl.rdX (ReadR.fieldE rfl hasA (by omega)) ?_)
       | (show WPl _ _ _ _ _ _ _ (⟨_, .store _ (.tmp 37) _, _, _, _, _⟩ :: _) _; refine WPl.stEN (i := i * 6 + 0) (m := C1.fs.length) (xs := frs C1.fs) (by omega) ?_; rw [hs0])
       | (refine isD 39 ?_; refine WPl.rdX (ReadR.fieldE rfl hasA (by rw [hLs]; omega)) ?_)
       | (show WPl _ _ _ _ _ _ _ (⟨_, .store _ (.tmp 39) _, _, _, _, _⟩ :: _) _; refine WPl.stEN (i := i * 6 + 3) (m := C1.fs.length) (xs := frs (C1.fs.set i { f with full := true })) (by rw [hLs]; omega) ?_; rw [hs3])
       | (refine isC 44 ?_; refine WPl.cR c44 (fun v44 hv44 => ?_) (hΔ := provsW))
       | (refine isD 46 ?_; refine WPl.rdX (ReadR.fieldE rfl hasA (by rw [hLs]; omega)) ?_)
       | (show WPl _ _ _ _ _ _ _ (⟨_, .store _ (.tmp 46) _, _, _, _, _⟩ :: _) _; refine WPl.stEN (i := i * 6 + 5) (m := C1.fs.length) (xs := frs (C1.fs.set i { f with full := true, no := (no : Int) })) (by rw [hLs]; omega) ?_; rw [hs5])
       | (refine isD 48 ?_; refine WPl.rdX (ReadR.fieldE rfl hasA (by rw [hLs]; omega)) ?_)
       | (show WPl _ _ _ _ _ _ _ (⟨_, .store _ (.tmp 48) _, _, _, _, _⟩ :: _) _; refine WPl.stEN (i := i * 6 + 1) (m := C1.fs.length) (xs := frs (C1.fs.set i { f with full := true, no := (no : Int), bv := v44, s := s })) (by rw [hLs]; omega) ?_; rw [hs1])
       | (refine isD 50 ?_; refine WPl.rdX (ReadR.fieldE rfl hasA (by rw [hLs]; omega)) ?_)
       | (show WPl _ _ _ _ _ _ _ (⟨_, .store _ (.tmp 50) _, _, _, _, _⟩ :: _) _; refine WPl.stEN (i := i * 6 + 2) (m := C1.fs.length) (xs := frs (C1.fs.set i { f with full := true, no := (no : Int), bv := v44, s := s, dirty := true })) (by rw [hLs]; omega) ?_; rw [hs2])
       | (refine isOp ?_; first | refine WPl.rd ?_ | refine WPl.sk ?_ | refine WPl.rdB ?_)
       | (refine isSt ?_; first | refine WPl.st1 ?_ | refine WPl.stA ?_ | refine WPl.stEB ?_ | refine WPl.stRB ?_)
       | (show WPl _ _ _ _ _ _ _ (⟨_, .indexAddr _ _ _, _, _, _, _⟩ :: _) _; refine WPl.rdX (ReadR.indexE rfl rfl hasA (by first | assumption | omega)) ?_)
       | (show WPl _ _ _ _ _ _ _ (⟨_, .fieldAddr _ _ _, _, _, _, _⟩ :: _) _; refine WPl.rdX (ReadR.fieldE rfl hasA (by first | assumption | omega)) ?_)
       | (show WPl _ _ _ _ _ _ _ (⟨_, .load _ _, _, _, _, _⟩ :: _) _; first | refine WPl.rdX (ReadR.loadE rfl hasA (by assumption)) ?_ | refine WPl.rdX (ReadR.loadES (by assumption) (by first | assumption | omega) rfl hasA) ?_)
       | (show WPl _ _ _ _ _ _ _ (⟨_, .slice _ _ _ _ _, _, _, _, _⟩ :: _) _; first | refine WPl.rdX (ReadR.sliceH rfl rfl hasA (by omega)) ?_ | refine WPl.rdX (ReadR.sliceL rfl rfl hasA (by omega)) ?_ | refine WPl.rdX (ReadR.sliceLH rfl rfl rfl hasA (by omega) (by omega)) ?_)
       | (refine WPl.spQ (fun hc => ?_) (fun hc => ?_) <;> try exact prA)
       | fail)
      refine WPq.vaultIn (A := ob v44 s.b) (v := v44) (s := s) .ob ?_
      have hfi' : FInv n p ((v44, s) :: C1.rs) ⟨true, true, true, (no : Int), f.pins, v44, s⟩ := ⟨hv44, fun _ => ⟨⟨by show (0 : Int) ≤ (no : Int); omega, by show (no : Int) < (n : Int); omega⟩, List.mem_cons_self ..⟩, (fun hx => by cases hx), hfi.pin0, hfi.pin1⟩
      exact WPq.dX (ho := ownsW) (vs := [.int .i64 0]) [bx gK 86 (cxc gV vF (C1.hand : Int)), rowN 90 6 vF C1.fs.length (frs (C1.fs.set i ⟨true, true, true, (no : Int), f.pins, v44, s⟩)), vault ((v44, s) :: C1.rs), bx gV 79 (dvc S1.fu vd mD S1.cn), rowN 81 256 vd S1.ls.length (secs S1.ls), mp secM mD S1.es, bag S1.es] ⟨⟨C1.fs.set i ⟨true, true, true, (no : Int), f.pins, v44, s⟩, C1.hand, (v44, s) :: C1.rs⟩, S1, rfl, by rw [← hCv]; exact set_vw rfl (by rw [z4]) _, hSv, (hCi.in (v44, s)).set hfi' hCi.hand, hDi, by show _ = [_, rowN _ 6 vF (C1.fs.set i _).length _, _, _, _, _, _]; rw [List.length_set]⟩
end
end Go.Proofs.Ytepmikgjnmjheaa
