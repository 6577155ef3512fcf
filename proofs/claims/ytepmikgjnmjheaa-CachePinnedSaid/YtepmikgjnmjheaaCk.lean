/- Layer 5 (cache): contracts: Sync. -/
import Derived.Test.YtepmikgjnmjheaaCl
namespace Go.Proofs.Ytepmikgjnmjheaa
open Go.RowKit
set_option linter.unusedSimpArgs false
set_option linter.unusedVariables false
set_option maxRecDepth 20000
set_option maxHeartbeats 4000000
attribute [local irreducible] WPc WPl WPq ReadR OpT BinR HasS bx rdN rowN Take Takes Prov Triple ResF BuildP Done ag Int.decLt Int.decLe Int.instDecidableEq
attribute [local irreducible] mp rmp rg rgo bag vrow secs mput mget mfind mdel intsV skeys vault frs pickG secF
def syncL : List Int → Cv → Dv → Cv × Dv × Int
  | [], C, D => (C, D.flush.1, D.flush.2)
  | no :: l, C, D => match C.at no with
    | some i => (match C.fs[i]? with
      | some (some f) => if (D.wr no.toNat f.s).2 = 0 then syncL l (setF C i (some { f with dirty := false })) (D.wr no.toNat f.s).1 else (C, (D.wr no.toNat f.s).1, (D.wr no.toNat f.s).2)
      | _ => (C, D, 0))
    | none => (C, D, 0)
def Cv.sync (C : Cv) (D : Dv) : Cv × Dv × Int := syncL C.dirty C D
instance : Inhabited CS := ⟨⟨[], 0, []⟩⟩
/-- What is held. -/
def HasF (no : Int) (fs : List Frm) : Prop := ∃ f ∈ fs, f.full = true ∧ f.no = no
theorem HasF.at {no : Int} {fs : List Frm} (h : HasF no fs) : ∃ i, atF fs no = some i := by
  cases ha : atF fs no with
  | some i => exact ⟨i, rfl⟩
  | none =>
    unfold atF at ha
    rw [List.findIdx?_eq_none_iff] at ha
    obtain ⟨f, hf, h1, h2⟩ := h
    have := ha f hf
    rw [h1, decide_eq_true h2] at this
    cases this
theorem HasF.set {no : Int} {fs : List Frm} {i : Nat} {f g : Frm} (h : HasF no fs) (hf : fs[i]? = some f) (h1 : g.full = f.full) (h2 : g.no = f.no) : HasF no (fs.set i g) := by
  obtain ⟨x, hx, h3, h4⟩ := h
  obtain ⟨j, hj⟩ := List.getElem?_of_mem hx
  by_cases hij : i = j
  · subst hij
    rw [hf] at hj
    cases hj
    exact ⟨g, List.mem_of_getElem? (List.getElem?_set_self (List.getElem?_eq_some_iff.1 hf).1), by rw [h1, h3], by rw [h2, h4]⟩
  · exact ⟨x, List.mem_of_getElem? (by rw [List.getElem?_set_ne hij]; exact hj), h3, h4⟩
theorem hasF_dirty {C : CS} {no : Int} (h : no ∈ C.vw.dirty) : HasF no C.fs := by
  unfold Cv.dirty at h
  rw [List.mem_mergeSort, ← dnos_vw] at h
  unfold nosF at h
  obtain ⟨f, hf, h1⟩ := List.mem_map.1 h
  rw [List.mem_filter, Bool.and_eq_true] at hf
  exact ⟨f, hf.1, hf.2.1, h1⟩
theorem dirty_len {C : CS} {n m p : Nat} (h : CInv n m p C) : C.vw.dirty.length ≤ m := by
  unfold Cv.dirty
  rw [List.length_mergeSort, ← dnos_vw, ← h.len]
  exact nosF_len
section
variable (gK gV : Nat) (vF : Value) (mD : Nat) (vd : Value) (n m p k : Nat) (C0 : CS) (S0 : DS)
theorem csync_t (h0 : CInv n m p C0) (hd0 : DInv n k S0) (hn : n ≤ 1600) (hm : m ≤ 64) (hkb : k ≤ 80000) : Triple Try.prog 37 #[hC gK] (cdA gK gV vF C0 mD vd S0) (RPut gK gV vF mD vd n m p (k + m) (C0.vw.sync S0.vw)) := by
  have c10 := cdirty_t gK gV vF n m p C0 h0 hm
  have hdl := dirty_len h0
  have hall : ∀ no ∈ C0.vw.dirty, HasF no C0.fs := fun no hno => hasF_dirty hno
  rw [show C0.vw.sync S0.vw = syncL C0.vw.dirty C0.vw S0.vw from rfl]
  obtain ⟨r, hr⟩ : ∃ r, r = syncL C0.vw.dirty C0.vw S0.vw := ⟨_, rfl⟩
  rw [← hr]
  obtain ⟨L, hLd⟩ : ∃ L, L = C0.vw.dirty := ⟨_, rfl⟩
  rw [← hLd] at c10 hdl hall hr
  clear hLd
  refine Triple.enter Try.func37 rfl Try.ntmps37 rfl (fun W => ?_)
  dsimp only [argsF, Nat.reduceAdd]
  repeat' (first
   | refine WPl.nil ?_ | refine WPq.then ?_ | refine WPq.thenR ?_ | refine WPq.thenE ?_ | refine WPq.blockN ?_ | refine WPq.blockR ?_ | refine WPq.blockE ?_ | refine WPq.blockO rfl ?_ | refine WPc.seq ?_ | refine WPc.block ?_ | refine WPc.ret ?_ | refine WPc.exit ?_ | refine WPc.skip ?_ | refine WPc.region ?_
   | (refine isReg 7 ?_; refine WPc.drA [([], [23, 24, 25, 26, 27]), ([0], [19, 23, 24, 25, 26, 27]), ([0, 1], [19, 20, 23, 24, 25, 26, 27]), ([0, 1, 2], [19, 20, 21, 23, 24, 25, 26, 27]), ([], [19, 20, 21, 22, 24, 25, 26, 27]), ([], [19, 20, 21, 22, 23]), ([5], [19, 20, 21, 22, 23, 24]), ([5, 6], [19, 20, 21, 22, 23, 24, 25]), ([5, 6, 7], [19, 20, 21, 22, 23, 24, 25, 26]), ([0, 1, 2, 3, 4, 5, 6, 7, 8], [19, 20, 21, 22, 23, 24, 25, 26, 27]), ([0, 1, 2, 3, 4, 5, 6, 7, 8, 9], [19, 20, 21, 22, 23, 24, 25, 26, 27, 28])] [] (Γx := []) ?_; dsimp only [prev0, List.length_nil, List.length_cons])
   | (refine gAny ?_; first | (refine gD 8 ?_; refine RGl.rdX (fun e hk => by (try dsimp only [bndR, ensR, oksR, fcutR, List.append_nil, List.nil_append, List.cons_append, List.append_assoc] at hk ⊢); exact readP) ?_) | (refine gOp ?_; first | refine RGl.rdA ?_ | refine RGl.rdX (fun e hk => by (try dsimp only [bndR, ensR, oksR, fcutR, List.append_nil, List.nil_append, List.cons_append, List.append_assoc] at hk ⊢); exact readB) ?_) | (refine RGl.fin (fun e hk => ?_); (try dsimp only [bndA, ensAR, oksA, List.append_nil, List.nil_append, List.cons_append, List.append_assoc] at hk ⊢); (repeat (obtain ⟨hk1, hk⟩ := hk))) | fail)
   | (refine isCond ?_; first | refine WPc.cT ?_ | refine WPc.cF ?_ | (refine WPc.cQ (fun hc => ?_) (fun hc => ?_) <;> try exact prA))
   | (refine isD 8 ?_; refine WPl.rdX (readP) ?_)
   | (refine isC 10 ?_; refine WPl.cR c10 (fun w10 hw10 => ?_) (hΔ := provsW))
   | (refine isOp ?_; first | refine WPl.rd ?_ | refine WPl.sk ?_ | refine WPl.rdB ?_)
   | (refine isSt ?_; first | refine WPl.st1 ?_ | refine WPl.stA ?_ | refine WPl.stEB ?_ | refine WPl.stRB ?_)
   | (show WPl _ _ _ _ _ _ _ (⟨_, .indexAddr _ _ _, _, _, _, _⟩ :: _) _; refine WPl.rdX (ReadR.indexE rfl rfl hasA (by first | assumption | omega)) ?_)
   | (show WPl _ _ _ _ _ _ _ (⟨_, .fieldAddr _ _ _, _, _, _, _⟩ :: _) _; refine WPl.rdX (ReadR.fieldE rfl hasA (by first | assumption | omega)) ?_)
   | (show WPl _ _ _ _ _ _ _ (⟨_, .load _ _, _, _, _, _⟩ :: _) _; first | refine WPl.rdX (ReadR.loadE rfl hasA (by assumption)) ?_ | refine WPl.rdX (ReadR.loadES (by assumption) (by first | assumption | omega) rfl hasA) ?_)
   | (show WPl _ _ _ _ _ _ _ (⟨_, .slice _ _ _ _ _, _, _, _, _⟩ :: _) _; first | refine WPl.rdX (ReadR.sliceH rfl rfl hasA (by omega)) ?_ | refine WPl.rdX (ReadR.sliceL rfl rfl hasA (by omega)) ?_ | refine WPl.rdX (ReadR.sliceLH rfl rfl rfl hasA (by omega) (by omega)) ?_)
   | (refine WPl.spQ (fun hc => ?_) (fun hc => ?_) <;> try exact prA)
   | fail)
  first | refine WPc.loop (σ := Nat × CS × DS) (fun st => st.1 ≤ L.length ∧ CInv n m p st.2.1 ∧ DInv n (k + st.1) st.2.2 ∧ r = syncL (L.drop st.1) st.2.1.vw st.2.2.vw ∧ (∀ no ∈ L, HasF no st.2.1.fs)) (fun st => [rowN 3 1 w10 L.length (intsV L), bx gK 86 (cxc gV vF (st.2.1.hand : Int)), rowN 90 6 vF st.2.1.fs.length (frs st.2.1.fs), vault st.2.1.rs, bx gV 79 (dvc st.2.2.fu vd mD st.2.2.cn), rowN 81 256 vd st.2.2.ls.length (secs st.2.2.ls), mp secM mD st.2.2.es, bag st.2.2.es]) (fun st => [(0, hC gK), (10, w10), (11, .int .i64 (L.length : Int)), (12, .int .i64 (st.1 : Int))]) (fun st => L.length - st.1) ((0, C0, S0)) ?_ takesA frsA (fun st km hx hk => ?_)
  · exact ⟨Nat.zero_le _, h0, hd0, hr, hall⟩
  obtain ⟨i, C, S⟩ := st
  obtain ⟨hi, h, hd, hr2, hal⟩ := hx
  dsimp only at hi h hd hr2 hal hk ⊢
  have hkm : km = L.length - i := hk
  clear hk
  have hlen := h.len
  have hLf := frs_len (l := C.fs)
  by_cases hlt : i < L.length
  · obtain ⟨no, hno⟩ : ∃ no, L[i]? = some no := ⟨_, List.getElem?_eq_getElem hlt⟩
    have hnoV : (intsV L)[i]? = some (.int .i64 no) := intsV_at hno
    obtain ⟨q, hq⟩ := (hal no (List.mem_of_getElem? hno)).at
    obtain ⟨f, hf, hfu, hfn, hfi, hmem, hil, hat, hvf⟩ := at_hit h hq
    obtain ⟨⟨hn0, hn1⟩, _⟩ := hfi.here hfu
    obtain ⟨j, rfl⟩ : ∃ j : Nat, no = (j : Int) := ⟨no.toNat, by omega⟩
    have c18 := at_t gK gV vF (C.hand : Int) C.fs (j : Int) (by omega)
    rw [hq] at c18
    unfold fptr at c18
    dsimp only at c18
    have c5 : (frs C.fs)[q * 6 + 5]? = some f.bv := frs_cell hf (by omega)
    have c28 := dwr_t gV mD vd n (k + i) S j f.bv f.s hd (by omega) (by omega) (by omega)
    have hdr : L.drop i = (j : Int) :: L.drop (i + 1) := by rw [List.drop_eq_getElem_cons hlt]; congr 1; exact (List.getElem?_eq_some_iff.1 hno).2
    rw [hdr] at hr2
    have hr3 : r = if (S.vw.wr j f.s).2 = 0 then syncL (L.drop (i + 1)) (setF C.vw q (some ⟨f.no, f.pins, false, f.used, f.s⟩)) (S.vw.wr j f.s).1 else (C.vw, (S.vw.wr j f.s).1, (S.vw.wr j f.s).2) := by
      rw [hr2]
      show (match C.vw.at (j : Int) with | some i => _ | none => _) = _
      rw [hat]
      dsimp only
      rw [hvf]
      rfl
    obtain ⟨D1, hD1⟩ : ∃ D1, D1 = (S.vw.wr j f.s).1 := ⟨_, rfl⟩
    obtain ⟨er, her⟩ : ∃ er, er = (S.vw.wr j f.s).2 := ⟨_, rfl⟩
    rw [← hD1, ← her] at c28 hr3
    have hv28 : ∀ v Γ', RD gV mD vd n (k + i + 1) (.int .i64 er) D1 v Γ' → v = .int .i64 er ∧ ∃ S', Γ' = dvA gV mD vd S' ∧ (S'.vw = D1 ∧ DInv n (k + i + 1) S') := fun v Γ' ⟨S', h1, h2, h3, h4⟩ => ⟨h1, S', h4, h2, h3⟩
    by_cases he : er = 0
    · rw [if_pos he] at hr3
      obtain ⟨f', hf'⟩ : ∃ f', f' = { f with dirty := false } := ⟨_, rfl⟩
      have hs := frs_1 (f' := f') (o := 1) (u := .bool false) hf (by omega) (by rw [hf']; rfl)
      have hfi' : FInv n p C.rs f' := by rw [hf']; exact ⟨hfi.one, hfi.here, (fun hx => by rw [show ({ f with dirty := false } : Frm).full = f.full from rfl, hfu] at hx; cases hx), hfi.pin0, hfi.pin1⟩
      have hsv := set_vw (C := C) (i := q) (f := f') (g := ⟨f.no, f.pins, false, f.used, f.s⟩) (by rw [hf']; exact hfu) (by rw [hf']) C.rs
      rw [← hsv] at hr3
      have hal' : ∀ no ∈ L, HasF no (C.fs.set q f') := fun no hno => (hal no hno).set hf (by rw [hf']) (by rw [hf'])
      repeat' (first
       | refine WPl.nil ?_ | refine WPq.then ?_ | refine WPq.thenR ?_ | refine WPq.thenE ?_ | refine WPq.blockN ?_ | refine WPq.blockR ?_ | refine WPq.blockE ?_ | refine WPq.blockO rfl ?_ | refine WPc.seq ?_ | refine WPc.block ?_ | refine WPc.ret ?_ | refine WPc.exit ?_ | refine WPc.skip ?_ | refine WPc.region ?_
       | (refine isReg 7 ?_; refine WPc.drA [([11, 12, 13, 14], [23, 24, 25, 26, 27]), ([0, 11, 12, 13, 14], [19, 23, 24, 25, 26, 27]), ([0, 1, 11, 12, 13, 14], [19, 20, 23, 24, 25, 26, 27]), ([0, 1, 2, 11, 12, 13, 14], [19, 20, 21, 23, 24, 25, 26, 27]), ([11, 12, 13, 14], [19, 20, 21, 22, 24, 25, 26, 27]), ([11, 12, 13, 14], [19, 20, 21, 22, 23]), ([5, 11, 12, 13, 14], [19, 20, 21, 22, 23, 24]), ([5, 6, 11, 12, 13, 14], [19, 20, 21, 22, 23, 24, 25]), ([5, 6, 7, 11, 12, 13, 14], [19, 20, 21, 22, 23, 24, 25, 26]), ([0, 1, 2, 3, 4, 5, 6, 7, 8, 11, 12, 13, 14], [19, 20, 21, 22, 23, 24, 25, 26, 27]), ([0, 1, 2, 3, 4, 5, 6, 7, 8, 9, 11, 12, 13, 14], [19, 20, 21, 22, 23, 24, 25, 26, 27, 28])] [(11, 9), (12, 9), (13, 9), (14, 9), (11, 0), (11, 1), (11, 2), (11, 3), (11, 4), (11, 5), (11, 6), (11, 7), (11, 8), (12, 0), (12, 1), (12, 2), (12, 3), (12, 4), (12, 5), (12, 6), (12, 7), (12, 8), (13, 0), (13, 1), (13, 2), (13, 3), (13, 4), (13, 5), (13, 6), (13, 7), (13, 8), (14, 0), (14, 1), (14, 2), (14, 3), (14, 4), (14, 5), (14, 6), (14, 7), (14, 8)] (Γx := [bx gV 79 (dvc S.fu vd mD S.cn), rowN 81 256 vd S.ls.length (secs S.ls), mp secM mD S.es, bag S.es]) (hox := ownsV) ?_; dsimp only [prev0, List.length_nil, List.length_cons])
       | (refine gAny ?_; first | (refine gD 14 ?_; refine RGl.rdX (fun e hk => by (try dsimp only [bndR, ensR, oksR, fcutR, List.append_nil, List.nil_append, List.cons_append, List.append_assoc] at hk ⊢); exact ReadR.indexE1 (i := i) rfl rfl hasA hlt) ?_) | (refine gD 15 ?_; refine RGl.rdX (fun e hk => by (try dsimp only [bndR, ensR, oksR, fcutR, List.append_nil, List.nil_append, List.cons_append, List.append_assoc] at hk ⊢); exact ReadR.loadE rfl hasA hnoV) ?_) | (refine gD 26 ?_; refine RGl.rdX (fun e hk => by (try dsimp only [bndR, ensR, oksR, fcutR, List.append_nil, List.nil_append, List.cons_append, List.append_assoc] at hk ⊢); exact ReadR.fieldE rfl hasA (by omega)) ?_) | (refine gD 27 ?_; refine RGl.rdX (fun e hk => by (try dsimp only [bndR, ensR, oksR, fcutR, List.append_nil, List.nil_append, List.cons_append, List.append_assoc] at hk ⊢); exact ReadR.loadE rfl hasA c5) ?_) | (refine gOp ?_; (refine gC 28 ?_; refine RGl.relG (.int .i64 er) (fun S' => dvA gV mD vd S') (fun S' => S'.vw = D1 ∧ DInv n (k + i + 1) S') hv28 (fun e hk => by (try dsimp only [bndR, ensR, oksR, fcutR, List.append_nil, List.nil_append, List.cons_append, List.append_assoc] at hk ⊢); exact OpT.callM c28 evsA takesA (Provs.cons (Prov.rd (HasS.vault memA hmem)) Provs.nil) (fpVaultM memA hmem) (by kernel_rfl)) ?_)) | (refine gD 30 ?_; refine RGl.rdX (fun e hk => by (try dsimp only [bndR, ensR, oksR, fcutR, List.append_nil, List.nil_append, List.cons_append, List.append_assoc] at hk ⊢); exact ReadR.binE rfl rfl BinR.neq (congrArg Value.bool (show (!decide _) = false by rw [decide_eq_true he]; rfl))) ?_) | (refine gD 34 ?_; refine RGl.rdX (fun e hk => by (try dsimp only [bndR, ensR, oksR, fcutR, List.append_nil, List.nil_append, List.cons_append, List.append_assoc] at hk ⊢); exact ReadR.fieldE rfl hasA (by omega)) ?_) | (refine gOp ?_; first | refine RGl.rdA ?_ | refine RGl.rdX (fun e hk => by (try dsimp only [bndR, ensR, oksR, fcutR, List.append_nil, List.nil_append, List.cons_append, List.append_assoc] at hk ⊢); exact readB) ?_) | (refine RGl.fin (fun e hk => ?_); (try dsimp only [bndA, ensAR, oksA, List.append_nil, List.nil_append, List.cons_append, List.append_assoc] at hk ⊢); (repeat (obtain ⟨hk1, hk⟩ := hk))) | fail)
       | (refine isCond ?_; first | refine WPc.cT ?_ | refine WPc.cF ?_ | (refine WPc.cQ (fun hc => ?_) (fun hc => ?_) <;> try first | exact prA | (exfalso; first | omega)))
       | (refine isD 14 ?_; refine WPl.rdX (ReadR.indexE1 (i := i) rfl rfl hasA hlt) ?_)
       | (refine isD 15 ?_; refine WPl.rdX (ReadR.loadE rfl hasA hnoV) ?_)
       | (refine isC 18 ?_; refine WPl.cV c18 ?_ (hΔ := provsW))
       | (refine isD 30 ?_; refine WPl.rdX (ReadR.binE rfl rfl BinR.neq (congrArg Value.bool (show (!decide _) = false by rw [decide_eq_true he]; rfl))) ?_)
       | (refine isD 34 ?_; refine WPl.rdX (ReadR.fieldE rfl hasA (by omega)) ?_)
       | (show WPl _ _ _ _ _ _ _ (⟨_, .store _ (.tmp 34) _, _, _, _, _⟩ :: _) _; refine WPl.stEN (i := q * 6 + 1) (m := C.fs.length) (xs := frs C.fs) (by omega) ?_; rw [hs])
       | (refine isOp ?_; first | refine WPl.rd ?_ | refine WPl.sk ?_ | refine WPl.rdB ?_)
       | (refine isSt ?_; first | refine WPl.st1 ?_ | refine WPl.stA ?_ | refine WPl.stEB ?_ | refine WPl.stRB ?_)
       | (show WPl _ _ _ _ _ _ _ (⟨_, .indexAddr _ _ _, _, _, _, _⟩ :: _) _; refine WPl.rdX (ReadR.indexE rfl rfl hasA (by first | assumption | omega)) ?_)
       | (show WPl _ _ _ _ _ _ _ (⟨_, .fieldAddr _ _ _, _, _, _, _⟩ :: _) _; refine WPl.rdX (ReadR.fieldE rfl hasA (by first | assumption | omega)) ?_)
       | (show WPl _ _ _ _ _ _ _ (⟨_, .load _ _, _, _, _, _⟩ :: _) _; first | refine WPl.rdX (ReadR.loadE rfl hasA (by assumption)) ?_ | refine WPl.rdX (ReadR.loadES (by assumption) (by first | assumption | omega) rfl hasA) ?_)
       | (show WPl _ _ _ _ _ _ _ (⟨_, .slice _ _ _ _ _, _, _, _, _⟩ :: _) _; first | refine WPl.rdX (ReadR.sliceH rfl rfl hasA (by omega)) ?_ | refine WPl.rdX (ReadR.sliceL rfl rfl hasA (by omega)) ?_ | refine WPl.rdX (ReadR.sliceLH rfl rfl rfl hasA (by omega) (by omega)) ?_)
       | (refine WPl.spQ (fun hc => ?_) (fun hc => ?_) <;> try first | exact prA | (exfalso; first | omega))
       | fail)
      have hA : (fun S' => S'.vw = D1 ∧ DInv n (k + i + 1) S') (pickG (fun S' => dvA gV mD vd S') (fun S' => S'.vw = D1 ∧ DInv n (k + i + 1) S') (e 9).2) := by assumption
      obtain ⟨S', hS'⟩ : ∃ S', S' = (pickG (fun S' => dvA gV mD vd S') (fun S' => S'.vw = D1 ∧ DInv n (k + i + 1) S') (e 9).2) := ⟨_, rfl⟩
      rw [← hS'] at hA
      obtain ⟨hA1, hA2⟩ := hA
      dsimp only [Nat.reduceAdd]
      rw [← hS', show C.fs.length = (C.fs.set q f').length by rw [List.length_set]]
      exact WPq.rnd (i + 1, ⟨C.fs.set q f', C.hand, C.rs⟩, S') ⟨hlt, h.set hfi' h.hand, hA2, by rw [hr3, hA1], hal'⟩ (by dsimp only; omega)
    · rw [if_neg he] at hr3
      rw [hr3]
      repeat' (first
       | refine WPl.nil ?_ | refine WPq.then ?_ | refine WPq.thenR ?_ | refine WPq.thenE ?_ | refine WPq.blockN ?_ | refine WPq.blockR ?_ | refine WPq.blockE ?_ | refine WPq.blockO rfl ?_ | refine WPc.seq ?_ | refine WPc.block ?_ | refine WPc.ret ?_ | refine WPc.exit ?_ | refine WPc.skip ?_ | refine WPc.region ?_
       | (refine isReg 7 ?_; refine WPc.drA [([11, 12, 13, 14], [23, 24, 25, 26, 27]), ([0, 11, 12, 13, 14], [19, 23, 24, 25, 26, 27]), ([0, 1, 11, 12, 13, 14], [19, 20, 23, 24, 25, 26, 27]), ([0, 1, 2, 11, 12, 13, 14], [19, 20, 21, 23, 24, 25, 26, 27]), ([11, 12, 13, 14], [19, 20, 21, 22, 24, 25, 26, 27]), ([11, 12, 13, 14], [19, 20, 21, 22, 23]), ([5, 11, 12, 13, 14], [19, 20, 21, 22, 23, 24]), ([5, 6, 11, 12, 13, 14], [19, 20, 21, 22, 23, 24, 25]), ([5, 6, 7, 11, 12, 13, 14], [19, 20, 21, 22, 23, 24, 25, 26]), ([0, 1, 2, 3, 4, 5, 6, 7, 8, 11, 12, 13, 14], [19, 20, 21, 22, 23, 24, 25, 26, 27]), ([0, 1, 2, 3, 4, 5, 6, 7, 8, 9, 11, 12, 13, 14], [19, 20, 21, 22, 23, 24, 25, 26, 27, 28])] [(11, 9), (12, 9), (13, 9), (14, 9), (11, 0), (11, 1), (11, 2), (11, 3), (11, 4), (11, 5), (11, 6), (11, 7), (11, 8), (12, 0), (12, 1), (12, 2), (12, 3), (12, 4), (12, 5), (12, 6), (12, 7), (12, 8), (13, 0), (13, 1), (13, 2), (13, 3), (13, 4), (13, 5), (13, 6), (13, 7), (13, 8), (14, 0), (14, 1), (14, 2), (14, 3), (14, 4), (14, 5), (14, 6), (14, 7), (14, 8)] (Γx := [bx gV 79 (dvc S.fu vd mD S.cn), rowN 81 256 vd S.ls.length (secs S.ls), mp secM mD S.es, bag S.es]) (hox := ownsV) ?_; dsimp only [prev0, List.length_nil, List.length_cons])
       | (refine gAny ?_; first | (refine gD 14 ?_; refine RGl.rdX (fun e hk => by (try dsimp only [bndR, ensR, oksR, fcutR, List.append_nil, List.nil_append, List.cons_append, List.append_assoc] at hk ⊢); exact ReadR.indexE1 (i := i) rfl rfl hasA hlt) ?_) | (refine gD 15 ?_; refine RGl.rdX (fun e hk => by (try dsimp only [bndR, ensR, oksR, fcutR, List.append_nil, List.nil_append, List.cons_append, List.append_assoc] at hk ⊢); exact ReadR.loadE rfl hasA hnoV) ?_) | (refine gD 26 ?_; refine RGl.rdX (fun e hk => by (try dsimp only [bndR, ensR, oksR, fcutR, List.append_nil, List.nil_append, List.cons_append, List.append_assoc] at hk ⊢); exact ReadR.fieldE rfl hasA (by omega)) ?_) | (refine gD 27 ?_; refine RGl.rdX (fun e hk => by (try dsimp only [bndR, ensR, oksR, fcutR, List.append_nil, List.nil_append, List.cons_append, List.append_assoc] at hk ⊢); exact ReadR.loadE rfl hasA c5) ?_) | (refine gOp ?_; (refine gC 28 ?_; refine RGl.relG (.int .i64 er) (fun S' => dvA gV mD vd S') (fun S' => S'.vw = D1 ∧ DInv n (k + i + 1) S') hv28 (fun e hk => by (try dsimp only [bndR, ensR, oksR, fcutR, List.append_nil, List.nil_append, List.cons_append, List.append_assoc] at hk ⊢); exact OpT.callM c28 evsA takesA (Provs.cons (Prov.rd (HasS.vault memA hmem)) Provs.nil) (fpVaultM memA hmem) (by kernel_rfl)) ?_)) | (refine gD 30 ?_; refine RGl.rdX (fun e hk => by (try dsimp only [bndR, ensR, oksR, fcutR, List.append_nil, List.nil_append, List.cons_append, List.append_assoc] at hk ⊢); exact ReadR.binE rfl rfl BinR.neq (congrArg Value.bool (show (!decide _) = true by rw [decide_eq_false he]; rfl))) ?_) | (refine gOp ?_; first | refine RGl.rdA ?_ | refine RGl.rdX (fun e hk => by (try dsimp only [bndR, ensR, oksR, fcutR, List.append_nil, List.nil_append, List.cons_append, List.append_assoc] at hk ⊢); exact readB) ?_) | (refine RGl.fin (fun e hk => ?_); (try dsimp only [bndA, ensAR, oksA, List.append_nil, List.nil_append, List.cons_append, List.append_assoc] at hk ⊢); (repeat (obtain ⟨hk1, hk⟩ := hk))) | fail)
       | (refine isCond ?_; first | refine WPc.cT ?_ | refine WPc.cF ?_ | (refine WPc.cQ (fun hc => ?_) (fun hc => ?_) <;> try first | exact prA | (exfalso; first | omega)))
       | (refine isD 14 ?_; refine WPl.rdX (ReadR.indexE1 (i := i) rfl rfl hasA hlt) ?_)
       | (refine isD 15 ?_; refine WPl.rdX (ReadR.loadE rfl hasA hnoV) ?_)
       | (refine isC 18 ?_; refine WPl.cV c18 ?_ (hΔ := provsW))
       | (refine isD 30 ?_; refine WPl.rdX (ReadR.binE rfl rfl BinR.neq (congrArg Value.bool (show (!decide _) = true by rw [decide_eq_false he]; rfl))) ?_)
       | (refine isOp ?_; first | refine WPl.rd ?_ | refine WPl.sk ?_ | refine WPl.rdB ?_)
       | (refine isSt ?_; first | refine WPl.st1 ?_ | refine WPl.stA ?_ | refine WPl.stEB ?_ | refine WPl.stRB ?_)
       | (show WPl _ _ _ _ _ _ _ (⟨_, .indexAddr _ _ _, _, _, _, _⟩ :: _) _; refine WPl.rdX (ReadR.indexE rfl rfl hasA (by first | assumption | omega)) ?_)
       | (show WPl _ _ _ _ _ _ _ (⟨_, .fieldAddr _ _ _, _, _, _, _⟩ :: _) _; refine WPl.rdX (ReadR.fieldE rfl hasA (by first | assumption | omega)) ?_)
       | (show WPl _ _ _ _ _ _ _ (⟨_, .load _ _, _, _, _, _⟩ :: _) _; first | refine WPl.rdX (ReadR.loadE rfl hasA (by assumption)) ?_ | refine WPl.rdX (ReadR.loadES (by assumption) (by first | assumption | omega) rfl hasA) ?_)
       | (show WPl _ _ _ _ _ _ _ (⟨_, .slice _ _ _ _ _, _, _, _, _⟩ :: _) _; first | refine WPl.rdX (ReadR.sliceH rfl rfl hasA (by omega)) ?_ | refine WPl.rdX (ReadR.sliceL rfl rfl hasA (by omega)) ?_ | refine WPl.rdX (ReadR.sliceLH rfl rfl rfl hasA (by omega) (by omega)) ?_)
       | (refine WPl.spQ (fun hc => ?_) (fun hc => ?_) <;> try first | exact prA | (exfalso; first | omega))
       | fail)
      have hA : (fun S' => S'.vw = D1 ∧ DInv n (k + i + 1) S') (pickG (fun S' => dvA gV mD vd S') (fun S' => S'.vw = D1 ∧ DInv n (k + i + 1) S') (e 9).2) := by assumption
      obtain ⟨S', hS'⟩ : ∃ S', S' = (pickG (fun S' => dvA gV mD vd S') (fun S' => S'.vw = D1 ∧ DInv n (k + i + 1) S') (e 9).2) := ⟨_, rfl⟩
      rw [← hS'] at hA
      obtain ⟨hA1, hA2⟩ := hA
      dsimp only [Nat.reduceAdd]
      rw [← hS']
      exact WPq.dX (ho := ownsW) (vs := [.int .i64 er]) (cdA gK gV vF C mD vd S') ⟨C, S', rfl, rfl, hA1, h, hA2.mono (by omega), rfl⟩
  · have hil : L.drop i = [] := List.drop_of_length_le (by omega)
    rw [hil] at hr2
    have c40 := dfl_t gV mD vd n (k + i) S hd (by omega) (by omega)
    rw [hr2]
    repeat' (first
     | refine WPl.nil ?_ | refine WPq.then ?_ | refine WPq.thenR ?_ | refine WPq.thenE ?_ | refine WPq.blockN ?_ | refine WPq.blockR ?_ | refine WPq.blockE ?_ | refine WPq.blockO rfl ?_ | refine WPc.seq ?_ | refine WPc.block ?_ | refine WPc.ret ?_ | refine WPc.exit ?_ | refine WPc.skip ?_ | refine WPc.region ?_
     | (refine isCond ?_; first | refine WPc.cT ?_ | refine WPc.cF ?_ | (refine WPc.cQ (fun hc => ?_) (fun hc => ?_) <;> try first | exact prA | (exfalso; first | omega)))
     | (refine isC 40 ?_; refine WPl.cXs (c40) fun v Γ1 hR => ?_; (obtain ⟨S1, rfl, hS1, hD1, rfl⟩ := hR); (try dsimp only [putF, List.cons_append, List.nil_append]))
     | (refine isOp ?_; first | refine WPl.rd ?_ | refine WPl.sk ?_ | refine WPl.rdB ?_)
     | (refine isSt ?_; first | refine WPl.st1 ?_ | refine WPl.stA ?_ | refine WPl.stEB ?_ | refine WPl.stRB ?_)
     | (show WPl _ _ _ _ _ _ _ (⟨_, .indexAddr _ _ _, _, _, _, _⟩ :: _) _; refine WPl.rdX (ReadR.indexE rfl rfl hasA (by first | assumption | omega)) ?_)
     | (show WPl _ _ _ _ _ _ _ (⟨_, .fieldAddr _ _ _, _, _, _, _⟩ :: _) _; refine WPl.rdX (ReadR.fieldE rfl hasA (by first | assumption | omega)) ?_)
     | (show WPl _ _ _ _ _ _ _ (⟨_, .load _ _, _, _, _, _⟩ :: _) _; first | refine WPl.rdX (ReadR.loadE rfl hasA (by assumption)) ?_ | refine WPl.rdX (ReadR.loadES (by assumption) (by first | assumption | omega) rfl hasA) ?_)
     | (show WPl _ _ _ _ _ _ _ (⟨_, .slice _ _ _ _ _, _, _, _, _⟩ :: _) _; first | refine WPl.rdX (ReadR.sliceH rfl rfl hasA (by omega)) ?_ | refine WPl.rdX (ReadR.sliceL rfl rfl hasA (by omega)) ?_ | refine WPl.rdX (ReadR.sliceLH rfl rfl rfl hasA (by omega) (by omega)) ?_)
     | (refine WPl.spQ (fun hc => ?_) (fun hc => ?_) <;> try first | exact prA | (exfalso; first | omega))
     | fail)
    exact WPq.dX (ho := ownsW) (vs := [.int .i64 S.vw.flush.2]) (cdA gK gV vF C mD vd S1) ⟨C, S1, rfl, rfl, hS1, h, hD1.mono (by omega), rfl⟩
end
end Go.Proofs.Ytepmikgjnmjheaa
