/- What the row of cachePlays_holds needs: part 7. -/
import Derived.Test.YtepmikgjnmjheaaKp6
import Derived.Test.YtepmikgjnmjheaaKp4
import Derived.Test.YtepmikgjnmjheaaKp5
/- Layer 5 (cache): contracts: Sync. -/
namespace Go.Proofs.Ytepmikgjnmjheaa
open Go.RowKit
set_option linter.unusedSimpArgs false
set_option linter.unusedVariables false
set_option maxRecDepth 20000
set_option maxHeartbeats 4000000
attribute [local irreducible] WPc WPl WPq ReadR OpT BinR HasS bx rdN rowN Take Takes Prov Triple ResF BuildP Done ag Int.decLt Int.decLe Int.instDecidableEq
attribute [local irreducible] mp rmp rg rgo bag vrow secs mput mget mfind mdel intsV skeys vault frs pickG secF
def syncL : List Int → Cv → Dv → Cv × Dv × Int
  | [], C, D => (C, D.flush.1, D.flush.2)
  | no :: l, C, D => match C.at no with
    | some i => (match C.fs[i]? with
      | some (some f) => if (D.wr no.toNat f.s).2 = 0 then syncL l (setF C i (some { f with dirty := false })) (D.wr no.toNat f.s).1 else (C, (D.wr no.toNat f.s).1, (D.wr no.toNat f.s).2)
      | _ => (C, D, 0))
    | none => (C, D, 0)
def Cv.sync (C : Cv) (D : Dv) : Cv × Dv × Int := syncL C.dirty C D
instance : Inhabited CS := ⟨⟨[], 0, []⟩⟩
/-- What is held. -/
def HasF (no : Int) (fs : List Frm) : Prop := ∃ f ∈ fs, f.full = true ∧ f.no = no
theorem HasF.at {no : Int} {fs : List Frm} (h : HasF no fs) : ∃ i, atF fs no = some i := by
  cases ha : atF fs no with
  | some i => exact ⟨i, rfl⟩
  | none =>
    unfold atF at ha
    rw [List.findIdx?_eq_none_iff] at ha
    obtain ⟨f, hf, h1, h2⟩ := h
    have := ha f hf
    rw [h1, decide_eq_true h2] at this
    cases this
theorem HasF.set {no : Int} {fs : List Frm} {i : Nat} {f g : Frm} (h : HasF no fs) (hf : fs[i]? = some f) (h1 : g.full = f.full) (h2 : g.no = f.no) : HasF no (fs.set i g) := by
  obtain ⟨x, hx, h3, h4⟩ := h
  obtain ⟨j, hj⟩ := List.getElem?_of_mem hx
  by_cases hij : i = j
  · subst hij
    rw [hf] at hj
    cases hj
    exact ⟨g, List.mem_of_getElem? (List.getElem?_set_self (List.getElem?_eq_some_iff.1 hf).1), by rw [h1, h3], by rw [h2, h4]⟩
  · exact ⟨x, List.mem_of_getElem? (by rw [List.getElem?_set_ne hij]; exact hj), h3, h4⟩
theorem hasF_dirty {C : CS} {no : Int} (h : no ∈ C.vw.dirty) : HasF no C.fs := by
  unfold Cv.dirty at h
  rw [List.mem_mergeSort, ← dnos_vw] at h
  unfold nosF at h
  obtain ⟨f, hf, h1⟩ := List.mem_map.1 h
  rw [List.mem_filter, Bool.and_eq_true] at hf
  exact ⟨f, hf.1, hf.2.1, h1⟩
theorem dirty_len {C : CS} {n m p : Nat} (h : CInv n m p C) : C.vw.dirty.length ≤ m := by
  unfold Cv.dirty
  rw [List.length_mergeSort, ← dnos_vw, ← h.len]
  exact nosF_len
section
variable (gK gV : Nat) (vF : Value) (mD : Nat) (vd : Value) (n m p k : Nat) (C0 : CS) (S0 : DS)
theorem csync_t (h0 : CInv n m p C0) (hd0 : DInv n k S0) (hn : n ≤ 1600) (hm : m ≤ 64) (hkb : k ≤ 80000) : Triple Try.prog 37 #[hC gK] (cdA gK gV vF C0 mD vd S0) (RPut gK gV vF mD vd n m p (k + m) (C0.vw.sync S0.vw)) := by
  have c10 := cdirty_t gK gV vF n m p C0 h0 hm
  have hdl := dirty_len h0
  have hall : ∀ no ∈ C0.vw.dirty, HasF no C0.fs := fun no hno => hasF_dirty hno
  rw [show C0.vw.sync S0.vw = syncL C0.vw.dirty C0.vw S0.vw from rfl]
  obtain ⟨r, hr⟩ : ∃ r, r = syncL C0.vw.dirty C0.vw S0.vw := ⟨_, rfl⟩
  rw [← hr]
  obtain ⟨L, hLd⟩ : ∃ L, L = C0.vw.dirty := ⟨_, rfl⟩
  rw [← hLd] at c10 hdl hall hr
  clear hLd
  refine Triple.enter Try.func37 rfl Try.ntmps37 rfl (fun W => ?_)
  dsimp only [argsF, Nat.reduceAdd]
  repeat' (first
   | refine WPl.nil ?_ | refine WPq.then ?_ | refine WPq.thenR ?_ | refine WPq.thenE ?_ | refine WPq.blockN ?_ | refine WPq.blockR ?_ | refine WPq.blockE ?_ | refine WPq.blockO rfl ?_ | refine WPc.seq ?_ | refine WPc.block ?_ | refine WPc.ret ?_ | refine WPc.exit ?_ | refine WPc.skip ?_ | refine WPc.region ?_
   | (refine isReg 7 ?_; refine WPc.drA [([], [23, 24, 25, 26, 27]), ([0], [19, 23, 24, 25, 26, 27]), ([0, 1], [19, 20, 23, 24, 25, 26, 27]), ([0, 1, 2], [19, 20, 21, 23, 24, 25, 26, 27]), ([], [19, 20, 21, 22, 24, 25, 26, 27]), ([], [19, 20, 21, 22, 23]), ([5], [19, 20, 21, 22, 23, 24]), ([5, 6], [19, 20, 21, 22, 23, 24, 25]), ([5, 6, 7], [19, 20, 21, 22, 23, 24, 25, 26]), ([0, 1, 2, 3, 4, 5, 6, 7, 8], [19, 20, 21, 22, 23, 24, 25, 26, 27]), ([0, 1, 2, 3, 4, 5, 6, 7, 8, 9], [19, 20, 21, 22, 23, 24, 25, 26, 27, 28])] [] (Γx := []) ?_; dsimp only [prev0, List.length_nil, List.length_cons])
   | (refine gAny ?_; first | (refine gD 8 ?_; refine RGl.rdX (fun e hk => by (try dsimp only [bndR, ensR, oksR, fcutR, List.append_nil, List.nil_append, List.cons_append, List.append_assoc] at hk ⊢); exact readP) ?_) | (refine gOp ?_; first | refine RGl.rdA ?_ | refine RGl.rdX (fun e hk => by (try dsimp only [bndR, ensR, oksR, fcutR, List.append_nil, List.nil_append, List.cons_append, List.append_assoc] at hk ⊢); exact readB) ?_) | (refine RGl.fin (fun e hk => ?_); (try dsimp only [bndA, ensAR, oksA, List.append_nil, List.nil_append, List.cons_append, List.append_assoc] at hk ⊢); (repeat (obtain ⟨hk1, hk⟩ := hk))) | fail)
   | (refine isCond ?_; first | refine WPc.cT ?_ | refine WPc.cF ?_ | (refine WPc.cQ (fun hc => ?_) (fun hc => ?_) <;> try exact prA))
   | (refine isD 8 ?_; refine WPl.rdX (readP) ?_)
   | (refine isC 10 ?_; refine WPl.cR c10 (fun w10 hw10 => ?_) (hΔ := provsW))
   | (refine isOp ?_; first | refine WPl.rd ?_ | refine WPl.sk ?_ | refine WPl.rdB ?_)
   | (refine isSt ?_; first | refine WPl.st1 ?_ | refine WPl.stA ?_ | refine WPl.stEB ?_ | refine WPl.stRB ?_)
   | (show WPl _ _ _ _ _ _ _ (⟨_, .indexAddr _ _ _, _, _, _, _⟩ :: _) _; refine WPl.rdX (ReadR.indexE rfl rfl hasA (by first | assumption | omega)) ?_)
   | (show WPl _ _ _ _ _ _ _ (⟨_, .fieldAddr _ _ _, _, _, _, _⟩ :: _) _; refine WPl.rdX (ReadR.fieldE rfl hasA (by first | assumption | omega)) ?_)
   | (show WPl _ _ _ _ _ _ _ (⟨_, .load _ _, _, _, _, _⟩ :: _) _; first | refine WPl.rdX (ReadR.loadE rfl hasA (by assumption)) ?_ | refine WPl.rdX (ReadR.loadES (by assumption) (by first | assumption | omega) rfl hasA) ?_)
   | (show WPl _ _ _ _ _ _ _ (⟨_, .slice _ _ _ _ _, _, _, _, _⟩ :: _) _; first | refine WPl.rdX (ReadR.sliceH rfl rfl hasA (by omega)) ?_ | refine WPl.rdX (ReadR.sliceL rfl rfl hasA (by omega)) ?_ | refine WPl.rdX (ReadR.sliceLH rfl rfl rfl hasA (by omega) (by omega)) ?_)
   | (refine WPl.spQ (fun hc => ?_) (fun hc => ?_) <;> try exact prA)
   | fail)
  first | refine WPc.loop (σ := Nat × CS × DS) (fun st => st.1 ≤ L.length ∧ CInv n m p st.2.1 ∧ DInv n (k + st.1) st.2.2 ∧ r = syncL (L.drop st.1) st.2.1.vw st.2.2.vw ∧ (∀ no ∈ L, HasF no st.2.1.fs)) (fun st => [rowN 3 1 w10 L.length (intsV L), bx gK 86 (cxc gV vF (st.2.1.hand : Int)), rowN 90 6 vF st.2.1.fs.length (frs st.2.1.fs), vault st.2.1.rs, bx gV 79 (dvc st.2.2.fu vd mD st.2.2.cn), rowN 81 256 vd st.2.2.ls.length (secs st.2.2.ls), mp secM mD st.2.2.es, bag st.2.2.es]) (fun st => [(0, hC gK), (10, w10), (11, .int .i64 (L.length : Int)), (12, .int .i64 (st.1 : Int))]) (fun st => L.length - st.1) ((0, C0, S0)) ?_ takesA frsA (fun st km hx hk => ?_)
  · exact ⟨Nat.zero_le _, h0, hd0, hr, hall⟩
  obtain ⟨i, C, S⟩ := st
  obtain ⟨hi, h, hd, hr2, hal⟩ := hx
  dsimp only at hi h hd hr2 hal hk ⊢
  have hkm : km = L.length - i := hk
  clear hk
  have hlen := h.len
  have hLf := frs_len (l := C.fs)
  by_cases hlt : i < L.length
  · obtain ⟨no, hno⟩ : ∃ no, L[i]? = some no := ⟨_, List.getElem?_eq_getElem hlt⟩
    have hnoV : (intsV L)[i]? = some (.int .i64 no) := intsV_at hno
    obtain ⟨q, hq⟩ := (hal no (List.mem_of_getElem? hno)).at
    obtain ⟨f, hf, hfu, hfn, hfi, hmem, hil, hat, hvf⟩ := at_hit h hq
    obtain ⟨⟨hn0, hn1⟩, _⟩ := hfi.here hfu
    obtain ⟨j, rfl⟩ : ∃ j : Nat, no = (j : Int) := ⟨no.toNat, by omega⟩
    have c18 := at_t gK gV vF (C.hand : Int) C.fs (j : Int) (by omega)
    rw [hq] at c18
    unfold fptr at c18
    dsimp only at c18
    have c5 : (frs C.fs)[q * 6 + 5]? = some f.bv := frs_cell hf (by omega)
    have c28 := dwr_t gV mD vd n (k + i) S j f.bv f.s hd (by omega) (by omega) (by omega)
    have hdr : L.drop i = (j : Int) :: L.drop (i + 1) := by rw [List.drop_eq_getElem_cons hlt]; congr 1; exact (List.getElem?_eq_some_iff.1 hno).2
    rw [hdr] at hr2
    have hr3 : r = if (S.vw.wr j f.s).2 = 0 then syncL (L.drop (i + 1)) (setF C.vw q (some ⟨f.no, f.pins, false, f.used, f.s⟩)) (S.vw.wr j f.s).1 else (C.vw, (S.vw.wr j f.s).1, (S.vw.wr j f.s).2) := by
      rw [hr2]
      show (match C.vw.at (j : Int) with | some i => _ | none => _) = _
      rw [hat]
      dsimp only
      rw [hvf]
      rfl
    obtain ⟨D1, hD1⟩ : ∃ D1, D1 = (S.vw.wr j f.s).1 := ⟨_, rfl⟩
    obtain ⟨er, her⟩ : ∃ er, er = (S.vw.wr j f.s).2 := ⟨_, rfl⟩
    rw [← hD1, ← her] at c28 hr3
    have hv28 : ∀ v Γ', RD gV mD vd n (k + i + 1) (.int .i64 er) D1 v Γ' → v = .int .i64 er ∧ ∃ S', Γ' = dvA gV mD vd S' ∧ (S'.vw = D1 ∧ DInv n (k + i + 1) S') := fun v Γ' ⟨S', h1, h2, h3, h4⟩ => ⟨h1, S', h4, h2, h3⟩
    by_cases he : er = 0
    · rw [if_pos he] at hr3
      obtain ⟨f', hf'⟩ : ∃ f', f' = { f with dirty := false } := ⟨_, rfl⟩
      have hs := frs_1 (f' := f') (o := 1) (u := .bool false) hf (by omega) (by rw [hf']; rfl)
      have hfi' : FInv n p C.rs f' := by rw [hf']; exact ⟨hfi.one, hfi.here, (fun hx => by rw [show ({ f with dirty := false } : Frm).full = f.full from rfl, hfu] at hx; cases hx), hfi.pin0, hfi.pin1⟩
      have hsv := set_vw (C := C) (i := q) (f := f') (g := ⟨f.no, f.pins, false, f.used, f.s⟩) (by rw [hf']; exact hfu) (by rw [hf']) C.rs
      rw [← hsv] at hr3
      have hal' : ∀ no ∈ L, HasF no (C.fs.set q f') := fun no hno => (hal no hno).set hf (by rw [hf']) (by rw [hf'])
      repeat' (first
       | refine WPl.nil ?_ | refine WPq.then ?_ | refine WPq.thenR ?_ | refine WPq.thenE ?_ | refine WPq.blockN ?_ | refine WPq.blockR ?_ | refine WPq.blockE ?_ | refine WPq.blockO rfl ?_ | refine WPc.seq ?_ | refine WPc.block ?_ | refine WPc.ret ?_ | refine WPc.exit ?_ | refine WPc.skip ?_ | refine WPc.region ?_
       | (refine isReg 7 ?_; refine WPc.drA [([11, 12, 13, 14], [23, 24, 25, 26, 27]), ([0, 11, 12, 13, 14], [19, 23, 24, 25, 26, 27]), ([0, 1, 11, 12, 13, 14], [19, 20, 23, 24, 25, 26, 27]), ([0, 1, 2, 11, 12, 13, 14], [19, 20, 21, 23, 24, 25, 26, 27]), ([11, 12, 13, 14], [19, 20, 21, 22, 24, 25, 26, 27]), ([11, 12, 13, 14], [19, 20, 21, 22, 23]), ([5, 11, 12, 13, 14], [19, 20, 21, 22, 23, 24]), ([5, 6, 11, 12, 13, 14], [19, 20, 21, 22, 23, 24, 25]), ([5, 6, 7, 11, 12, 13, 14], [19, 20, 21, 22, 23, 24, 25, 26]), ([0, 1, 2, 3, 4, 5, 6, 7, 8, 11, 12, 13, 14], [19, 20, 21, 22, 23, 24, 25, 26, 27]), ([0, 1, 2, 3, 4, 5, 6, 7, 8, 9, 11, 12, 13, 14], [19, 20, 21, 22, 23, 24, 25, 26, 27, 28])] [(11, 9), (12, 9), (13, 9), (14, 9), (11, 0), (11, 1), (11, 2), (11, 3), (11, 4), (11, 5), (11, 6), (11, 7), (11, 8), (12, 0), (12, 1), (12, 2), (12, 3), (12, 4), (12, 5), (12, 6), (12, 7), (12, 8), (13, 0), (13, 1), (13, 2), (13, 3), (13, 4), (13, 5), (13, 6), (13, 7), (13, 8), (14, 0), (14, 1), (14, 2), (14, 3), (14, 4), (14, 5), (14, 6), (14, 7), (14, 8)] (Γx := [bx gV 79 (dvc S.fu vd mD S.cn), rowN 81 256 vd S.ls.length (secs S.ls), mp secM mD S.es, bag S.es]) (hox := ownsV) ?_; dsimp only [prev0, List.length_nil, List.length_cons])
       | (refine gAny ?_; first | (refine gD 14 ?_; refine RGl.rdX (fun e hk => by (try dsimp only [bndR, ensR, oksR, fcutR, List.append_nil, List.nil_append, List.cons_append, List.append_assoc] at hk ⊢); exact ReadR.indexE1 (i := i) rfl rfl hasA hlt) ?_) | (refine gD 15 ?_; refine RGl.rdX (fun e hk => by (try dsimp only [bndR, ensR, oksR, fcutR, List.append_nil, List.nil_append, List.cons_append, List.append_assoc] at hk ⊢); exact ReadR.loadE rfl hasA hnoV) ?_) | (refine gD 26 ?_; refine RGl.rdX (fun e hk => by (try dsimp only [bndR, ensR, oksR, fcutR, List.append_nil, List.nil_append, List.cons_append, List.append_assoc] at hk ⊢); exact ReadR.fieldE rfl hasA (by omega)) ?_) | (refine gD 27 ?_; refine RGl.rdX (fun e hk => by (try dsimp only [bndR, ensR, oksR, fcutR, List.append_nil, List.nil_append, List.cons_append, List.append_assoc] at hk ⊢); exact ReadR.loadE rfl hasA c5) ?_) | (refine gOp ?_; (refine gC 28 ?_; refine RGl.relG (.int .i64 er) (fun S' => dvA gV mD vd S') (fun S' => S'.vw = D1 ∧ DInv n (k + i + 1) S') hv28 (fun e hk => by (try dsimp only [bndR, ensR, oksR, fcutR, List.append_nil, List.nil_append, List.cons_append, List.append_assoc] at hk ⊢); exact OpT.callM c28 evsA takesA (Provs.cons (Prov.rd (HasS.vault memA hmem)) Provs.nil) (fpVaultM memA hmem) (by kernel_rfl)) ?_)) | (refine gD 30 ?_; refine RGl.rdX (fun e hk => by (try dsimp only [bndR, ensR, oksR, fcutR, List.append_nil, List.nil_append, List.cons_append, List.append_assoc] at hk ⊢); exact ReadR.binE rfl rfl BinR.neq (congrArg Value.bool (show (!decide _) = false by rw [decide_eq_true he]; rfl))) ?_) | (refine gD 34 ?_; refine RGl.rdX (fun e hk => by (try dsimp only [bndR, ensR, oksR, fcutR, List.append_nil, List.nil_append, List.cons_append, List.append_assoc] at hk ⊢); exact ReadR.fieldE rfl hasA (by omega)) ?_) | (refine gOp ?_; first | refine RGl.rdA ?_ | refine RGl.rdX (fun e hk => by (try dsimp only [bndR, ensR, oksR, fcutR, List.append_nil, List.nil_append, List.cons_append, List.append_assoc] at hk ⊢); exact readB) ?_) | (refine RGl.fin (fun e hk => ?_); (try dsimp only [bndA, ensAR, oksA, List.append_nil, List.nil_append, List.cons_append, List.append_assoc] at hk ⊢); (repeat (obtain ⟨hk1, hk⟩ := hk))) | fail)
       | (refine isCond ?_; first | refine WPc.cT ?_ | refine WPc.cF ?_ | (refine WPc.cQ (fun hc => ?_) (fun hc => ?_) <;> try first | exact prA | (exfalso; first | omega)))
       | (refine isD 14 ?_; refine WPl.rdX (ReadR.indexE1 (i := i) rfl rfl hasA hlt) ?_)
       | (refine isD 15 ?_; refine WPl.rdX (ReadR.loadE rfl hasA hnoV) ?_)
       | (refine isC 18 ?_; refine WPl.cV c18 ?_ (hΔ := provsW))
       | (refine isD 30 ?_; refine WPl.rdX (ReadR.binE rfl rfl BinR.neq (congrArg Value.bool (show (!decide _) = false by rw [decide_eq_true he]; rfl))) ?_)
       | (refine isD 34 ?_; refine WPl.rdX (ReadR.fieldE rfl hasA (by omega)) ?_)
       | (show WPl _ _ _ _ _ _ _ (⟨_, .store _ (.tmp 34) _, _, _, _, _⟩ :: _) _; refine WPl.stEN (i := q * 6 + 1) (m := C.fs.length) (xs := frs C.fs) (by omega) ?_; rw [hs])
       | (refine isOp ?_; first | refine WPl.rd ?_ | refine WPl.sk ?_ | refine WPl.rdB ?_)
       | (refine isSt ?_; first | refine WPl.st1 ?_ | refine WPl.stA ?_ | refine WPl.stEB ?_ | refine WPl.stRB ?_)
       | (show WPl _ _ _ _ _ _ _ (⟨_, .indexAddr _ _ _, _, _, _, _⟩ :: _) _; refine WPl.rdX (ReadR.indexE rfl rfl hasA (by first | assumption | omega)) ?_)
       | (show WPl _ _ _ _ _ _ _ (⟨_, .fieldAddr _ _ _, _, _, _, _⟩ :: _) _; refine WPl.rdX (ReadR.fieldE rfl hasA (by first | assumption | omega)) ?_)
       | (show WPl _ _ _ _ _ _ _ (⟨_, .load _ _, _, _, _, _⟩ :: _) _; first | refine WPl.rdX (ReadR.loadE rfl hasA (by assumption)) ?_ | refine WPl.rdX (ReadR.loadES (by assumption) (by first | assumption | omega) rfl hasA) ?_)
       | (show WPl _ _ _ _ _ _ _ (⟨_, .slice _ _ _ _ _, _, _, _, _⟩ :: _) _; first | refine WPl.rdX (ReadR.sliceH rfl rfl hasA (by omega)) ?_ | refine WPl.rdX (ReadR.sliceL rfl rfl hasA (by omega)) ?_ | refine WPl.rdX (ReadR.sliceLH rfl rfl rfl hasA (by omega) (by omega)) ?_)
       | (refine WPl.spQ (fun hc => ?_) (fun hc => ?_) <;> try first | exact prA | (exfalso; first | omega))
       | fail)
      have hA : (fun S' => S'.vw = D1 ∧ DInv n (k + i + 1) S') (pickG (fun S' => dvA gV mD vd S') (fun S' => S'.vw = D1 ∧ DInv n (k + i + 1) S') (e 9).2) := by assumption
      obtain ⟨S', hS'⟩ : ∃ S', S' = (pickG (fun S' => dvA gV mD vd S') (fun S' => S'.vw = D1 ∧ DInv n (k + i + 1) S') (e 9).2) := ⟨_, rfl⟩
      rw [← hS'] at hA
      obtain ⟨hA1, hA2⟩ := hA
      dsimp only [Nat.reduceAdd]
      rw [← hS', show C.fs.length = (C.fs.set q f').length by rw [List.length_set]]
      exact WPq.rnd (i + 1, ⟨C.fs.set q f', C.hand, C.rs⟩, S') ⟨hlt, h.set hfi' h.hand, hA2, by rw [hr3, hA1], hal'⟩ (by dsimp only; omega)
    · rw [if_neg he] at hr3
      rw [hr3]
      repeat' (first
       | refine WPl.nil ?_ | refine WPq.then ?_ | refine WPq.thenR ?_ | refine WPq.thenE ?_ | refine WPq.blockN ?_ | refine WPq.blockR ?_ | refine WPq.blockE ?_ | refine WPq.blockO rfl ?_ | refine WPc.seq ?_ | refine WPc.block ?_ | refine WPc.ret ?_ | refine WPc.exit ?_ | refine WPc.skip ?_ | refine WPc.region ?_
       | (refine isReg 7 ?_; refine WPc.drA [([11, 12, 13, 14], [23, 24, 25, 26, 27]), ([0, 11, 12, 13, 14], [19, 23, 24, 25, 26, 27]), ([0, 1, 11, 12, 13, 14], [19, 20, 23, 24, 25, 26, 27]), ([0, 1, 2, 11, 12, 13, 14], [19, 20, 21, 23, 24, 25, 26, 27]), ([11, 12, 13, 14], [19, 20, 21, 22, 24, 25, 26, 27]), ([11, 12, 13, 14], [19, 20, 21, 22, 23]), ([5, 11, 12, 13, 14], [19, 20, 21, 22, 23, 24]), ([5, 6, 11, 12, 13, 14], [19, 20, 21, 22, 23, 24, 25]), ([5, 6, 7, 11, 12, 13, 14], [19, 20, 21, 22, 23, 24, 25, 26]), ([0, 1, 2, 3, 4, 5, 6, 7, 8, 11, 12, 13, 14], [19, 20, 21, 22, 23, 24, 25, 26, 27]), ([0, 1, 2, 3, 4, 5, 6, 7, 8, 9, 11, 12, 13, 14], [19, 20, 21, 22, 23, 24, 25, 26, 27, 28])] [(11, 9), (12, 9), (13, 9), (14, 9), (11, 0), (11, 1), (11, 2), (11, 3), (11, 4), (11, 5), (11, 6), (11, 7), (11, 8), (12, 0), (12, 1), (12, 2), (12, 3), (12, 4), (12, 5), (12, 6), (12, 7), (12, 8), (13, 0), (13, 1), (13, 2), (13, 3), (13, 4), (13, 5), (13, 6), (13, 7), (13, 8), (14, 0), (14, 1), (14, 2), (14, 3), (14, 4), (14, 5), (14, 6), (14, 7), (14, 8)] (Γx := [bx gV 79 (dvc S.fu vd mD S.cn), rowN 81 256 vd S.ls.length (secs S.ls), mp secM mD S.es, bag S.es]) (hox := ownsV) ?_; dsimp only [prev0, List.length_nil, List.length_cons])
       | (refine gAny ?_; first | (refine gD 14 ?_; refine RGl.rdX (fun e hk => by (try dsimp only [bndR, ensR, oksR, fcutR, List.append_nil, List.nil_append, List.cons_append, List.append_assoc] at hk ⊢); exact ReadR.indexE1 (i := i) rfl rfl hasA hlt) ?_) | (refine gD 15 ?_; refine RGl.rdX (fun e hk => by (try dsimp only [bndR, ensR, oksR, fcutR, List.append_nil, List.nil_append, List.cons_append, List.append_assoc] at hk ⊢); exact ReadR.loadE rfl hasA hnoV) ?_) | (refine gD 26 ?_; refine RGl.rdX (fun e hk => by (try dsimp only [bndR, ensR, oksR, fcutR, List.append_nil, List.nil_append, List.cons_append, List.append_assoc] at hk ⊢); exact ReadR.fieldE rfl hasA (by omega)) ?_) | (refine gD 27 ?_; refine RGl.rdX (fun e hk => by (try dsimp only [bndR, ensR, oksR, fcutR, List.append_nil, List.nil_append, List.cons_append, List.append_assoc] at hk ⊢); exact ReadR.loadE rfl hasA c5) ?_) | (refine gOp ?_; (refine gC 28 ?_; refine RGl.relG (.int .i64 er) (fun S' => dvA gV mD vd S') (fun S' => S'.vw = D1 ∧ DInv n (k + i + 1) S') hv28 (fun e hk => by (try dsimp only [bndR, ensR, oksR, fcutR, List.append_nil, List.nil_append, List.cons_append, List.append_assoc] at hk ⊢); exact OpT.callM c28 evsA takesA (Provs.cons (Prov.rd (HasS.vault memA hmem)) Provs.nil) (fpVaultM memA hmem) (by kernel_rfl)) ?_)) | (refine gD 30 ?_; refine RGl.rdX (fun e hk => by (try dsimp only [bndR, ensR, oksR, fcutR, List.append_nil, List.nil_append, List.cons_append, List.append_assoc] at hk ⊢); exact ReadR.binE rfl rfl BinR.neq (congrArg Value.bool (show (!decide _) = true by rw [decide_eq_false he]; rfl))) ?_) | (refine gOp ?_; first | refine RGl.rdA ?_ | refine RGl.rdX (fun e hk => by (try dsimp only [bndR, ensR, oksR, fcutR, List.append_nil, List.nil_append, List.cons_append, List.append_assoc] at hk ⊢); exact readB) ?_) | (refine RGl.fin (fun e hk => ?_); (try dsimp only [bndA, ensAR, oksA, List.append_nil, List.nil_append, List.cons_append, List.append_assoc] at hk ⊢); (repeat (obtain ⟨hk1, hk⟩ := hk))) | fail)
       | (refine isCond ?_; first | refine WPc.cT ?_ | refine WPc.cF ?_ | (refine WPc.cQ (fun hc => ?_) (fun hc => ?_) <;> try first | exact prA | (exfalso; first | omega)))
       | (refine isD 14 ?_; refine WPl.rdX (ReadR.indexE1 (i := i) rfl rfl hasA hlt) ?_)
       | (refine isD 15 ?_; refine WPl.rdX (ReadR.loadE rfl hasA hnoV) ?_)
       | (refine isC 18 ?_; refine WPl.cV c18 ?_ (hΔ := provsW))
       | (refine isD 30 ?_; refine WPl.rdX (ReadR.binE rfl rfl BinR.neq (congrArg Value.bool (show (!decide _) = true by rw [decide_eq_false he]; rfl))) ?_)
       | (refine isOp ?_; first | refine WPl.rd ?_ | refine WPl.sk ?_ | refine WPl.rdB ?_)
       | (refine isSt ?_; first | refine WPl.st1 ?_ | refine WPl.stA ?_ | refine WPl.stEB ?_ | refine WPl.stRB ?_)
       | (show WPl _ _ _ _ _ _ _ (⟨_, .indexAddr _ _ _, _, _, _, _⟩ :: _) _; refine WPl.rdX (ReadR.indexE rfl rfl hasA (by first | assumption | omega)) ?_)
       | (show WPl _ _ _ _ _ _ _ (⟨_, .fieldAddr _ _ _, _, _, _, _⟩ :: _) _; refine WPl.rdX (ReadR.fieldE rfl hasA (by first | assumption | omega)) ?_)
       | (show WPl _ _ _ _ _ _ _ (⟨_, .load _ _, _, _, _, _⟩ :: _) _; first | refine WPl.rdX (ReadR.loadE rfl hasA (by assumption)) ?_ | refine WPl.rdX (ReadR.loadES (by assumption) (by first | assumption | omega) rfl hasA) ?_)
       | (show WPl _ _ _ _ _ _ _ (⟨_, .slice _ _ _ _ _, _, _, _, _⟩ :: _) _; first | refine WPl.rdX (ReadR.sliceH rfl rfl hasA (by omega)) ?_ | refine WPl.rdX (ReadR.sliceL rfl rfl hasA (by omega)) ?_ | refine WPl.rdX (ReadR.sliceLH rfl rfl rfl hasA (by omega) (by omega)) ?_)
       | (refine WPl.spQ (fun hc => ?_) (fun hc => ?_) <;> try first | exact prA | (exfalso; first | omega))
       | fail)
      have hA : (fun S' => S'.vw = D1 ∧ DInv n (k + i + 1) S') (pickG (fun S' => dvA gV mD vd S') (fun S' => S'.vw = D1 ∧ DInv n (k + i + 1) S') (e 9).2) := by assumption
      obtain ⟨S', hS'⟩ : ∃ S', S' = (pickG (fun S' => dvA gV mD vd S') (fun S' => S'.vw = D1 ∧ DInv n (k + i + 1) S') (e 9).2) := ⟨_, rfl⟩
      rw [← hS'] at hA
      obtain ⟨hA1, hA2⟩ := hA
      dsimp only [Nat.reduceAdd]
      rw [← hS']
      exact WPq.dX (ho := ownsW) (vs := [.int .i64 er]) (cdA gK gV vF C mD vd S') ⟨C, S', rfl, rfl, hA1, h, hA2.mono (by omega), rfl⟩
  · have hil : L.drop i = [] := List.drop_of_length_le (by omega)
    rw [hil] at hr2
    have c40 := dfl_t gV mD vd n (k + i) S hd (by omega) (by omega)
    rw [hr2]
    repeat' (first
     | refine WPl.nil ?_ | refine WPq.then ?_ | refine WPq.thenR ?_ | refine WPq.thenE ?_ | refine WPq.blockN ?_ | refine WPq.blockR ?_ | refine WPq.blockE ?_ | refine WPq.blockO rfl ?_ | refine WPc.seq ?_ | refine WPc.block ?_ | refine WPc.ret ?_ | refine WPc.exit ?_ | refine WPc.skip ?_ | refine WPc.region ?_
     | (refine isCond ?_; first | refine WPc.cT ?_ | refine WPc.cF ?_ | (refine WPc.cQ (fun hc => ?_) (fun hc => ?_) <;> try first | exact prA | (exfalso; first | omega)))
     | (refine isC 40 ?_; refine WPl.cXs (c40) fun v Γ1 hR => ?_; (obtain ⟨S1, rfl, hS1, hD1, rfl⟩ := hR); (try dsimp only [putF, List.cons_append, List.nil_append]))
     | (refine isOp ?_; first | refine WPl.rd ?_ | refine WPl.sk ?_ | refine WPl.rdB ?_)
     | (refine isSt ?_; first | refine WPl.st1 ?_ | refine WPl.stA ?_ | refine WPl.stEB ?_ | refine WPl.stRB ?_)
     | (show WPl _ _ _ _ _ _ _ (⟨_, .indexAddr _ _ _, _, _, _, _⟩ :: _) _; refine WPl.rdX (ReadR.indexE rfl rfl hasA (by first | assumption | omega)) ?_)
     | (show WPl _ _ _ _ _ _ _ (⟨_, .fieldAddr _ _ _, _, _, _, _⟩ :: _) _; refine WPl.rdX (ReadR.fieldE rfl hasA (by first | assumption | omega)) ?_)
     | (show WPl _ _ _ _ _ _ _ (⟨_, .load _ _, _, _, _, _⟩ :: _) _; first | refine WPl.rdX (ReadR.loadE rfl hasA (by assumption)) ?_ | refine WPl.rdX (ReadR.loadES (by assumption) (by first | assumption | omega) rfl hasA) ?_)
     | (show WPl _ _ _ _ _ _ _ (⟨_, .slice _ _ _ _ _, _, _, _, _⟩ :: _) _; first | refine WPl.rdX (ReadR.sliceH rfl rfl hasA (by omega)) ?_ | refine WPl.rdX (ReadR.sliceL rfl rfl hasA (by omega)) ?_ | refine WPl.rdX (ReadR.sliceLH rfl rfl rfl hasA (by omega) (by omega)) ?_)
     | (refine WPl.spQ (fun hc => ?_) (fun hc => ?_) <;> try first | exact prA | (exfalso; first | omega))
     | fail)
    exact WPq.dX (ho := ownsW) (vs := [.int .i64 S.vw.flush.2]) (cdA gK gV vF C mD vd S1) ⟨C, S1, rfl, rfl, hS1, h, hD1.mono (by omega), rfl⟩
end
end Go.Proofs.Ytepmikgjnmjheaa
/- Layer 5 (cache): what a cache that does not fail keeps: plain. -/
namespace Go.Proofs.Ytepmikgjnmjheaa
set_option linter.unusedSimpArgs false
set_option linter.unusedVariables false
/-- A frame without its mark. -/
structure Fq where
  no : Int
  pins : Int
  dirty : Bool
  s : Sec
def stF (o : Option Fp) : Option Fq := o.map fun f => ⟨f.no, f.pins, f.dirty, f.s⟩
def Cv.abs (C : Cv) : List (Option Fq) := C.fs.map stF
def qpins (o : Option Fq) : Int := match o with | some f => f.pins | none => 0
theorem opins_st {o : Option Fp} : opins o = qpins (stF o) := by cases o <;> rfl
theorem abs_get {C : Cv} {i : Nat} {o : Option Fp} (h : C.fs[i]? = some o) : C.abs[i]? = some (stF o) := by unfold Cv.abs; rw [List.getElem?_map, h]; rfl
theorem abs_of {C : Cv} {i : Nat} {f : Fq} (h : C.abs[i]? = some (some f)) : ∃ g, C.fs[i]? = some (some g) ∧ f = ⟨g.no, g.pins, g.dirty, g.s⟩ := by
  unfold Cv.abs at h
  rw [List.getElem?_map] at h
  cases hi : C.fs[i]? with
  | none => rw [hi] at h; cases h
  | some o =>
    rw [hi] at h
    cases o with
    | none => cases h
    | some g =>
      refine ⟨g, rfl, ?_⟩
      have : stF (some g) = some f := Option.some.inj h
      exact (Option.some.inj this).symm
theorem at_some {C : Cv} {no : Int} {i : Nat} (h : C.at no = some i) : ∃ g, C.fs[i]? = some (some g) ∧ g.no = no := by
  obtain ⟨o, ho, hp⟩ := findIdx_spec h
  cases o with
  | none => cases hp
  | some g => exact ⟨g, ho, by simpa using hp⟩
theorem at_none {C : Cv} {no : Int} (h : C.at no = none) : ∀ (i : Nat) (f : Fq), C.abs[i]? = some (some f) → f.no ≠ no := by
  intro i f hf
  obtain ⟨g, hg, rfl⟩ := abs_of hf
  unfold Cv.at at h
  rw [List.findIdx?_eq_none_iff] at h
  have := h _ (List.mem_of_getElem? hg)
  simpa using this
/-! ### The hand -/
theorem set_same {α : Type} {l : List α} {i : Nat} {a : α} (h : l[i]? = some a) : l.set i a = l := by
  apply List.ext_getElem?
  intro j
  rw [List.getElem?_set]
  split
  · rename_i hij
    subst hij
    rw [h, if_pos (List.getElem?_eq_some_iff.1 h).1]
  · rfl
theorem vicP_same {m : Nat} : ∀ {t : Nat} {fs : List (Option Fp)} {k : Nat}, (vicP m t fs k).1.map stF = fs.map stF
  | 0, _, _ => rfl
  | t + 1, fs, k => by
    unfold vicP
    cases hk : fs[k]? with
    | none => rfl
    | some o =>
      dsimp only
      split
      · exact vicP_same
      · split
        · rw [vicP_same, List.map_set, show stF (ounuse o) = stF o by cases o <;> rfl]
          exact set_same (by rw [List.getElem?_map, hk]; rfl)
        · rfl
theorem vicP_hit {m : Nat} : ∀ {t : Nat} {fs : List (Option Fp)} {k i h : Nat}, (vicP m t fs k).2 = some (i, h) → ∃ o, (vicP m t fs k).1[i]? = some o ∧ ¬ 0 < opins o ∧ h = (i + 1) % m
  | 0, _, _, _, _, hx => by cases hx
  | t + 1, fs, k, i, h, hx => by
    unfold vicP at hx ⊢
    cases hk : fs[k]? with
    | none => rw [hk] at hx; cases hx
    | some o =>
      rw [hk] at hx
      dsimp only at hx ⊢
      by_cases hp : 0 < opins o
      · rw [if_pos hp] at hx ⊢
        exact vicP_hit hx
      · rw [if_neg hp] at hx ⊢
        by_cases hu : oused o = true
        · rw [if_pos hu] at hx ⊢
          exact vicP_hit hx
        · rw [if_neg hu] at hx ⊢
          cases hx
          exact ⟨o, hk, hp, rfl⟩
def dst (m k p : Nat) : Nat := if k ≤ p then p - k else p + m - k
theorem nxt {m k : Nat} (h : k < m) : (k + 1) % m = if k + 1 = m then 0 else k + 1 := by
  split
  · rename_i h1; rw [h1, Nat.mod_self]
  · rw [Nat.mod_eq_of_lt (by omega)]
theorem dst_next {m k p : Nat} (hk : k < m) (hp : p < m) (hne : k ≠ p) : dst m ((k + 1) % m) p + 1 = dst m k p := by
  rw [nxt hk]
  unfold dst
  split
  · split
    · split <;> omega
    · split <;> omega
  · split
    · split <;> omega
    · split <;> omega
theorem vicP_A {m p : Nat} {o : Option Fp} (hp : p < m) (ho : ¬ 0 < opins o) (hu : oused o = false) : ∀ {t : Nat} {fs : List (Option Fp)} {k : Nat}, fs.length = m → k < m → fs[p]? = some o → dst m k p < t → ∃ x, (vicP m t fs k).2 = some x
  | 0, _, _, _, _, _, ht => absurd ht (Nat.not_lt_zero _)
  | t + 1, fs, k, hl, hk, hf, ht => by
    obtain ⟨ok, hok⟩ : ∃ ok, fs[k]? = some ok := ⟨_, List.getElem?_eq_getElem (by omega)⟩
    unfold vicP
    rw [hok]
    dsimp only
    by_cases hkp : k = p
    · subst hkp
      rw [hf] at hok
      cases hok
      rw [if_neg ho, if_neg (by rw [hu]; simp)]
      exact ⟨_, rfl⟩
    have hd := dst_next hk hp hkp
    have hk' : (k + 1) % m < m := Nat.mod_lt _ (by omega)
    by_cases h1 : 0 < opins ok
    · rw [if_pos h1]
      exact vicP_A hp ho hu hl hk' hf (by omega)
    · rw [if_neg h1]
      by_cases h2 : oused ok = true
      · rw [if_pos h2]
        exact vicP_A hp ho hu (by rw [List.length_set]; exact hl) hk' (by rw [List.getElem?_set_ne hkp]; exact hf) (by omega)
      · rw [if_neg h2]
        exact ⟨_, rfl⟩
theorem vicP_B {m p : Nat} {o : Option Fp} (hp : p < m) (ho : ¬ 0 < opins o) : ∀ {t : Nat} {fs : List (Option Fp)} {k : Nat}, fs.length = m → k < m → fs[p]? = some o → dst m k p + m < t → ∃ x, (vicP m t fs k).2 = some x
  | 0, _, _, _, _, _, ht => absurd ht (Nat.not_lt_zero _)
  | t + 1, fs, k, hl, hk, hf, ht => by
    obtain ⟨ok, hok⟩ : ∃ ok, fs[k]? = some ok := ⟨_, List.getElem?_eq_getElem (by omega)⟩
    have hk' : (k + 1) % m < m := Nat.mod_lt _ (by omega)
    unfold vicP
    rw [hok]
    dsimp only
    by_cases hkp : k = p
    · subst hkp
      rw [hf] at hok
      cases hok
      rw [if_neg ho]
      by_cases h2 : oused o = true
      · rw [if_pos h2]
        have hd : dst m ((k + 1) % m) k < t := by
          have h3 : dst m ((k + 1) % m) k < m := by
            rw [nxt hk]
            unfold dst
            split
            · split <;> omega
            · split <;> omega
          omega
        exact vicP_A (o := ounuse o) hk (by cases o <;> exact ho) (by cases o <;> rfl) (by rw [List.length_set]; exact hl) hk' (List.getElem?_set_self (by omega)) hd
      · rw [if_neg h2]
        exact ⟨_, rfl⟩
    have hd := dst_next hk hp hkp
    by_cases h1 : 0 < opins ok
    · rw [if_pos h1]
      exact vicP_B hp ho hl hk' hf (by omega)
    · rw [if_neg h1]
      by_cases h2 : oused ok = true
      · rw [if_pos h2]
        exact vicP_B hp ho (by rw [List.length_set]; exact hl) hk' (by rw [List.getElem?_set_ne hkp]; exact hf) (by omega)
      · rw [if_neg h2]
        exact ⟨_, rfl⟩
/-! ### A device that does not fail -/
def Dv.put (D : Dv) (j : Nat) (s : Sec) : Dv := { D with ws := updW D.ws j (D.ws j ++ [s]), cn := D.cn + 1 }
theorem burn_f4 {D : Dv} (h : D.fu = f4) {k : Nat} (hk : k < 4) : D.burn k = D := by
  unfold Dv.burn
  rw [h, show f4.getD k 0 = -1 by match k, hk with | 0, _ => rfl | 1, _ => rfl | 2, _ => rfl | 3, _ => rfl, burn4 hk, ← h]
theorem fails_f4 {D : Dv} (h : D.fu = f4) {k : Nat} (hk : k < 4) : D.fails k = false := by
  unfold Dv.fails
  rw [h, show f4.getD k 0 = -1 by match k, hk with | 0, _ => rfl | 1, _ => rfl | 2, _ => rfl | 3, _ => rfl]
  rfl
theorem wr_f4 {D : Dv} (h : D.fu = f4) {j : Nat} {s : Sec} : D.wr j s = (D.put j s, 0) := by
  unfold Dv.wr
  rw [fails_f4 h (by omega), burn_f4 h (by omega)]
  rfl
theorem now_put {D : Dv} {j i : Nat} {s : Sec} : (D.put j s).now i = if i = j then s else D.now i := by
  unfold Dv.now Dv.put updW
  dsimp only
  split
  · simp
  · rfl
/-- What comes to the device of a frame that is given up. -/
def outD (D : Dv) (x : Option Fq) : Dv := match x with | some f => if f.dirty then D.put f.no.toNat f.s else D | none => D
theorem outD_fu {D : Dv} {x : Option Fq} : (outD D x).fu = D.fu := by
  unfold outD
  cases x with
  | none => rfl
  | some f => dsimp only; split <;> rfl
theorem outD_ls {D : Dv} {x : Option Fq} : (outD D x).ls = D.ls := by
  unfold outD
  cases x with
  | none => rfl
  | some f => dsimp only; split <;> rfl
theorem room_spec {C : Cv} {D : Dv} (hf : D.fu = f4) (hm : 0 < C.fs.length) (hh : C.hand < C.fs.length) :
    (∃ (i : Nat) (x : Option Fq), C.abs[i]? = some x ∧ ¬ 0 < qpins x ∧ (C.room D).2.2 = (some i, 0) ∧ (C.room D).1.abs = C.abs.set i none ∧ (C.room D).2.1 = outD D x) ∨
    ((∀ (i : Nat) (x : Option Fq), C.abs[i]? = some x → 0 < qpins x) ∧ (C.room D).2.2 = (none, 11) ∧ (C.room D).1.abs = C.abs ∧ (C.room D).2.1 = D) := by
  unfold Cv.room
  cases he : C.empty with
  | some i =>
    obtain ⟨o, ho, hn⟩ := findIdx_spec he
    have hon : o = none := by simpa using hn
    subst hon
    have ha : C.abs[i]? = some none := abs_get ho
    exact .inl ⟨i, none, ha, by show ¬ (0 : Int) < 0; omega, rfl, (set_same ha).symm, rfl⟩
  | none =>
    have hfull : ∀ (i : Nat) (x : Option Fq), C.abs[i]? = some x → ∃ f, x = some f := by
      intro i x hx
      unfold Cv.abs at hx
      rw [List.getElem?_map] at hx
      cases hi : C.fs[i]? with
      | none => rw [hi] at hx; cases hx
      | some o =>
        rw [hi] at hx
        unfold Cv.empty at he
        rw [List.findIdx?_eq_none_iff] at he
        have := he o (List.mem_of_getElem? hi)
        cases o with
        | none => cases this
        | some g => exact ⟨⟨g.no, g.pins, g.dirty, g.s⟩, (Option.some.inj hx).symm⟩
    have hsame : C.vic.1.map stF = C.abs := vicP_same
    cases hv : C.vic.2 with
    | none =>
      refine .inr ⟨fun i x hx => ?_, rfl, hsame, rfl⟩
      refine Decidable.byContradiction fun hp => ?_
      have hil : i < C.fs.length := by have := (List.getElem?_eq_some_iff.1 hx).1; unfold Cv.abs at this; simpa using this
      obtain ⟨o, ho⟩ : ∃ o, C.fs[i]? = some o := ⟨_, List.getElem?_eq_getElem hil⟩
      have hxo : x = stF o := by rw [abs_get ho] at hx; exact (Option.some.inj hx).symm
      have := vicP_B (m := C.fs.length) (t := 2 * C.fs.length) hil (by rw [opins_st, ← hxo]; exact hp) rfl hh ho (by unfold dst; split <;> omega)
      obtain ⟨y, hy⟩ := this
      have h2 : C.vic.2 = some y := hy
      rw [hv] at h2
      cases h2
    | some y =>
      obtain ⟨i, h⟩ := y
      obtain ⟨o, ho, hop, _⟩ := vicP_hit hv
      have ho' : C.vic.1[i]? = some o := ho
      have hx : C.abs[i]? = some (stF o) := by rw [← hsame, List.getElem?_map, ho']; rfl
      obtain ⟨f, hfo⟩ := hfull i _ hx
      cases o with
      | none => cases hfo
      | some g =>
        refine .inl ⟨i, stF (some g), hx, by rw [← opins_st]; exact hop, ?_⟩
        have hset : (C.vic.1.set i none).map stF = C.abs.set i none := by rw [List.map_set, hsame]; rfl
        have hgu : giveUp C.vic.1 i h D = (⟨C.vic.1.set i none, h⟩, outD D (stF (some g)), some i, 0) := by
          unfold giveUp
          rw [ho']
          dsimp only
          rw [wr_f4 hf]
          show (if g.dirty = true then _ else _) = ((⟨_, h⟩ : Cv), (if g.dirty = true then _ else _), _, _)
          split
          · rfl
          · rfl
        show (giveUp C.vic.1 i h D).2.2 = _ ∧ (giveUp C.vic.1 i h D).1.abs = _ ∧ (giveUp C.vic.1 i h D).2.1 = _
        rw [hgu]
        exact ⟨rfl, hset, rfl⟩
/-! ### What is kept -/
structure KI (A : List (Option Fq)) (D : Dv) (has : Nat → Sec) (n : Nat) : Prop where
  fu : D.fu = f4
  nl : D.ls.length = n
  rng : ∀ (i : Nat) (f : Fq), A[i]? = some (some f) → ∃ j : Nat, j < n ∧ f.no = (j : Int) ∧ f.s = has j ∧ (f.dirty = false → D.now j = has j)
  uniq : ∀ (i i' : Nat) (f f' : Fq), A[i]? = some (some f) → A[i']? = some (some f') → f.no = f'.no → i = i'
  cold : ∀ j : Nat, j < n → (∀ (i : Nat) (f : Fq), A[i]? = some (some f) → f.no ≠ (j : Int)) → D.now j = has j
theorem set_get {α : Type} {A : List α} {i k : Nat} {a b : α} (h : (A.set i a)[k]? = some b) : (k = i ∧ b = a) ∨ (k ≠ i ∧ A[k]? = some b) := by
  rw [List.getElem?_set] at h
  split at h
  · rename_i hik
    split at h
    · exact .inl ⟨hik.symm, (Option.some.inj h).symm⟩
    · cases h
  · rename_i hik
    exact .inr ⟨fun e => hik e.symm, h⟩
theorem KI.out {A : List (Option Fq)} {D : Dv} {has : Nat → Sec} {n i : Nat} {x : Option Fq} (h : KI A D has n) (hx : A[i]? = some x) : KI (A.set i none) (outD D x) has n := by
  have hnow : ∀ j : Nat, (∀ f, x = some f → f.dirty = true → f.no ≠ (j : Int)) → (outD D x).now j = D.now j := by
    intro j hj
    unfold outD
    cases x with
    | none => rfl
    | some f =>
      dsimp only
      split
      · rename_i hd
        have h1 := hj f rfl hd
        obtain ⟨j', _, h2, _⟩ := h.rng i f hx
        rw [now_put, if_neg (by rw [h2] at h1 ⊢; omega)]
      · rfl
  refine ⟨by rw [outD_fu]; exact h.fu, by rw [outD_ls]; exact h.nl, fun k f hk => ?_, fun k k' f f' hk hk' hn => ?_, fun j hj hc => ?_⟩
  · rcases set_get hk with ⟨_, h1⟩ | ⟨hne, hk⟩
    · cases h1
    · obtain ⟨j, h1, h2, h3, h4⟩ := h.rng k f hk
      refine ⟨j, h1, h2, h3, fun hd => ?_⟩
      rw [hnow j fun g hg _ hgn => ?_]
      · exact h4 hd
      · subst hg
        exact hne (h.uniq k i f g hk hx (by rw [h2, hgn]))
  · rcases set_get hk with ⟨_, h1⟩ | ⟨_, hk⟩
    · cases h1
    · rcases set_get hk' with ⟨_, h1⟩ | ⟨_, hk'⟩
      · cases h1
      · exact h.uniq k k' f f' hk hk' hn
  · by_cases hxj : ∃ f, x = some f ∧ f.no = (j : Int)
    · obtain ⟨f, rfl, hfn⟩ := hxj
      obtain ⟨j', h1, h2, h3, h4⟩ := h.rng i f hx
      have hjj : j' = j := by omega
      subst hjj
      unfold outD
      dsimp only
      split
      · rw [now_put, if_pos (by rw [h2]; omega), h3]
      · rename_i hd
        exact h4 (by simpa using hd)
    · rw [hnow j fun g hg _ hgn => hxj ⟨g, hg, hgn⟩]
      refine h.cold j hj fun k f hk hkn => ?_
      by_cases hki : k = i
      · subst hki
        rw [hx] at hk
        exact hxj ⟨f, Option.some.inj hk, hkn⟩
      · exact hc k f (by rw [List.getElem?_set_ne (fun e => hki e.symm)]; exact hk) hkn
theorem KI.new {A : List (Option Fq)} {D : Dv} {has : Nat → Sec} {n i j : Nat} (h : KI A D has n) (hi : A[i]? = some none) (hj : j < n) (hc : ∀ (k : Nat) (f : Fq), A[k]? = some (some f) → f.no ≠ (j : Int)) (d : Bool) (s : Sec) (hd : d = false → s = has j) : KI (A.set i (some ⟨(j : Int), 0, d, s⟩)) D (fun k => if k = j then s else has k) n := by
  have hne : ∀ (k : Nat) (f : Fq) (j' : Nat), A[k]? = some (some f) → f.no = (j' : Int) → j' ≠ j := by
    intro k f j' hk hn e
    subst e
    exact hc k f hk hn
  refine ⟨h.fu, h.nl, fun k f hk => ?_, fun k k' f f' hk hk' hn => ?_, fun j' hj' hc' => ?_⟩
  · rcases set_get hk with ⟨rfl, h1⟩ | ⟨_, hk⟩
    · cases h1
      refine ⟨j, hj, rfl, (if_pos rfl).symm, fun hdd => ?_⟩
      dsimp only at hdd
      rw [if_pos rfl, hd hdd]
      exact h.cold j hj hc
    · obtain ⟨j', h1, h2, h3, h4⟩ := h.rng k f hk
      exact ⟨j', h1, h2, by rw [if_neg (hne k f j' hk h2)]; exact h3, by rw [if_neg (hne k f j' hk h2)]; exact h4⟩
  · rcases set_get hk with ⟨hki, h1⟩ | ⟨_, hk2⟩
    · cases h1
      rcases set_get hk' with ⟨hki', _⟩ | ⟨_, hk2'⟩
      · rw [hki, hki']
      · exact absurd hn.symm (hc k' f' hk2')
    · rcases set_get hk' with ⟨_, h1⟩ | ⟨_, hk2'⟩
      · cases h1
        exact absurd hn (hc k f hk2)
      · exact h.uniq k k' f f' hk2 hk2' hn
  · have hjj : j' ≠ j := by
      rintro rfl
      exact hc' i ⟨(j' : Int), 0, d, s⟩ (List.getElem?_set_self (List.getElem?_eq_some_iff.1 hi).1) rfl
    rw [if_neg hjj]
    refine h.cold j' hj' fun k f hk hkn => ?_
    have hki : k ≠ i := by rintro rfl; rw [hi] at hk; cases hk
    exact hc' k f (by rw [List.getElem?_set_ne (fun e => hki e.symm)]; exact hk) hkn
/-- A frame that is held, told anew: its number is as it was. -/
theorem KI.hit {A : List (Option Fq)} {D : Dv} {has : Nat → Sec} {n i j : Nat} {f : Fq} (h : KI A D has n) (hi : A[i]? = some (some f)) (hfj : f.no = (j : Int)) (p : Int) (d : Bool) (s : Sec) (hd : d = false → s = has j ∧ f.dirty = false) : KI (A.set i (some ⟨f.no, p, d, s⟩)) D (fun k => if k = j then s else has k) n := by
  obtain ⟨j0, hj, hj0, hs0, hd0⟩ := h.rng i f hi
  have hjj : j0 = j := by omega
  subst hjj
  have hne : ∀ (k : Nat) (g : Fq) (j' : Nat), k ≠ i → A[k]? = some (some g) → g.no = (j' : Int) → j' ≠ j0 := by
    intro k g j' hki hk hn e
    subst e
    exact hki (h.uniq k i g f hk hi (by rw [hn, hfj]))
  refine ⟨h.fu, h.nl, fun k g hk => ?_, fun k k' g g' hk hk' hn => ?_, fun j' hj' hc' => ?_⟩
  · rcases set_get hk with ⟨rfl, h1⟩ | ⟨hki, hk⟩
    · cases h1
      refine ⟨j0, hj, hfj, (if_pos rfl).symm, fun hdd => ?_⟩
      dsimp only at hdd
      rw [if_pos rfl, (hd hdd).1]
      exact hd0 (hd hdd).2
    · obtain ⟨j', h1, h2, h3, h4⟩ := h.rng k g hk
      exact ⟨j', h1, h2, by rw [if_neg (hne k g j' hki hk h2)]; exact h3, by rw [if_neg (hne k g j' hki hk h2)]; exact h4⟩
  · rcases set_get hk with ⟨hki, h1⟩ | ⟨hki, hk2⟩
    · cases h1
      rcases set_get hk' with ⟨hki', _⟩ | ⟨hki', hk2'⟩
      · rw [hki, hki']
      · rw [hki]
        exact h.uniq i k' f g' hi hk2' hn
    · rcases set_get hk' with ⟨hki', h1⟩ | ⟨hki', hk2'⟩
      · cases h1
        rw [hki']
        exact h.uniq k i g f hk2 hi hn
      · exact h.uniq k k' g g' hk2 hk2' hn
  · have hjj : j' ≠ j0 := by
      rintro rfl
      exact hc' i ⟨f.no, p, d, s⟩ (List.getElem?_set_self (List.getElem?_eq_some_iff.1 hi).1) hfj
    rw [if_neg hjj]
    refine h.cold j' hj' fun k g hk hkn => ?_
    by_cases hki : k = i
    · subst hki
      rw [hi] at hk
      cases hk
      exact absurd hkn (by rw [hfj]; omega)
    · exact hc' k g (by rw [List.getElem?_set_ne (fun e => hki e.symm)]; exact hk) hkn
theorem upd_same {has : Nat → Sec} {j : Nat} {s : Sec} (h : s = has j) : (fun k => if k = j then s else has k) = has := by
  funext k
  by_cases hk : k = j
  · subst hk; rw [if_pos rfl, h]
  · rw [if_neg hk]
theorem setF_abs {C : Cv} {i : Nat} {g : Fp} : (setF C i (some g)).abs = C.abs.set i (some ⟨g.no, g.pins, g.dirty, g.s⟩) := by
  unfold setF Cv.abs
  dsimp only
  rw [List.map_set]
  rfl
/-- Room was made: something is free, where nothing is held of j. -/
theorem KI.room {C : Cv} {D : Dv} {has : Nat → Sec} {n j : Nat} (h : KI C.abs D has n) (hm : 0 < C.fs.length) (hh : C.hand < C.fs.length) (hat : C.at (j : Int) = none) (hp : ∃ (i : Nat) (x : Option Fq), C.abs[i]? = some x ∧ ¬ 0 < qpins x) :
    ∃ (i : Nat) (x : Option Fq), C.abs[i]? = some x ∧ ¬ 0 < qpins x ∧ (C.room D).2.2 = (some i, 0) ∧ (C.room D).1.abs = C.abs.set i none ∧ KI (C.room D).1.abs (C.room D).2.1 has n ∧ (C.room D).1.abs[i]? = some none ∧ (∀ (k : Nat) (f : Fq), (C.room D).1.abs[k]? = some (some f) → f.no ≠ (j : Int)) := by
  rcases room_spec (C := C) (D := D) h.fu hm hh with ⟨i, x, h1, h2, h3, h4, h5⟩ | ⟨h1, _⟩
  · refine ⟨i, x, h1, h2, h3, h4, by rw [h4, h5]; exact h.out h1, by rw [h4]; exact List.getElem?_set_self (List.getElem?_eq_some_iff.1 h1).1, fun k f hk => ?_⟩
    rw [h4] at hk
    rcases set_get hk with ⟨_, e⟩ | ⟨_, hk⟩
    · cases e
    · exact at_none hat k f hk
  · obtain ⟨i, x, hx, hn⟩ := hp
    exact absurd (h1 i x hx) hn
/-- Get, where there is room. -/
theorem KI.get {C : Cv} {D : Dv} {has : Nat → Sec} {n j : Nat} (h : KI C.abs D has n) (hm : 0 < C.fs.length) (hh : C.hand < C.fs.length) (hj : j < n) (hp : C.at (j : Int) = none → ∃ (i : Nat) (x : Option Fq), C.abs[i]? = some x ∧ ¬ 0 < qpins x) :
    (C.get D j).2.2 = ((has j).b, 0) ∧ KI (C.get D j).1.abs (C.get D j).2.1 has n ∧ ((C.get D j).1.abs = C.abs ∨ ∃ (i : Nat) (x : Option Fq) (s : Sec), C.abs[i]? = some x ∧ ¬ 0 < qpins x ∧ (C.get D j).1.abs = C.abs.set i (some ⟨(j : Int), 0, false, s⟩)) ∧ ∃ (i : Nat) (f : Fq), (C.get D j).1.abs[i]? = some (some f) ∧ f.no = (j : Int) := by
  cases hat : C.at (j : Int) with
  | some i =>
    obtain ⟨g, hg, hgn⟩ := at_some hat
    have ha := abs_get hg
    obtain ⟨j', hj', hn', hs', hd'⟩ := h.rng i _ ha
    have hjj : j' = j := by have : g.no = (j' : Int) := hn'; omega
    subst hjj
    have hget : C.get D j' = (setF C i (some { g with used := true }), D, g.s.b, 0) := by
      unfold Cv.get
      rw [hat]
      dsimp only
      rw [hg]
    rw [hget]
    have habs : (setF C i (some { g with used := true })).abs = C.abs := by rw [setF_abs]; exact set_same ha
    dsimp only
    rw [habs]
    exact ⟨by rw [show g.s = has j' from hs'], h, .inl rfl, i, _, ha, hgn⟩
  | none =>
    obtain ⟨i, x, h1, h2, h3, h4, h5, h6, h7⟩ := h.room hm hh hat (hp hat)
    have hget : C.get D j = (setF (C.room D).1 i (some ⟨(j : Int), 0, false, true, (C.room D).2.1.now j⟩), (C.room D).2.1, ((C.room D).2.1.now j).b, 0) := by
      unfold Cv.get
      rw [hat]
      dsimp only
      rw [show (C.room D).2.2.1 = some i by rw [h3]]
      dsimp only
      rw [fails_f4 h5.fu (by omega), burn_f4 h5.fu (by omega)]
      rfl
    have hnow : (C.room D).2.1.now j = has j := h5.cold j hj h7
    rw [hget, hnow]
    have hk := h5.new h6 hj h7 false (has j) (fun _ => rfl)
    rw [upd_same rfl] at hk
    have habs : (setF (C.room D).1 i (some ⟨(j : Int), 0, false, true, has j⟩)).abs = (C.room D).1.abs.set i (some ⟨(j : Int), 0, false, has j⟩) := setF_abs
    dsimp only
    rw [habs]
    refine ⟨rfl, hk, .inr ⟨i, x, has j, h1, h2, by rw [h4, List.set_set]⟩, i, _, List.getElem?_set_self (List.getElem?_eq_some_iff.1 h6).1, rfl⟩
/-- Put, where there is room. -/
theorem KI.put {C : Cv} {D : Dv} {has : Nat → Sec} {n j : Nat} {s : Sec} (h : KI C.abs D has n) (hm : 0 < C.fs.length) (hh : C.hand < C.fs.length) (hj : j < n) (hp : C.at (j : Int) = none → ∃ (i : Nat) (x : Option Fq), C.abs[i]? = some x ∧ ¬ 0 < qpins x) :
    (C.put D j s).2.2 = 0 ∧ KI (C.put D j s).1.abs (C.put D j s).2.1 (fun k => if k = j then s else has k) n ∧ (∃ (i : Nat) (p : Int), (C.put D j s).1.abs = C.abs.set i (some ⟨(j : Int), p, true, s⟩) ∧ (p = 0 ∨ ∃ f : Fq, C.abs[i]? = some (some f) ∧ p = f.pins)) := by
  cases hat : C.at (j : Int) with
  | some i =>
    obtain ⟨g, hg, hgn⟩ := at_some hat
    have ha := abs_get hg
    have hput : C.put D j s = (setF C i (some { g with s := s, dirty := true, used := true }), D, 0) := by
      unfold Cv.put
      rw [hat]
      dsimp only
      rw [hg]
    rw [hput]
    have hk := h.hit ha hgn g.pins true s (fun e => by cases e)
    have habs : (setF C i (some { g with s := s, dirty := true, used := true })).abs = C.abs.set i (some ⟨g.no, g.pins, true, s⟩) := setF_abs
    dsimp only
    rw [habs]
    exact ⟨rfl, hk, i, g.pins, by rw [hgn], .inr ⟨_, ha, rfl⟩⟩
  | none =>
    obtain ⟨i, x, h1, h2, h3, h4, h5, h6, h7⟩ := h.room hm hh hat (hp hat)
    have hput : C.put D j s = (setF (C.room D).1 i (some ⟨(j : Int), 0, true, true, s⟩), (C.room D).2.1, 0) := by
      unfold Cv.put
      rw [hat]
      dsimp only
      rw [show (C.room D).2.2.1 = some i by rw [h3]]
    rw [hput]
    have hk := h5.new h6 hj h7 true s (fun e => by cases e)
    have habs : (setF (C.room D).1 i (some ⟨(j : Int), 0, true, true, s⟩)).abs = (C.room D).1.abs.set i (some ⟨(j : Int), 0, true, s⟩) := setF_abs
    dsimp only
    rw [habs]
    exact ⟨rfl, hk, i, 0, by rw [h4, List.set_set], .inl rfl⟩
end Go.Proofs.Ytepmikgjnmjheaa
/- Layer 5 (cache): what Sync does where nothing fails: plain. What is done to a cache. -/
namespace Go.Proofs.Ytepmikgjnmjheaa
open Go.RowKit
set_option linter.unusedSimpArgs false
set_option linter.unusedVariables false
def P0 (A : List (Option Fq)) : Prop := ∀ (i : Nat) (f : Fq), A[i]? = some (some f) → f.pins = 0
theorem P0.set {A : List (Option Fq)} {i : Nat} {x : Option Fq} (h : P0 A) (hx : ∀ f, x = some f → f.pins = 0) : P0 (A.set i x) := by
  intro k f hk
  rcases set_get hk with ⟨_, h1⟩ | ⟨_, hk2⟩
  · exact hx f h1.symm
  · exact h k f hk2
theorem P0.room {C : Cv} (h : P0 C.abs) (hm : 0 < C.fs.length) : ∃ (i : Nat) (x : Option Fq), C.abs[i]? = some x ∧ ¬ 0 < qpins x := by
  have h0 : 0 < C.abs.length := by unfold Cv.abs; rw [List.length_map]; exact hm
  refine ⟨0, C.abs[0], List.getElem?_eq_getElem h0, ?_⟩
  cases hx : C.abs[0] with
  | none => show ¬ (0 : Int) < 0; omega
  | some f =>
    have := h 0 f (by rw [List.getElem?_eq_getElem h0, hx])
    show ¬ 0 < f.pins
    omega
theorem P0.get {C : Cv} {D : Dv} {j : Nat} (h : P0 C.abs) (hg : (C.get D j).1.abs = C.abs ∨ ∃ (i : Nat) (x : Option Fq) (s : Sec), C.abs[i]? = some x ∧ ¬ 0 < qpins x ∧ (C.get D j).1.abs = C.abs.set i (some ⟨(j : Int), 0, false, s⟩)) : P0 (C.get D j).1.abs := by
  rcases hg with e | ⟨i, x, s, _, _, e⟩
  · rw [e]; exact h
  · rw [e]; exact h.set fun f hf => by cases hf; rfl
theorem P0.put {C : Cv} {D : Dv} {j : Nat} {s : Sec} (h : P0 C.abs) (hg : ∃ (i : Nat) (p : Int), (C.put D j s).1.abs = C.abs.set i (some ⟨(j : Int), p, true, s⟩) ∧ (p = 0 ∨ ∃ f : Fq, C.abs[i]? = some (some f) ∧ p = f.pins)) : P0 (C.put D j s).1.abs := by
  obtain ⟨i, p, e, hp⟩ := hg
  rw [e]
  refine h.set fun f hf => ?_
  cases hf
  rcases hp with hp | ⟨f, hf, hp⟩
  · exact hp
  · rw [hp]; exact h i f hf
/-! ### What is done -/
structure KA where
  k : Int
  no : Int
  b : UInt8
abbrev kaC (x : KA) : Ch := [(1, [.int .i64 x.k]), (1, [.int .i64 x.no]), (1, [.int .u8 ((x.b.toNat : Nat) : Int)])]
def kaW (x : KA) : Prop := in64 x.k ∧ in64 x.no
def kas (l : List KA) : List Value := (l.map fun x => flat (kaC x)).flatten
theorem kaC_len (x : KA) : (flat (kaC x)).length = 3 := rfl
theorem kas_len {l : List KA} : (kas l).length = l.length * 3 := rows_len kaC_len
theorem kas_at {l : List KA} {i : Nat} {x : KA} (h : l[i]? = some x) : ((kas l).drop (i * 3)).take 3 = flat (kaC x) := rows_drop kaC_len h
def hasL (l : List UInt8) (j : Nat) : Sec := secF (l.getD j 0)
end Go.Proofs.Ytepmikgjnmjheaa
/- What is done to a cache, opened. -/
namespace Go.Proofs.Ytepmikgjnmjheaa
open Go.ChangeShapes Go.WideShapes Go.ChangeAt Go.RowKit
set_option linter.unusedSimpArgs false
set_option linter.unusedVariables false
theorem fits_ka {es : List Value} (h : Fits [some .i64, some .i64, some .u8] es) : ∃ x : KA, es = flat (kaC x) ∧ kaW x := by
  obtain ⟨k, r1, rfl, a1, b1, i1⟩ := fits_i64 h
  obtain ⟨no, r2, rfl, a2, b2, i2⟩ := fits_i64 i1
  obtain ⟨b, r3, rfl, hb, i3⟩ := fits_uint rfl i2
  obtain rfl := fits_nil i3
  have hb2 : (UInt8.ofNat b).toNat = b := by
    simp only [IntKind.bits] at hb
    have h3 : (UInt8.ofNat b).toNat = b % 256 := by simp
    rw [h3]
    omega
  refine ⟨⟨k, no, UInt8.ofNat b⟩, ?_, ⟨a1, b1⟩, a2, b2⟩
  show _ = [_, _, Value.int .u8 (((UInt8.ofNat b).toNat : Nat) : Int)]
  rw [hb2]
end Go.Proofs.Ytepmikgjnmjheaa
/- Reference of layer 3 (dev): its memory; contracts: burns, versions, Now, has. -/
namespace Go.Proofs.Ytepmikgjnmjheaa
open Go.RowKit
set_option linter.unusedSimpArgs false
set_option linter.unusedVariables false
set_option maxRecDepth 20000
set_option maxHeartbeats 4000000
attribute [local irreducible] WPc WPl WPq ReadR OpT BinR HasS bx rdN rowN Take Takes Prov Triple ResF BuildP Done ag Int.decLt Int.decLe Int.instDecidableEq
attribute [local irreducible] mp rmp rg rgo bag vrow secs mput mget mfind mdel intsV skeys vault pickG fburn fb1
instance slEltN : EltN Try.prog 31 1 := ⟨by kernel_rfl⟩
/-- Bytes that are held, as values. -/
def valsV (l : List (Value × Sec)) : List Value := l.map (·.1)
theorem valsV_len {l : List (Value × Sec)} : (valsV l).length = l.length := by unfold valsV; rw [List.length_map]
theorem valsV_at {l : List (Value × Sec)} {i : Nat} {x : Value × Sec} (h : l[i]? = some x) : (valsV l)[i]? = some x.1 := by unfold valsV; rw [List.getElem?_map, h]; rfl
theorem valsV_app {l k : List (Value × Sec)} : valsV (l ++ k) = valsV l ++ valsV k := by unfold valsV; rw [List.map_append]
theorem valsV_set {l : List (Value × Sec)} {i : Nat} {x : Value × Sec} : (valsV l).set i x.1 = valsV (l.set i x) := by unfold valsV; rw [List.map_set]
/-- What waits: a sector's number, and its bytes. -/
abbrev Zl := List (Int × (Value × Sec))
def zAt (Z : Zl) : List Int := Z.map (·.1)
def zB (Z : Zl) : List (Value × Sec) := Z.map (·.2)
def vers (Z : Zl) (i : Int) : List (Value × Sec) := (Z.filter fun z => decide (z.1 = i)).map (·.2)
theorem vers_len {Z : Zl} {i : Int} : (vers Z i).length ≤ Z.length := by
  unfold vers; rw [List.length_map]; exact List.length_filter_le _ _
theorem vers_next {Z : Zl} {i : Int} {k : Nat} {z : Int × (Value × Sec)} (h : Z[k]? = some z) : vers (Z.take (k + 1)) i = vers (Z.take k) i ++ if z.1 = i then [z.2] else [] := by
  unfold vers
  rw [List.take_add_one, h, List.filter_append, List.map_append]
  congr 1
  show List.map _ (List.filter _ [z]) = _
  rw [List.filter_cons]
  by_cases hz : z.1 = i
  · rw [if_pos (by simpa using hz), if_pos hz]; rfl
  · rw [if_neg (by simpa using hz), if_neg hz]; rfl
abbrev rdc (vL vA vB : Value) (fu : List Int) (wr : Int) : Ch := [(1, [vL]), (1, [vA]), (1, [vB]), (4, intsV fu), (1, [.int .i64 wr])]
structure RfS where
  vL : Value
  L : List (Value × Sec)
  vA : Value
  vB : Value
  Z : Zl
  fu : List Int
  wr : Int
  rs : List (Value × Sec)
abbrev rsA (gX : Nat) (R : RfS) : List Asn := [bx gX 51 (rdc R.vL R.vA R.vB R.fu R.wr), rowN 31 1 R.vL R.L.length (valsV R.L), rowN 3 1 R.vA R.Z.length (intsV (zAt R.Z)), rowN 31 1 R.vB R.Z.length (valsV (zB R.Z)), vault R.rs]
structure RInv (n k : Nat) (R : RfS) : Prop where
  one : R.vL.oneCell' = true ∧ R.vA.oneCell' = true ∧ R.vB.oneCell' = true
  f4 : R.fu.length = 4
  fb : ∀ j, j < 4 → -1 ≤ R.fu.getD j 0 ∧ R.fu.getD j 0 ≤ 9223372036854775807
  nl : R.L.length = n
  lz : R.Z.length ≤ k
  at' : ∀ z ∈ R.Z, ∃ j : Nat, z.1 = (j : Int) ∧ j < n
  inL : ∀ x ∈ R.L, x ∈ R.rs ∧ x.1.oneCell' = true
  inZ : ∀ z ∈ R.Z, z.2 ∈ R.rs ∧ z.2.1.oneCell' = true
  w0 : 0 ≤ R.wr
  w1 : R.wr ≤ k
def nowR (R : RfS) (j : Nat) : Value × Sec := (vers R.Z (j : Int)).getLastD (R.L.getD j (.slice none 0 0, secF 0))
theorem vers_mem {Z : Zl} {i : Int} {x : Value × Sec} (h : x ∈ vers Z i) : ∃ z ∈ Z, z.1 = i ∧ z.2 = x := by
  unfold vers at h
  obtain ⟨z, hz, rfl⟩ := List.mem_map.1 h
  rw [List.mem_filter, decide_eq_true_eq] at hz
  exact ⟨z, hz.1, hz.2, rfl⟩
theorem RInv.now {n k : Nat} {R : RfS} (h : RInv n k R) {j : Nat} (hj : j < n) : nowR R j ∈ R.rs ∧ (nowR R j).1.oneCell' = true := by
  unfold nowR
  cases hv : (vers R.Z (j : Int)).getLast? with
  | none =>
    rw [List.getLastD_eq_getLast?, hv]
    have hl : j < R.L.length := by rw [h.nl]; exact hj
    rw [show (none : Option (Value × Sec)).getD (R.L.getD j (.slice none 0 0, secF 0)) = R.L.getD j (.slice none 0 0, secF 0) from rfl, List.getD_eq_getElem?_getD, List.getElem?_eq_getElem hl]
    exact h.inL _ (List.getElem_mem hl)
  | some x =>
    rw [List.getLastD_eq_getLast?, hv]
    obtain ⟨z, hz, _, rfl⟩ := vers_mem (List.mem_of_getLast? hv)
    exact h.inZ z hz
section
variable (gX : Nat) (n k : Nat) (R : RfS)
theorem rburns_t (j : Nat) (a : Int) (h4 : R.fu.length = 4) (hj : j < 4) (ha : R.fu[j]? = some a) (hlo : -1 ≤ a) (hhi : a ≤ 9223372036854775807) :
    Triple Try.prog 71 #[hD gX, .int .i64 (j : Int)] [bx gX 51 (rdc R.vL R.vA R.vB R.fu R.wr)] (RTurns (.bool (decide (a = 0))) [bx gX 51 (rdc R.vL R.vA R.vB (fburn R.fu j a) R.wr)]) := by
  have hv0 := intsV_at ha
  have hlen : j < (intsV R.fu).length := by rw [intsV_len, h4]; exact hj
  have hv1 : ((intsV R.fu).set j (.int .i64 (a - 1)))[j]? = some (.int .i64 (a - 1)) := List.getElem?_set_self hlen
  have hlen1 : j < ((intsV R.fu).set j (.int .i64 (a - 1))).length := by rw [List.length_set]; exact hlen
  by_cases h1 : a = -1
  · subst h1
    have h3 : rdc R.vL R.vA R.vB (fburn R.fu j (-1)) R.wr = [(1, [R.vL]), (1, [R.vA]), (1, [R.vB]), (4, ((intsV R.fu).set j (.int .i64 (-1 - 1))).set j (.int .i64 (-1))), (1, [.int .i64 R.wr])] := by
      rw [List.set_set, intsV_set]; with_unfolding_all rfl
    rw [show decide ((-1 : Int) = 0) = false by simp, h3]
    refine Triple.enter Try.func71 rfl Try.ntmps71 rfl (fun W => ?_)
    dsimp only [argsF, Nat.reduceAdd]
    repeat' (first
     | refine WPl.nil ?_ | refine WPq.then ?_ | refine WPq.thenR ?_ | refine WPq.thenE ?_ | refine WPq.blockN ?_ | refine WPq.blockR ?_ | refine WPq.blockE ?_ | refine WPq.blockO rfl ?_ | refine WPc.seq ?_ | refine WPc.block ?_ | refine WPc.ret ?_ | refine WPc.exit ?_ | refine WPc.skip ?_ | refine WPc.region ?_
     | (refine isReg 1 ?_; refine WPc.drA [([13], [6, 7, 8, 9, 10, 11, 12, 13]), ([13], [5, 7, 8, 9, 10, 11, 12, 13, 14, 15]), ([13], [5, 6, 8, 14, 15]), ([13], [5, 6, 7, 9, 10, 14, 15]), ([2, 13], [5, 6, 7, 8, 14, 15]), ([2, 4, 13], [5, 6, 7, 8, 9, 14, 15]), ([2, 3, 4, 5, 13], [5, 6, 7, 8, 9, 10, 14, 15]), ([2, 3, 4, 5, 6, 13], [5, 6, 7, 8, 9, 10, 11, 14, 15]), ([2, 3, 4, 5, 6, 7, 13], [5, 6, 7, 8, 9, 10, 11, 12, 14, 15]), ([0, 13], [5, 6, 7, 8, 9, 10, 11, 12, 13]), ([0, 9, 13], [5, 6, 7, 8, 9, 10, 11, 12, 13, 14]), ([0, 1, 2, 3, 4, 5, 6, 7, 8, 9, 10, 13], [5, 6, 7, 8, 9, 10, 11, 12, 13, 14, 15]), ([0, 1, 2, 3, 4, 5, 6, 7, 8, 9, 10, 11, 13], [5, 6, 7, 8, 9, 10, 11, 12, 13, 14, 15, 16])] [(13, 12), (13, 0), (13, 1), (13, 2), (13, 3), (13, 4), (13, 5), (13, 6), (13, 7), (13, 8), (13, 9), (13, 10), (13, 11)] (Γx := [bx gX 51 (rdc R.vL R.vA R.vB R.fu R.wr)]) ?_; dsimp only [prev0, List.length_nil, List.length_cons])
     | (refine gAny ?_; first | (refine gD 12 ?_; refine RGl.rdX (fun e hk => by (try dsimp only [bndR, ensR, oksR, fcutR, List.append_nil, List.nil_append, List.cons_append, List.append_assoc] at hk ⊢); exact ReadR.loadR rfl memA rfl hv0) ?_) | (refine gD 13 ?_; refine RGl.rdX (fun e hk => by (try dsimp only [bndR, ensR, oksR, fcutR, List.append_nil, List.nil_append, List.cons_append, List.append_assoc] at hk ⊢); exact ReadR.binE rfl rfl (BinR.subI (by omega) (by omega)) rfl) ?_) | (refine gOp ?_; (refine RGl.turn (fun e hk => by (try dsimp only [bndR, ensR, oksR, fcutR, List.append_nil, List.nil_append, List.cons_append, List.append_assoc] at hk ⊢); exact OpT.storeR rfl rfl takesA rfl rfl hlen rfl) ?_)) | (refine gD 22 ?_; refine RGl.rdX (fun e hk => by (try dsimp only [bndR, ensR, oksR, fcutR, List.append_nil, List.nil_append, List.cons_append, List.append_assoc] at hk ⊢); exact ReadR.loadR rfl memA rfl hv1) ?_) | (refine gD 23 ?_; refine RGl.rdX (fun e hk => by (try dsimp only [bndR, ensR, oksR, fcutR, List.append_nil, List.nil_append, List.cons_append, List.append_assoc] at hk ⊢); exact ReadR.binE rfl rfl BinR.lss (congrArg Value.bool (decide_eq_true (by omega)))) ?_) | (refine gOp ?_; first | refine RGl.rdA ?_ | refine RGl.rdX (fun e hk => by (try dsimp only [bndR, ensR, oksR, fcutR, List.append_nil, List.nil_append, List.cons_append, List.append_assoc] at hk ⊢); exact readB) ?_) | (refine gSt ?_; refine RGl.stA ?_) | (refine RGl.fin (fun e hk => ?_); (try dsimp only [bndA, ensAR, oksA, List.append_nil, List.nil_append, List.cons_append, List.append_assoc] at hk ⊢); (repeat (obtain ⟨hk1, hk⟩ := hk))) | fail)
     | (refine isCond ?_; first | refine WPc.cT ?_ | refine WPc.cF ?_ | (refine WPc.cQ (fun hc => ?_) (fun hc => ?_) <;> try exact prA))
     | (refine isD 22 ?_; refine WPl.rdX (ReadR.loadR rfl memA rfl hv1) ?_)
     | (refine isD 23 ?_; refine WPl.rdX (ReadR.binE rfl rfl BinR.lss (congrArg Value.bool (decide_eq_true (by omega)))) ?_)
     | (show WPl _ _ _ _ _ _ _ (⟨none, .store _ _ (.const _), _, _, _, _⟩ :: _) _; refine WPl.turn (.cons takeA .nil) rfl rfl (OpT.storeR rfl rfl (.cons takeA .nil) rfl rfl hlen1 rfl) ?_)
     | (refine isOp ?_; first | refine WPl.rd ?_ | refine WPl.sk ?_ | refine WPl.rdB ?_)
     | (refine isSt ?_; first | refine WPl.st1 ?_ | refine WPl.stA ?_ | refine WPl.stEB ?_ | refine WPl.stRB ?_)
     | (show WPl _ _ _ _ _ _ _ (⟨_, .indexAddr _ _ _, _, _, _, _⟩ :: _) _; refine WPl.rdX (ReadR.indexE rfl rfl hasA (by first | assumption | omega)) ?_)
     | (show WPl _ _ _ _ _ _ _ (⟨_, .fieldAddr _ _ _, _, _, _, _⟩ :: _) _; refine WPl.rdX (ReadR.fieldE rfl hasA (by first | assumption | omega)) ?_)
     | (show WPl _ _ _ _ _ _ _ (⟨_, .load _ _, _, _, _, _⟩ :: _) _; first | refine WPl.rdX (ReadR.loadE rfl hasA (by assumption)) ?_ | refine WPl.rdX (ReadR.loadES (by assumption) (by first | assumption | omega) rfl hasA) ?_)
     | (show WPl _ _ _ _ _ _ _ (⟨_, .slice _ _ _ _ _, _, _, _, _⟩ :: _) _; first | refine WPl.rdX (ReadR.sliceH rfl rfl hasA (by omega)) ?_ | refine WPl.rdX (ReadR.sliceL rfl rfl hasA (by omega)) ?_ | refine WPl.rdX (ReadR.sliceLH rfl rfl rfl hasA (by omega) (by omega)) ?_)
     | (refine WPl.spQ (fun hc => ?_) (fun hc => ?_) <;> try exact prA)
     | fail)
    exact WPq.dTs
  · have h3 : rdc R.vL R.vA R.vB (fburn R.fu j a) R.wr = [(1, [R.vL]), (1, [R.vA]), (1, [R.vB]), (4, (intsV R.fu).set j (.int .i64 (a - 1))), (1, [.int .i64 R.wr])] := by
      rw [intsV_set]
      have : fburn R.fu j a = R.fu.set j (a - 1) := by
        with_unfolding_all (unfold fburn fb1; rw [if_neg h1]; split; (first | (rename_i h0; rw [h0]; rfl) | rfl); rfl)
      rw [this]
    have hd : decide (a - 1 = -1) = decide (a = 0) := by rw [Bool.eq_iff_iff, decide_eq_true_eq, decide_eq_true_eq]; omega
    rw [h3]
    refine Triple.enter Try.func71 rfl Try.ntmps71 rfl (fun W => ?_)
    dsimp only [argsF, Nat.reduceAdd]
    repeat' (first
     | refine WPl.nil ?_ | refine WPq.then ?_ | refine WPq.thenR ?_ | refine WPq.thenE ?_ | refine WPq.blockN ?_ | refine WPq.blockR ?_ | refine WPq.blockE ?_ | refine WPq.blockO rfl ?_ | refine WPc.seq ?_ | refine WPc.block ?_ | refine WPc.ret ?_ | refine WPc.exit ?_ | refine WPc.skip ?_ | refine WPc.region ?_
     | (refine isReg 1 ?_; refine WPc.drA [([13], [6, 7, 8, 9, 10, 11, 12, 13]), ([13], [5, 7, 8, 9, 10, 11, 12, 13, 14, 15]), ([13], [5, 6, 8, 14, 15]), ([13], [5, 6, 7, 9, 10, 14, 15]), ([2, 13], [5, 6, 7, 8, 14, 15]), ([2, 4, 13], [5, 6, 7, 8, 9, 14, 15]), ([2, 3, 4, 5, 13], [5, 6, 7, 8, 9, 10, 14, 15]), ([2, 3, 4, 5, 6, 13], [5, 6, 7, 8, 9, 10, 11, 14, 15]), ([2, 3, 4, 5, 6, 7, 13], [5, 6, 7, 8, 9, 10, 11, 12, 14, 15]), ([0, 13], [5, 6, 7, 8, 9, 10, 11, 12, 13]), ([0, 9, 13], [5, 6, 7, 8, 9, 10, 11, 12, 13, 14]), ([0, 1, 2, 3, 4, 5, 6, 7, 8, 9, 10, 13], [5, 6, 7, 8, 9, 10, 11, 12, 13, 14, 15]), ([0, 1, 2, 3, 4, 5, 6, 7, 8, 9, 10, 11, 13], [5, 6, 7, 8, 9, 10, 11, 12, 13, 14, 15, 16])] [(13, 12), (13, 0), (13, 1), (13, 2), (13, 3), (13, 4), (13, 5), (13, 6), (13, 7), (13, 8), (13, 9), (13, 10), (13, 11)] (Γx := [bx gX 51 (rdc R.vL R.vA R.vB R.fu R.wr)]) ?_; dsimp only [prev0, List.length_nil, List.length_cons])
     | (refine gAny ?_; first | (refine gD 12 ?_; refine RGl.rdX (fun e hk => by (try dsimp only [bndR, ensR, oksR, fcutR, List.append_nil, List.nil_append, List.cons_append, List.append_assoc] at hk ⊢); exact ReadR.loadR rfl memA rfl hv0) ?_) | (refine gD 13 ?_; refine RGl.rdX (fun e hk => by (try dsimp only [bndR, ensR, oksR, fcutR, List.append_nil, List.nil_append, List.cons_append, List.append_assoc] at hk ⊢); exact ReadR.binE rfl rfl (BinR.subI (by omega) (by omega)) rfl) ?_) | (refine gOp ?_; (refine RGl.turn (fun e hk => by (try dsimp only [bndR, ensR, oksR, fcutR, List.append_nil, List.nil_append, List.cons_append, List.append_assoc] at hk ⊢); exact OpT.storeR rfl rfl takesA rfl rfl hlen rfl) ?_)) | (refine gD 22 ?_; refine RGl.rdX (fun e hk => by (try dsimp only [bndR, ensR, oksR, fcutR, List.append_nil, List.nil_append, List.cons_append, List.append_assoc] at hk ⊢); exact ReadR.loadR rfl memA rfl hv1) ?_) | (refine gD 23 ?_; refine RGl.rdX (fun e hk => by (try dsimp only [bndR, ensR, oksR, fcutR, List.append_nil, List.nil_append, List.cons_append, List.append_assoc] at hk ⊢); exact ReadR.binE rfl rfl BinR.lss (congrArg Value.bool (decide_eq_false (by omega)))) ?_) | (refine gD 34 ?_; refine RGl.rdX (fun e hk => by (try dsimp only [bndR, ensR, oksR, fcutR, List.append_nil, List.nil_append, List.cons_append, List.append_assoc] at hk ⊢); exact ReadR.loadR rfl memA rfl hv1) ?_) | (refine gD 35 ?_; refine RGl.rdX (fun e hk => by (try dsimp only [bndR, ensR, oksR, fcutR, List.append_nil, List.nil_append, List.cons_append, List.append_assoc] at hk ⊢); exact ReadR.binE rfl rfl BinR.eql (congrArg Value.bool hd)) ?_) | (refine gOp ?_; first | refine RGl.rdA ?_ | refine RGl.rdX (fun e hk => by (try dsimp only [bndR, ensR, oksR, fcutR, List.append_nil, List.nil_append, List.cons_append, List.append_assoc] at hk ⊢); exact readB) ?_) | (refine gSt ?_; refine RGl.stA ?_) | (refine RGl.fin (fun e hk => ?_); (try dsimp only [bndA, ensAR, oksA, List.append_nil, List.nil_append, List.cons_append, List.append_assoc] at hk ⊢); (repeat (obtain ⟨hk1, hk⟩ := hk))) | fail)
     | (refine isCond ?_; first | refine WPc.cT ?_ | refine WPc.cF ?_ | (refine WPc.cQ (fun hc => ?_) (fun hc => ?_) <;> try exact prA))
     | (refine isD 22 ?_; refine WPl.rdX (ReadR.loadR rfl memA rfl hv1) ?_)
     | (refine isD 23 ?_; refine WPl.rdX (ReadR.binE rfl rfl BinR.lss (congrArg Value.bool (decide_eq_false (by omega)))) ?_)
     | (refine isD 34 ?_; refine WPl.rdX (ReadR.loadR rfl memA rfl hv1) ?_)
     | (refine isD 35 ?_; refine WPl.rdX (ReadR.binE rfl rfl BinR.eql (congrArg Value.bool hd)) ?_)
     | (refine isOp ?_; first | refine WPl.rd ?_ | refine WPl.sk ?_ | refine WPl.rdB ?_)
     | (refine isSt ?_; first | refine WPl.st1 ?_ | refine WPl.stA ?_ | refine WPl.stEB ?_ | refine WPl.stRB ?_)
     | (show WPl _ _ _ _ _ _ _ (⟨_, .indexAddr _ _ _, _, _, _, _⟩ :: _) _; refine WPl.rdX (ReadR.indexE rfl rfl hasA (by first | assumption | omega)) ?_)
     | (show WPl _ _ _ _ _ _ _ (⟨_, .fieldAddr _ _ _, _, _, _, _⟩ :: _) _; refine WPl.rdX (ReadR.fieldE rfl hasA (by first | assumption | omega)) ?_)
     | (show WPl _ _ _ _ _ _ _ (⟨_, .load _ _, _, _, _, _⟩ :: _) _; first | refine WPl.rdX (ReadR.loadE rfl hasA (by assumption)) ?_ | refine WPl.rdX (ReadR.loadES (by assumption) (by first | assumption | omega) rfl hasA) ?_)
     | (show WPl _ _ _ _ _ _ _ (⟨_, .slice _ _ _ _ _, _, _, _, _⟩ :: _) _; first | refine WPl.rdX (ReadR.sliceH rfl rfl hasA (by omega)) ?_ | refine WPl.rdX (ReadR.sliceL rfl rfl hasA (by omega)) ?_ | refine WPl.rdX (ReadR.sliceLH rfl rfl rfl hasA (by omega) (by omega)) ?_)
     | (refine WPl.spQ (fun hc => ?_) (fun hc => ?_) <;> try exact prA)
     | fail)
    exact WPq.dTs
theorem rvers_t (i : Int) (h : RInv n k R) (hk0 : k ≤ 100000) : Triple Try.prog 54 #[hD gX, .int .i64 i] [rbx gX 51 (rdc R.vL R.vA R.vB R.fu R.wr), rdN R.vA R.Z.length (intsV (zAt R.Z)), rdN R.vB R.Z.length (valsV (zB R.Z))] (RRow 31 1 (vers R.Z i).length (valsV (vers R.Z i))) := by
  have hlz := h.lz
  have e1 : ∀ v, rowN 31 1 v 0 [] = rowN 31 1 v (vers (R.Z.take 0) i).length (valsV (vers (R.Z.take 0) i)) := fun v => by rw [List.take_zero]; rfl
  refine Triple.enter Try.func54 rfl Try.ntmps54 rfl (fun W => ?_)
  dsimp only [argsF, Nat.reduceAdd]
  repeat' (first
   | refine WPl.nil ?_ | refine WPq.then ?_ | refine WPq.thenR ?_ | refine WPq.thenE ?_ | refine WPq.blockN ?_ | refine WPq.blockR ?_ | refine WPq.blockE ?_ | refine WPq.blockO rfl ?_ | refine WPc.seq ?_ | refine WPc.block ?_ | refine WPc.ret ?_ | refine WPc.exit ?_ | refine WPc.skip ?_ | refine WPc.region ?_
   | (refine isCond ?_; first | refine WPc.cT ?_ | refine WPc.cF ?_ | (refine WPc.cQ (fun hc => ?_) (fun hc => ?_) <;> try exact prA))
   | (refine isD 7 ?_; refine WPl.litS0 fun v7 hv7 => ?_)
   | (refine isOp ?_; first | refine WPl.rd ?_ | refine WPl.sk ?_ | refine WPl.rdB ?_)
   | (show WPl _ _ _ _ _ _ _ (⟨_, .indexAddr _ _ _, _, _, _, _⟩ :: _) _; refine WPl.rdX (ReadR.indexE rfl rfl hasA (by first | assumption | omega)) ?_)
   | (show WPl _ _ _ _ _ _ _ (⟨_, .fieldAddr _ _ _, _, _, _, _⟩ :: _) _; refine WPl.rdX (ReadR.fieldE rfl hasA (by first | assumption | omega)) ?_)
   | (show WPl _ _ _ _ _ _ _ (⟨_, .load _ _, _, _, _, _⟩ :: _) _; first | refine WPl.rdX (ReadR.loadE rfl hasA (by assumption)) ?_ | refine WPl.rdX (ReadR.loadES (by assumption) (by first | assumption | omega) rfl hasA) ?_)
   | (show WPl _ _ _ _ _ _ _ (⟨_, .slice _ _ _ _ _, _, _, _, _⟩ :: _) _; first | refine WPl.rdX (ReadR.sliceH rfl rfl hasA (by omega)) ?_ | refine WPl.rdX (ReadR.sliceL rfl rfl hasA (by omega)) ?_ | refine WPl.rdX (ReadR.sliceLH rfl rfl rfl hasA (by omega) (by omega)) ?_)
   | (refine WPl.spQ (fun hc => ?_) (fun hc => ?_) <;> try exact prA)
   | fail)
  rw [e1]
  first | refine WPc.loop (σ := Nat × Value) (fun st => st.1 ≤ R.Z.length ∧ st.2.oneCell' = true) (fun st => [rbx gX 51 (rdc R.vL R.vA R.vB R.fu R.wr), rdN R.vA R.Z.length (intsV (zAt R.Z)), rdN R.vB R.Z.length (valsV (zB R.Z)), rowN 31 1 st.2 (vers (R.Z.take st.1) i).length (valsV (vers (R.Z.take st.1) i))]) (fun st => [(0, hD gX), (1, .int .i64 i), (5, st.2), (6, .int .i64 (st.1 : Int))]) (fun st => R.Z.length - st.1) ((0, v7)) ?_ takesA frsA (fun st km hx hk => ?_)
  · exact ⟨Nat.zero_le _, hv7⟩
  obtain ⟨q, vo⟩ := st
  obtain ⟨hq, hvo⟩ := hx
  dsimp only at hq hvo hk ⊢
  have hkm : km = R.Z.length - q := hk
  clear hk
  have hvl := vers_len (Z := R.Z.take q) (i := i)
  rw [List.length_take] at hvl
  by_cases hlt : q < R.Z.length
  · obtain ⟨z, hz⟩ : ∃ z, R.Z[q]? = some z := ⟨_, List.getElem?_eq_getElem hlt⟩
    have ha : (intsV (zAt R.Z))[q]? = some (.int .i64 z.1) := intsV_at (by unfold zAt; rw [List.getElem?_map, hz]; rfl)
    have hb : (valsV (zB R.Z))[q]? = some z.2.1 := valsV_at (by unfold zB; rw [List.getElem?_map, hz]; rfl)
    have hone := (h.inZ z (List.mem_of_getElem? hz)).2
    have hnx := vers_next (i := i) hz
    by_cases hzi : z.1 = i
    · rw [if_pos hzi] at hnx
      have hrow : ∀ v2, rowN 31 1 v2 ((vers (R.Z.take q) i).length + 1) (valsV (vers (R.Z.take q) i) ++ [z.2.1]) = rowN 31 1 v2 (vers (R.Z.take (q + 1)) i).length (valsV (vers (R.Z.take (q + 1)) i)) := fun v2 => by
        rw [hnx, List.length_append, valsV_app]; rfl
      repeat' (first
       | refine WPl.nil ?_ | refine WPq.then ?_ | refine WPq.thenR ?_ | refine WPq.thenE ?_ | refine WPq.blockN ?_ | refine WPq.blockR ?_ | refine WPq.blockE ?_ | refine WPq.blockO rfl ?_ | refine WPc.seq ?_ | refine WPc.block ?_ | refine WPc.ret ?_ | refine WPc.exit ?_ | refine WPc.skip ?_ | refine WPc.region ?_
       | (refine isCond ?_; first | refine WPc.cT ?_ | refine WPc.cF ?_ | (refine WPc.cQ (fun hc => ?_) (fun hc => ?_) <;> try first | exact prA | (exfalso; first | omega)))
       | (refine isD 12 ?_; refine WPl.rdX (ReadR.loadO memA rfl rfl) ?_)
       | (refine isD 20 ?_; refine WPl.rdX (ReadR.loadO memA rfl rfl) ?_)
       | (refine isD 30 ?_; refine WPl.rdX (ReadR.loadO memA rfl rfl) ?_)
       | (refine isD 22 ?_; refine WPl.rdX (ReadR.indexE1 (i := q) rfl rfl hasA hlt) ?_)
       | (refine isD 23 ?_; refine WPl.rdX (ReadR.loadE rfl hasA ha) ?_)
       | (refine isD 25 ?_; refine WPl.rdX (ReadR.binE rfl rfl BinR.eql (congrArg Value.bool (decide_eq_true hzi))) ?_)
       | (refine isD 32 ?_; refine WPl.rdX (ReadR.indexE1 (i := q) rfl rfl hasA hlt) ?_)
       | (refine isD 33 ?_; refine WPl.rdX (ReadR.loadE rfl hasA hb) ?_)
       | (refine isLit ?_; refine WPl.lits fun w34 hw34 => ?_)
       | (refine isD 35 ?_; refine WPl.appN (m := (vers (R.Z.take q) i).length) (m2 := 1) (xs := valsV (vers (R.Z.take q) i)) (ys := [z.2.1]) rfl (fun u hu => by rw [List.mem_singleton.1 hu]; exact hone) (by omega) fun v2 hv2 => ?_)
       | (refine isOp ?_; first | refine WPl.rd ?_ | refine WPl.sk ?_ | refine WPl.rdB ?_)
       | (show WPl _ _ _ _ _ _ _ (⟨_, .indexAddr _ _ _, _, _, _, _⟩ :: _) _; refine WPl.rdX (ReadR.indexE rfl rfl hasA (by first | assumption | omega)) ?_)
       | (show WPl _ _ _ _ _ _ _ (⟨_, .fieldAddr _ _ _, _, _, _, _⟩ :: _) _; refine WPl.rdX (ReadR.fieldE rfl hasA (by first | assumption | omega)) ?_)
       | (show WPl _ _ _ _ _ _ _ (⟨_, .load _ _, _, _, _, _⟩ :: _) _; first | refine WPl.rdX (ReadR.loadE rfl hasA (by assumption)) ?_ | refine WPl.rdX (ReadR.loadES (by assumption) (by first | assumption | omega) rfl hasA) ?_)
       | (show WPl _ _ _ _ _ _ _ (⟨_, .slice _ _ _ _ _, _, _, _, _⟩ :: _) _; first | refine WPl.rdX (ReadR.sliceH rfl rfl hasA (by omega)) ?_ | refine WPl.rdX (ReadR.sliceL rfl rfl hasA (by omega)) ?_ | refine WPl.rdX (ReadR.sliceLH rfl rfl rfl hasA (by omega) (by omega)) ?_)
       | (refine WPl.spQ (fun hc => ?_) (fun hc => ?_) <;> try first | exact prA | (exfalso; first | omega))
       | fail)
      rw [hrow]
      exact WPq.rnd (q + 1, v2) ⟨hlt, hv2⟩ (by dsimp only; omega)
    · rw [if_neg hzi, List.append_nil] at hnx
      repeat' (first
       | refine WPl.nil ?_ | refine WPq.then ?_ | refine WPq.thenR ?_ | refine WPq.thenE ?_ | refine WPq.blockN ?_ | refine WPq.blockR ?_ | refine WPq.blockE ?_ | refine WPq.blockO rfl ?_ | refine WPc.seq ?_ | refine WPc.block ?_ | refine WPc.ret ?_ | refine WPc.exit ?_ | refine WPc.skip ?_ | refine WPc.region ?_
       | (refine isCond ?_; first | refine WPc.cT ?_ | refine WPc.cF ?_ | (refine WPc.cQ (fun hc => ?_) (fun hc => ?_) <;> try first | exact prA | (exfalso; first | omega)))
       | (refine isD 12 ?_; refine WPl.rdX (ReadR.loadO memA rfl rfl) ?_)
       | (refine isD 20 ?_; refine WPl.rdX (ReadR.loadO memA rfl rfl) ?_)
       | (refine isD 22 ?_; refine WPl.rdX (ReadR.indexE1 (i := q) rfl rfl hasA hlt) ?_)
       | (refine isD 23 ?_; refine WPl.rdX (ReadR.loadE rfl hasA ha) ?_)
       | (refine isD 25 ?_; refine WPl.rdX (ReadR.binE rfl rfl BinR.eql (congrArg Value.bool (decide_eq_false hzi))) ?_)
       | (refine isOp ?_; first | refine WPl.rd ?_ | refine WPl.sk ?_ | refine WPl.rdB ?_)
       | (show WPl _ _ _ _ _ _ _ (⟨_, .indexAddr _ _ _, _, _, _, _⟩ :: _) _; refine WPl.rdX (ReadR.indexE rfl rfl hasA (by first | assumption | omega)) ?_)
       | (show WPl _ _ _ _ _ _ _ (⟨_, .fieldAddr _ _ _, _, _, _, _⟩ :: _) _; refine WPl.rdX (ReadR.fieldE rfl hasA (by first | assumption | omega)) ?_)
       | (show WPl _ _ _ _ _ _ _ (⟨_, .load _ _, _, _, _, _⟩ :: _) _; first | refine WPl.rdX (ReadR.loadE rfl hasA (by assumption)) ?_ | refine WPl.rdX (ReadR.loadES (by assumption) (by first | assumption | omega) rfl hasA) ?_)
       | (show WPl _ _ _ _ _ _ _ (⟨_, .slice _ _ _ _ _, _, _, _, _⟩ :: _) _; first | refine WPl.rdX (ReadR.sliceH rfl rfl hasA (by omega)) ?_ | refine WPl.rdX (ReadR.sliceL rfl rfl hasA (by omega)) ?_ | refine WPl.rdX (ReadR.sliceLH rfl rfl rfl hasA (by omega) (by omega)) ?_)
       | (refine WPl.spQ (fun hc => ?_) (fun hc => ?_) <;> try first | exact prA | (exfalso; first | omega))
       | fail)
      rw [← hnx]
      exact WPq.rnd (q + 1, vo) ⟨hlt, hvo⟩ (by dsimp only; omega)
  · have hil : R.Z.take q = R.Z := List.take_of_length_le (by omega)
    rw [hil]
    repeat' (first
     | refine WPl.nil ?_ | refine WPq.then ?_ | refine WPq.thenR ?_ | refine WPq.thenE ?_ | refine WPq.blockN ?_ | refine WPq.blockR ?_ | refine WPq.blockE ?_ | refine WPq.blockO rfl ?_ | refine WPc.seq ?_ | refine WPc.block ?_ | refine WPc.ret ?_ | refine WPc.exit ?_ | refine WPc.skip ?_ | refine WPc.region ?_
     | (refine isCond ?_; first | refine WPc.cT ?_ | refine WPc.cF ?_ | (refine WPc.cQ (fun hc => ?_) (fun hc => ?_) <;> try first | exact prA | (exfalso; first | omega)))
     | (refine isD 12 ?_; refine WPl.rdX (ReadR.loadO memA rfl rfl) ?_)
     | (refine isOp ?_; first | refine WPl.rd ?_ | refine WPl.sk ?_ | refine WPl.rdB ?_)
     | (show WPl _ _ _ _ _ _ _ (⟨_, .indexAddr _ _ _, _, _, _, _⟩ :: _) _; refine WPl.rdX (ReadR.indexE rfl rfl hasA (by first | assumption | omega)) ?_)
     | (show WPl _ _ _ _ _ _ _ (⟨_, .fieldAddr _ _ _, _, _, _, _⟩ :: _) _; refine WPl.rdX (ReadR.fieldE rfl hasA (by first | assumption | omega)) ?_)
     | (show WPl _ _ _ _ _ _ _ (⟨_, .load _ _, _, _, _, _⟩ :: _) _; first | refine WPl.rdX (ReadR.loadE rfl hasA (by assumption)) ?_ | refine WPl.rdX (ReadR.loadES (by assumption) (by first | assumption | omega) rfl hasA) ?_)
     | (show WPl _ _ _ _ _ _ _ (⟨_, .slice _ _ _ _ _, _, _, _, _⟩ :: _) _; first | refine WPl.rdX (ReadR.sliceH rfl rfl hasA (by omega)) ?_ | refine WPl.rdX (ReadR.sliceL rfl rfl hasA (by omega)) ?_ | refine WPl.rdX (ReadR.sliceLH rfl rfl rfl hasA (by omega) (by omega)) ?_)
     | (refine WPl.spQ (fun hc => ?_) (fun hc => ?_) <;> try first | exact prA | (exfalso; first | omega))
     | fail)
    exact WPq.dR
theorem rnow_t (j : Nat) (h : RInv n k R) (hk0 : k ≤ 100000) (hn : n ≤ 100000) (hj : j < n) : Triple Try.prog 27 #[hD gX, .int .i64 (j : Int)] [rbx gX 51 (rdc R.vL R.vA R.vB R.fu R.wr), rdN R.vL R.L.length (valsV R.L), rdN R.vA R.Z.length (intsV (zAt R.Z)), rdN R.vB R.Z.length (valsV (zB R.Z))] (RVal (nowR R j).1) := by
  have c8 := rvers_t gX n k R (j : Int) h hk0
  have hnl := h.nl
  have hvl := vers_len (Z := R.Z) (i := (j : Int))
  have hlz := h.lz
  by_cases hv : (vers R.Z (j : Int)).length > 0
  · obtain ⟨q, hq⟩ : ∃ q, (vers R.Z (j : Int)).length = q + 1 := ⟨(vers R.Z (j : Int)).length - 1, by omega⟩
    have hx : (vers R.Z (j : Int))[q]? = some (nowR R j) := by
      unfold nowR
      rw [List.getLastD_eq_getLast?, List.getLast?_eq_getElem?, hq, Nat.add_sub_cancel, List.getElem?_eq_getElem (by omega)]
      rfl
    have hxv := valsV_at hx
    have hqi : ((vers R.Z (j : Int)).length : Int) - 1 = (q : Int) := by omega
    have hql : q < (vers R.Z (j : Int)).length := by omega
    have hgt : ((vers R.Z (j : Int)).length : Int) > 0 := by omega
    refine Triple.enter Try.func27 rfl Try.ntmps27 rfl (fun W => ?_)
    dsimp only [argsF, Nat.reduceAdd]
    repeat' (first
     | refine WPl.nil ?_ | refine WPq.then ?_ | refine WPq.thenR ?_ | refine WPq.thenE ?_ | refine WPq.blockN ?_ | refine WPq.blockR ?_ | refine WPq.blockE ?_ | refine WPq.blockO rfl ?_ | refine WPc.seq ?_ | refine WPc.block ?_ | refine WPc.ret ?_ | refine WPc.exit ?_ | refine WPc.skip ?_ | refine WPc.region ?_
     | (refine isCond ?_; first | refine WPc.cT ?_ | refine WPc.cF ?_ | (refine WPc.cQ (fun hc => ?_) (fun hc => ?_) <;> try exact prA))
     | (refine isC 8 ?_; refine WPl.cR c8 (fun v8 hv8 => ?_) (hΔ := provsW))
     | (refine isD 11 ?_; refine WPl.rdX (ReadR.binE rfl rfl BinR.gtr (congrArg Value.bool (decide_eq_true hgt))) ?_)
     | (refine isD 15 ?_; refine WPl.rdX (ReadR.binE rfl rfl (BinR.subI (by omega) (by omega)) (congrArg (Value.int .i64) hqi)) ?_)
     | (refine isD 16 ?_; refine WPl.rdX (ReadR.indexE1 (i := q) rfl rfl hasA hql) ?_)
     | (refine isD 17 ?_; refine WPl.rdX (ReadR.loadE rfl hasA hxv) ?_)
     | (refine isOp ?_; first | refine WPl.rd ?_ | refine WPl.sk ?_ | refine WPl.rdB ?_)
     | (show WPl _ _ _ _ _ _ _ (⟨_, .indexAddr _ _ _, _, _, _, _⟩ :: _) _; refine WPl.rdX (ReadR.indexE rfl rfl hasA (by first | assumption | omega)) ?_)
     | (show WPl _ _ _ _ _ _ _ (⟨_, .fieldAddr _ _ _, _, _, _, _⟩ :: _) _; refine WPl.rdX (ReadR.fieldE rfl hasA (by first | assumption | omega)) ?_)
     | (show WPl _ _ _ _ _ _ _ (⟨_, .load _ _, _, _, _, _⟩ :: _) _; first | refine WPl.rdX (ReadR.loadE rfl hasA (by assumption)) ?_ | refine WPl.rdX (ReadR.loadES (by assumption) (by first | assumption | omega) rfl hasA) ?_)
     | (show WPl _ _ _ _ _ _ _ (⟨_, .slice _ _ _ _ _, _, _, _, _⟩ :: _) _; first | refine WPl.rdX (ReadR.sliceH rfl rfl hasA (by omega)) ?_ | refine WPl.rdX (ReadR.sliceL rfl rfl hasA (by omega)) ?_ | refine WPl.rdX (ReadR.sliceLH rfl rfl rfl hasA (by omega) (by omega)) ?_)
     | (refine WPl.spQ (fun hc => ?_) (fun hc => ?_) <;> try exact prA)
     | fail)
    exact WPq.dV
  · have hjl : j < R.L.length := by omega
    have hx : R.L[j]? = some (nowR R j) := by
      unfold nowR
      rw [List.length_eq_zero_iff.1 (show (vers R.Z (j : Int)).length = 0 by omega), List.getLastD_nil, List.getD_eq_getElem?_getD, List.getElem?_eq_getElem hjl]
      rfl
    have hxv := valsV_at hx
    have hgt : ¬ ((vers R.Z (j : Int)).length : Int) > 0 := by omega
    refine Triple.enter Try.func27 rfl Try.ntmps27 rfl (fun W => ?_)
    dsimp only [argsF, Nat.reduceAdd]
    repeat' (first
     | refine WPl.nil ?_ | refine WPq.then ?_ | refine WPq.thenR ?_ | refine WPq.thenE ?_ | refine WPq.blockN ?_ | refine WPq.blockR ?_ | refine WPq.blockE ?_ | refine WPq.blockO rfl ?_ | refine WPc.seq ?_ | refine WPc.block ?_ | refine WPc.ret ?_ | refine WPc.exit ?_ | refine WPc.skip ?_ | refine WPc.region ?_
     | (refine isCond ?_; first | refine WPc.cT ?_ | refine WPc.cF ?_ | (refine WPc.cQ (fun hc => ?_) (fun hc => ?_) <;> try exact prA))
     | (refine isC 8 ?_; refine WPl.cR c8 (fun v8 hv8 => ?_) (hΔ := provsW))
     | (refine isD 11 ?_; refine WPl.rdX (ReadR.binE rfl rfl BinR.gtr (congrArg Value.bool (decide_eq_false hgt))) ?_)
     | (refine isD 21 ?_; refine WPl.rdX (ReadR.loadO memA rfl rfl) ?_)
     | (refine isD 23 ?_; refine WPl.rdX (ReadR.indexE1 (i := j) rfl rfl hasA hjl) ?_)
     | (refine isD 24 ?_; refine WPl.rdX (ReadR.loadE rfl hasA hxv) ?_)
     | (refine isOp ?_; first | refine WPl.rd ?_ | refine WPl.sk ?_ | refine WPl.rdB ?_)
     | (show WPl _ _ _ _ _ _ _ (⟨_, .indexAddr _ _ _, _, _, _, _⟩ :: _) _; refine WPl.rdX (ReadR.indexE rfl rfl hasA (by first | assumption | omega)) ?_)
     | (show WPl _ _ _ _ _ _ _ (⟨_, .fieldAddr _ _ _, _, _, _, _⟩ :: _) _; refine WPl.rdX (ReadR.fieldE rfl hasA (by first | assumption | omega)) ?_)
     | (show WPl _ _ _ _ _ _ _ (⟨_, .load _ _, _, _, _, _⟩ :: _) _; first | refine WPl.rdX (ReadR.loadE rfl hasA (by assumption)) ?_ | refine WPl.rdX (ReadR.loadES (by assumption) (by first | assumption | omega) rfl hasA) ?_)
     | (show WPl _ _ _ _ _ _ _ (⟨_, .slice _ _ _ _ _, _, _, _, _⟩ :: _) _; first | refine WPl.rdX (ReadR.sliceH rfl rfl hasA (by omega)) ?_ | refine WPl.rdX (ReadR.sliceL rfl rfl hasA (by omega)) ?_ | refine WPl.rdX (ReadR.sliceLH rfl rfl rfl hasA (by omega) (by omega)) ?_)
     | (refine WPl.spQ (fun hc => ?_) (fun hc => ?_) <;> try exact prA)
     | fail)
    exact WPq.dV
theorem rhas_t (i : Int) (hn : R.L.length ≤ 1000000) : Triple Try.prog 70 #[hD gX, .int .i64 i] [rbx gX 51 (rdc R.vL R.vA R.vB R.fu R.wr), rdN R.vL R.L.length (valsV R.L)] (RVal (.bool (decide (0 ≤ i) && decide (i < (R.L.length : Int))))) := by
  by_cases h0 : i ≥ 0
  · have h0' : 0 ≤ i := h0
    refine Triple.enter Try.func70 rfl Try.ntmps70 rfl (fun W => ?_)
    dsimp only [argsF, Nat.reduceAdd]
    repeat' (first
     | refine WPl.nil ?_ | refine WPq.then ?_ | refine WPq.thenR ?_ | refine WPq.thenE ?_ | refine WPq.blockN ?_ | refine WPq.blockR ?_ | refine WPq.blockE ?_ | refine WPq.blockO rfl ?_ | refine WPc.seq ?_ | refine WPc.block ?_ | refine WPc.ret ?_ | refine WPc.exit ?_ | refine WPc.skip ?_ | refine WPc.region ?_
     | (refine isCond ?_; first | refine WPc.cT ?_ | refine WPc.cF ?_ | (refine WPc.cQ (fun hc => ?_) (fun hc => ?_) <;> try exact prA))
     | (refine isD 6 ?_; refine WPl.rdX (ReadR.binE rfl rfl BinR.geq (congrArg Value.bool (decide_eq_true h0))) ?_)
     | (refine isD 12 ?_; refine WPl.rdX (ReadR.loadO memA rfl rfl) ?_)
     | (refine isOp ?_; first | refine WPl.rd ?_ | refine WPl.sk ?_ | refine WPl.rdB ?_)
     | (show WPl _ _ _ _ _ _ _ (⟨_, .indexAddr _ _ _, _, _, _, _⟩ :: _) _; refine WPl.rdX (ReadR.indexE rfl rfl hasA (by first | assumption | omega)) ?_)
     | (show WPl _ _ _ _ _ _ _ (⟨_, .fieldAddr _ _ _, _, _, _, _⟩ :: _) _; refine WPl.rdX (ReadR.fieldE rfl hasA (by first | assumption | omega)) ?_)
     | (show WPl _ _ _ _ _ _ _ (⟨_, .load _ _, _, _, _, _⟩ :: _) _; first | refine WPl.rdX (ReadR.loadE rfl hasA (by assumption)) ?_ | refine WPl.rdX (ReadR.loadES (by assumption) (by first | assumption | omega) rfl hasA) ?_)
     | (show WPl _ _ _ _ _ _ _ (⟨_, .slice _ _ _ _ _, _, _, _, _⟩ :: _) _; first | refine WPl.rdX (ReadR.sliceH rfl rfl hasA (by omega)) ?_ | refine WPl.rdX (ReadR.sliceL rfl rfl hasA (by omega)) ?_ | refine WPl.rdX (ReadR.sliceLH rfl rfl rfl hasA (by omega) (by omega)) ?_)
     | (refine WPl.spQ (fun hc => ?_) (fun hc => ?_) <;> try exact prA)
     | fail)
    exact WPq.dV (hc := by simp [resV, h0'])
  · have h0' : ¬ 0 ≤ i := h0
    refine Triple.enter Try.func70 rfl Try.ntmps70 rfl (fun W => ?_)
    dsimp only [argsF, Nat.reduceAdd]
    repeat' (first
     | refine WPl.nil ?_ | refine WPq.then ?_ | refine WPq.thenR ?_ | refine WPq.thenE ?_ | refine WPq.blockN ?_ | refine WPq.blockR ?_ | refine WPq.blockE ?_ | refine WPq.blockO rfl ?_ | refine WPc.seq ?_ | refine WPc.block ?_ | refine WPc.ret ?_ | refine WPc.exit ?_ | refine WPc.skip ?_ | refine WPc.region ?_
     | (refine isCond ?_; first | refine WPc.cT ?_ | refine WPc.cF ?_ | (refine WPc.cQ (fun hc => ?_) (fun hc => ?_) <;> try exact prA))
     | (refine isD 6 ?_; refine WPl.rdX (ReadR.binE rfl rfl BinR.geq (congrArg Value.bool (decide_eq_false h0))) ?_)
     | (refine isOp ?_; first | refine WPl.rd ?_ | refine WPl.sk ?_ | refine WPl.rdB ?_)
     | (show WPl _ _ _ _ _ _ _ (⟨_, .indexAddr _ _ _, _, _, _, _⟩ :: _) _; refine WPl.rdX (ReadR.indexE rfl rfl hasA (by first | assumption | omega)) ?_)
     | (show WPl _ _ _ _ _ _ _ (⟨_, .fieldAddr _ _ _, _, _, _, _⟩ :: _) _; refine WPl.rdX (ReadR.fieldE rfl hasA (by first | assumption | omega)) ?_)
     | (show WPl _ _ _ _ _ _ _ (⟨_, .load _ _, _, _, _, _⟩ :: _) _; first | refine WPl.rdX (ReadR.loadE rfl hasA (by assumption)) ?_ | refine WPl.rdX (ReadR.loadES (by assumption) (by first | assumption | omega) rfl hasA) ?_)
     | (show WPl _ _ _ _ _ _ _ (⟨_, .slice _ _ _ _ _, _, _, _, _⟩ :: _) _; first | refine WPl.rdX (ReadR.sliceH rfl rfl hasA (by omega)) ?_ | refine WPl.rdX (ReadR.sliceL rfl rfl hasA (by omega)) ?_ | refine WPl.rdX (ReadR.sliceLH rfl rfl rfl hasA (by omega) (by omega)) ?_)
     | (refine WPl.spQ (fun hc => ?_) (fun hc => ?_) <;> try exact prA)
     | fail)
    exact WPq.dV (hc := by simp [resV, h0'])
end
end Go.Proofs.Ytepmikgjnmjheaa
/- Reference of layer 3 (dev): its calls, told by the same plain functions as the program's. -/
namespace Go.Proofs.Ytepmikgjnmjheaa
open Go.RowKit
set_option linter.unusedSimpArgs false
set_option linter.unusedVariables false
theorem WPq.nilRowN {n : Nat} {W : World} {S : Nat → Prop} {Γ : List Asn} {F : List (Nat × Value)} {Q : Exit → Act → World → Prop} {e : Exit} (ety : TypeId) (sz : Nat) (h : WPq n W S (rowN ety sz (.slice none 0 0) 0 [] :: Γ) F Q e) : WPq n W S Γ F Q e := fun a w hf hg =>
  h a w hf ⟨hg.mod, fun A hA => by
      rcases List.mem_cons.1 hA with rfl | hA
      · exact World.ownsRow_nil w 0 ety sz
      · exact hg.all A hA,
    List.pairwise_cons.2 ⟨fun B _ _ g hg' _ => (by cases (show (none : Option Nat) = some g from hg')), hg.apart⟩, fun A hA ho g hg' => by
      rcases List.mem_cons.1 hA with rfl | hA
      · exact (by cases (show (none : Option Nat) = some g from hg'))
      · exact hg.mine A hA ho g hg'⟩
section
variable {P : Program} {n : Nat} {Γ : List Asn} {F : List (Nat × Value)} {d : Option Tmp} {ty : TypeId} {pos : String} {af : Array Edge} {gd : Option (Nat × Bool)}
def setsV (l : List Value) : List (Nat × Value) → List Value
  | [] => l
  | (i, v) :: qs => setsV (l.set i v) qs
def evVs (F : List (Nat × Value)) (m : Nat) : List (Nat × Operand) → List (Nat × Value) → Prop
  | [], [] => True
  | (j, x) :: ps, (i, v) :: qs => Nat.beq i j = true ∧ Nat.blt i m = true ∧ evF F x = some v ∧ v.oneCell' = true ∧ evVs F m ps qs
  | _, _ => False
theorem evVs.nil {m : Nat} : evVs F m [] [] := trivial
theorem evVs.cons {m j : Nat} {x : Operand} {ps : List (Nat × Operand)} {v : Value} {qs : List (Nat × Value)} (h0 : Nat.blt j m = true) (h2 : evF F x = some v) (h3 : v.oneCell' = true) (k : evVs F m ps qs) : evVs F m ((j, x) :: ps) ((j, v) :: qs) := ⟨Nat.beq_refl j, h0, h2, h3, k⟩
theorem fill_arrV {a : Act} {m : Nat} (hf : Fr n F a) : ∀ (ps : List (Nat × Operand)) (qs : List (Nat × Value)) (l : List Value), evVs F m ps qs → l.length = m →
    Instr.fill (fun i => some (i * 1, 1)) l.toArray (ps.map fun q => (q.1, a.eval q.2)) = some (setsV l qs).toArray ∧ (setsV l qs).length = m
  | [], [], l, _, h => by simp [Instr.fill, setsV, h]
  | (j, x) :: ps, (i, v) :: qs, l, h, hl => by
    obtain ⟨h1, h0, h2, h3, h5⟩ := h
    obtain rfl := beq_true h1
    have hlt : i < m := Nat.le_of_ble_eq_true h0
    have ih := fill_arrV hf ps qs (l.set i v) h5 (by simp [hl])
    refine ⟨?_, ih.2⟩
    have hc := cells_one (v := v) h3
    simp only [List.map_cons, hf.eval h2, Instr.fill, hc, Nat.mul_one]
    have hno : ¬ ((#[v] : Array Value).size ≠ 1 || decide (i + (#[v] : Array Value).size > l.toArray.size)) = true := by simp; omega
    rw [if_neg hno]
    have e2 : (((#[v] : Array Value).zipIdx).foldl (fun cs (c, j) => cs.setIfInBounds (i + j) c) l.toArray) = (l.set i v).toArray := by
      simp
    rw [e2]
    have ih1 := ih.1
    simp only [Nat.mul_one] at ih1
    exact ih1
  | [], _ :: _, _, h, _ => h.elim
  | _ :: _, [], _, h, _ => h.elim
theorem ReadR.buildArrV {T e : TypeId} {m : Nat} {zs : List Value} [hT : ArrI P T m e] [hz : ZeroI P T [(m, zs)]] [he : TyI P e false 1] {ps : List (Nat × Operand)} {qs : List (Nat × Value)} (h : evVs F m ps qs) (hl0 : zs.length = m := by rfl) :
    ReadR P n Γ F ⟨d, .build T ps.toArray, ty, pos, af, gd⟩ (ag [(m, setsV zs qs)]) := fun ρ w hf hw => by
  obtain ⟨z, h1, h2⟩ := hz.run w
  have h3 := (fill_arrV hf ps qs zs h hl0).1
  have hl : (ps.toArray.map fun (i, x) => (i, ρ.eval x)).toList = ps.map fun x => (x.1, ρ.eval x.2) := by simp
  simp only [flat, List.append_nil] at h2
  simp only [execOp, Instr.build, Sem.run_bind, h1, Result.andThen_ok, run_underlying hT.und, he.run_sizeOf, hl, h2, h3, Sem.run_pure, ag, flat, List.append_nil]
theorem ReadR.buildF4 {T e : TypeId} {zs : List Value} [hT : ArrI P T 4 e] [hz : ZeroI P T [(4, zs)]] [he : TyI P e false 1] {ps : List (Nat × Operand)} (h : evVs F 4 ps [(0, .int .i64 (-1)), (1, .int .i64 (-1)), (2, .int .i64 (-1)), (3, .int .i64 (-1))]) (hl0 : zs.length = 4 := by rfl) :
    ReadR P n Γ F ⟨d, .build T ps.toArray, ty, pos, af, gd⟩ (ag [(4, intsV f4)]) := by
  have := ReadR.buildArrV (P := P) (n := n) (Γ := Γ) (d := d) (ty := ty) (pos := pos) (af := af) (gd := gd) (T := T) (e := e) (m := 4) (zs := zs) h hl0
  match zs, hl0, this with
  | [_, _, _, _], _, this => exact this
end
open Go.RowKit
set_option linter.unusedSimpArgs false
set_option linter.unusedVariables false
set_option maxRecDepth 20000
set_option maxHeartbeats 4000000
attribute [local irreducible] WPc WPl WPq ReadR OpT BinR HasS bx rdN rowN Take Takes Prov Triple ResF BuildP Done ag Int.decLt Int.decLe Int.instDecidableEq
attribute [local irreducible] mp rmp rg rgo bag vrow secs mput mget mfind mdel intsV skeys vault pickG fburn fb1 valsV
def RfS.vw (R : RfS) : Dv := ⟨R.fu, R.L.map (·.2), fun j => (vers R.Z (j : Int)).map (·.2), R.wr⟩
def RRf (gX n k : Nat) (c : Value) (D : Dv) : Value → List Asn → Prop := fun v Γ => ∃ R, v = c ∧ R.vw = D ∧ RInv n k R ∧ Γ = rsA gX R
def RRnew (n : Nat) : Value → List Asn → Prop := fun v Γ => ∃ gX R, v = hD gX ∧ R.vw = ⟨f4, List.replicate n (secF 0), fun _ => [], 0⟩ ∧ RInv n 0 R ∧ Γ = rsA gX R
structure NOk (n : Nat) (st : Nat × List (Value × Sec) × Value) : Prop where
  v : st.2.2.oneCell' = true
  l : st.1 ≤ n
  e : st.2.1.length = st.1
  m : ∀ x ∈ st.2.1, x.2 = secF 0 ∧ x.1.oneCell' = true
theorem f4_ok : FOk [(4, intsV f4)] := FOk.seg (by rw [intsV_len]; rfl) (intsV_one f4) .nil
theorem rdc_ok {vL vA vB : Value} {fu : List Int} {wr : Int} (h1 : vL.oneCell' = true) (h2 : vA.oneCell' = true) (h3 : vB.oneCell' = true) (h4 : fu.length = 4) : FOk (rdc vL vA vB fu wr) := .one1 h1 (.one1 h2 (.one1 h3 (FOk.seg (by rw [intsV_len, h4]) (intsV_one fu) (.one1 rfl .nil))))
theorem rnew_t (n : Nat) (hn : n ≤ 100000) : Triple Try.prog 21 #[.int .i64 (n : Int)] [] (RRnew n) := by
  have e1 : rowN 31 1 (.slice none 0 0) 0 [] = rowN 31 1 (.slice none 0 0) 0 (valsV []) := by with_unfolding_all rfl
  have e2 : rowN 3 1 (.slice none 0 0) 0 [] = rowN 3 1 (.slice none 0 0) 0 (intsV (zAt [])) := by with_unfolding_all rfl
  refine Triple.enter Try.func21 rfl Try.ntmps21 rfl (fun W => ?_)
  dsimp only [argsF, Nat.reduceAdd]
  repeat' (first
   | refine WPl.nil ?_ | refine WPq.then ?_ | refine WPq.thenR ?_ | refine WPq.thenE ?_ | refine WPq.blockN ?_ | refine WPq.blockR ?_ | refine WPq.blockE ?_ | refine WPq.blockO rfl ?_ | refine WPc.seq ?_ | refine WPc.block ?_ | refine WPc.ret ?_ | refine WPc.exit ?_ | refine WPc.skip ?_ | refine WPc.region ?_
   | (refine isCond ?_; first | refine WPc.cT ?_ | refine WPc.cF ?_ | (refine WPc.cQ (fun hc => ?_) (fun hc => ?_) <;> try exact prA))
   | (refine isD 5 ?_; refine WPl.rdX (ReadR.buildF4 (.cons rfl rfl rfl (.cons rfl rfl rfl (.cons rfl rfl rfl (.cons rfl rfl rfl .nil))))) ?_)
   | (refine isD 6 ?_; refine WPl.rdX (ReadR.build (cs' := rdc (.slice none 0 0) (.slice none 0 0) (.slice none 0 0) f4 0) (.cons (off := 3) (sz := 4) (new := [(4, intsV f4)]) rfl rfl (.agg f4_ok) rfl rfl .nil)) ?_)
   | (refine isD 7 ?_; refine WPl.boxC (rdc (.slice none 0 0) (.slice none 0 0) (.slice none 0 0) f4 0) (rdc_ok rfl rfl rfl rfl) rfl (fun gX => ?_))
   | (refine isMk ?_; refine WPl.mk fun v hv => ?_)
   | (refine isOp ?_; first | refine WPl.rd ?_ | refine WPl.sk ?_ | refine WPl.rdB ?_)
   | (refine isBx ?_; refine WPl.nw fun g => ?_)
   | (refine isSt ?_; first | refine WPl.st1 ?_ | refine WPl.stA ?_ | refine WPl.stEB ?_ | refine WPl.stRB ?_)
   | (show WPl _ _ _ _ _ _ _ (⟨_, .indexAddr _ _ _, _, _, _, _⟩ :: _) _; refine WPl.rdX (ReadR.indexE rfl rfl hasA (by first | assumption | omega)) ?_)
   | (show WPl _ _ _ _ _ _ _ (⟨_, .fieldAddr _ _ _, _, _, _, _⟩ :: _) _; refine WPl.rdX (ReadR.fieldE rfl hasA (by first | assumption | omega)) ?_)
   | (show WPl _ _ _ _ _ _ _ (⟨_, .load _ _, _, _, _, _⟩ :: _) _; first | refine WPl.rdX (ReadR.loadE rfl hasA (by assumption)) ?_ | refine WPl.rdX (ReadR.loadES (by assumption) (by first | assumption | omega) rfl hasA) ?_)
   | (show WPl _ _ _ _ _ _ _ (⟨_, .slice _ _ _ _ _, _, _, _, _⟩ :: _) _; first | refine WPl.rdX (ReadR.sliceH rfl rfl hasA (by omega)) ?_ | refine WPl.rdX (ReadR.sliceL rfl rfl hasA (by omega)) ?_ | refine WPl.rdX (ReadR.sliceLH rfl rfl rfl hasA (by omega) (by omega)) ?_)
   | (refine WPl.spQ (fun hc => ?_) (fun hc => ?_) <;> try exact prA)
   | fail)
  refine WPc.vault0 ?_
  refine WPc.nilRowN 31 1 ?_
  rw [e1]
  first | refine WPc.loop (σ := Nat × List (Value × Sec) × Value) (fun st => NOk n st) (fun st => [bx gX 51 (rdc st.2.2 (.slice none 0 0) (.slice none 0 0) f4 0), rowN 31 1 st.2.2 st.1 (valsV st.2.1), vault st.2.1.reverse]) (fun st => [(0, .int .i64 (n : Int)), (3, hD gX), (4, .int .i64 (st.1 : Int))]) (fun st => n - st.1) ((0, [], .slice none 0 0)) ?_ takesA frsA (fun st km hx hk => ?_)
  · exact ⟨rfl, Nat.zero_le _, rfl, fun x hx => by cases hx⟩
  obtain ⟨i, L, vL⟩ := st
  obtain ⟨hv, hl, he, hm⟩ := hx
  dsimp only at hv hl he hm hk ⊢
  have hkm : km = n - i := hk
  clear hk
  by_cases hlt : i < n
  · have hlt' : (i : Int) < (n : Int) := by omega
    repeat' (first
     | refine WPl.nil ?_ | refine WPq.then ?_ | refine WPq.thenR ?_ | refine WPq.thenE ?_ | refine WPq.blockN ?_ | refine WPq.blockR ?_ | refine WPq.blockE ?_ | refine WPq.blockO rfl ?_ | refine WPc.seq ?_ | refine WPc.block ?_ | refine WPc.ret ?_ | refine WPc.exit ?_ | refine WPc.skip ?_ | refine WPc.region ?_
     | (refine isReg 5 ?_; refine WPc.drA [([11, 12], [14, 15, 16, 17, 18, 19, 20]), ([11, 12], [13, 18, 19]), ([1, 11, 12], [13, 14, 18, 19]), ([1, 2, 11, 12], [13, 14, 15, 18, 19]), ([1, 2, 3, 11, 12], [13, 14, 15, 16, 18, 19]), ([11, 12], [13, 14, 15, 16, 17]), ([5, 11, 12], [13, 14, 15, 16, 17, 18]), ([1, 2, 3, 4, 5, 6, 11, 12], [13, 14, 15, 16, 17, 18, 19]), ([0, 1, 2, 3, 4, 5, 6, 7, 11, 12], [13, 14, 15, 16, 17, 18, 19, 20]), ([0, 1, 2, 3, 4, 5, 6, 7, 8, 11, 12], [13, 14, 15, 16, 17, 18, 19, 20, 21]), ([0, 1, 2, 3, 4, 5, 6, 7, 8, 9, 11, 12], [13, 14, 15, 16, 17, 18, 19, 20, 21, 22])] [(12, 7), (11, 10), (12, 1), (12, 2), (12, 3), (12, 4), (12, 5), (12, 6), (11, 0), (11, 1), (11, 2), (11, 3), (11, 4), (11, 5), (11, 6), (11, 7), (11, 8), (11, 9)] (Γx := [bx gX 51 (rdc vL (.slice none 0 0) (.slice none 0 0) f4 0), rowN 31 1 vL i (valsV L)]) ?_; dsimp only [prev0, List.length_nil, List.length_cons])
     | (refine gAny ?_; first | (refine gD 20 ?_; refine RGl.row (Γ1 := fun e => [rowN 31 1 vL i ((valsV L))]) (m := fun e => i + 1) (xs := fun e => (valsV L) ++ [(e 5).1]) (fun e hk => by (try dsimp only [bndR, ensR, oksR, fcutR, List.append_nil, List.nil_append, List.cons_append, List.append_assoc] at hk ⊢); exact OpT.appendN (m := i) (m2 := 1) (xs := (valsV L)) (ys := [(e 5).1]) rfl rfl takesA (hasA) rfl (fun u hu => by rw [List.mem_singleton.1 hu]; (repeat (obtain ⟨hk1, hk⟩ := hk)) <;> assumption) (by omega)) ?_) | (refine gSt ?_; refine RGl.turn (fun e hk => by (try dsimp only [bndR, ensR, oksR, fcutR, List.append_nil, List.nil_append, List.cons_append, List.append_assoc] at hk ⊢); exact OpT.store1 rfl rfl takesA (by (repeat (obtain ⟨hk1, hk⟩ := hk)) <;> assumption) (by dsimp only [sel, takeCh, upd, dropCh, appCh, setAt, chAt, Option.map_some, List.cons_append, List.nil_append, Nat.reduceSub, Nat.reduceAdd] <;> exact rfl)) ?_) | (refine gOp ?_; first | refine RGl.rdA ?_ | refine RGl.rdX (fun e hk => by (try dsimp only [bndR, ensR, oksR, fcutR, List.append_nil, List.nil_append, List.cons_append, List.append_assoc] at hk ⊢); exact readB) ?_) | (refine gLit ?_; refine RGl.litA ?_) | (refine gApp ?_; refine RGl.appA ?_) | (refine gSt ?_; refine RGl.stA ?_) | (refine gMk ?_; refine RGl.mkA ?_) | (refine RGl.fin (fun e hk => ?_); (try dsimp only [bndA, ensAR, oksA, List.append_nil, List.nil_append, List.cons_append, List.append_assoc] at hk ⊢); (repeat (obtain ⟨hk1, hk⟩ := hk))) | fail)
     | (refine isCond ?_; first | refine WPc.cT ?_ | refine WPc.cF ?_ | (refine WPc.cQ (fun hc => ?_) (fun hc => ?_) <;> try first | exact prA | (exfalso; first | omega)))
     | (refine isMk ?_; refine WPl.mk fun v hv => ?_)
     | (refine isOp ?_; first | refine WPl.rd ?_ | refine WPl.sk ?_ | refine WPl.rdB ?_)
     | (refine isBx ?_; refine WPl.nw fun g => ?_)
     | (refine isSt ?_; first | refine WPl.st1 ?_ | refine WPl.stA ?_ | refine WPl.stEB ?_ | refine WPl.stRB ?_)
     | (show WPl _ _ _ _ _ _ _ (⟨_, .indexAddr _ _ _, _, _, _, _⟩ :: _) _; refine WPl.rdX (ReadR.indexE rfl rfl hasA (by first | assumption | omega)) ?_)
     | (show WPl _ _ _ _ _ _ _ (⟨_, .fieldAddr _ _ _, _, _, _, _⟩ :: _) _; refine WPl.rdX (ReadR.fieldE rfl hasA (by first | assumption | omega)) ?_)
     | (show WPl _ _ _ _ _ _ _ (⟨_, .load _ _, _, _, _, _⟩ :: _) _; first | refine WPl.rdX (ReadR.loadE rfl hasA (by assumption)) ?_ | refine WPl.rdX (ReadR.loadES (by assumption) (by first | assumption | omega) rfl hasA) ?_)
     | (show WPl _ _ _ _ _ _ _ (⟨_, .slice _ _ _ _ _, _, _, _, _⟩ :: _) _; first | refine WPl.rdX (ReadR.sliceH rfl rfl hasA (by omega)) ?_ | refine WPl.rdX (ReadR.sliceL rfl rfl hasA (by omega)) ?_ | refine WPl.rdX (ReadR.sliceLH rfl rfl rfl hasA (by omega) (by omega)) ?_)
     | (refine WPl.spQ (fun hc => ?_) (fun hc => ?_) <;> try first | exact prA | (exfalso; first | omega))
     | fail)
    dsimp only [Nat.reduceAdd] at *
    have h5 : (e 5).1.oneCell' = true := by assumption
    have h7 : (e 7).1.oneCell' = true := by assumption
    refine WPq.vaultIn (A := ob (e 5).1 (secF 0).b) (v := (e 5).1) (s := secF 0) .ob ?_
    rw [show valsV L ++ [(e 5).1] = valsV (L ++ [((e 5).1, secF 0)]) by with_unfolding_all (unfold valsV; rw [List.map_append]; rfl), show ((e 5).1, secF 0) :: L.reverse = (L ++ [((e 5).1, secF 0)]).reverse by rw [List.reverse_append]; rfl]
    refine WPq.rnd (i + 1, L ++ [((e 5).1, secF 0)], (e 7).1) ⟨h7, hlt, by rw [List.length_append, he]; rfl, fun x hx => ?_⟩ (by dsimp only; omega)
    rcases List.mem_append.1 hx with hx | hx
    · exact hm x hx
    · rw [List.mem_singleton.1 hx]; exact ⟨rfl, h5⟩
  · have hin : i = n := by omega
    subst hin
    repeat' (first
     | refine WPl.nil ?_ | refine WPq.then ?_ | refine WPq.thenR ?_ | refine WPq.thenE ?_ | refine WPq.blockN ?_ | refine WPq.blockR ?_ | refine WPq.blockE ?_ | refine WPq.blockO rfl ?_ | refine WPc.seq ?_ | refine WPc.block ?_ | refine WPc.ret ?_ | refine WPc.exit ?_ | refine WPc.skip ?_ | refine WPc.region ?_
     | (refine isCond ?_; first | refine WPc.cT ?_ | refine WPc.cF ?_ | (refine WPc.cQ (fun hc => ?_) (fun hc => ?_) <;> try first | exact prA | (exfalso; first | omega)))
     | (refine isMk ?_; refine WPl.mk fun v hv => ?_)
     | (refine isOp ?_; first | refine WPl.rd ?_ | refine WPl.sk ?_ | refine WPl.rdB ?_)
     | (refine isBx ?_; refine WPl.nw fun g => ?_)
     | (refine isSt ?_; first | refine WPl.st1 ?_ | refine WPl.stA ?_ | refine WPl.stEB ?_ | refine WPl.stRB ?_)
     | (show WPl _ _ _ _ _ _ _ (⟨_, .indexAddr _ _ _, _, _, _, _⟩ :: _) _; refine WPl.rdX (ReadR.indexE rfl rfl hasA (by first | assumption | omega)) ?_)
     | (show WPl _ _ _ _ _ _ _ (⟨_, .fieldAddr _ _ _, _, _, _, _⟩ :: _) _; refine WPl.rdX (ReadR.fieldE rfl hasA (by first | assumption | omega)) ?_)
     | (show WPl _ _ _ _ _ _ _ (⟨_, .load _ _, _, _, _, _⟩ :: _) _; first | refine WPl.rdX (ReadR.loadE rfl hasA (by assumption)) ?_ | refine WPl.rdX (ReadR.loadES (by assumption) (by first | assumption | omega) rfl hasA) ?_)
     | (show WPl _ _ _ _ _ _ _ (⟨_, .slice _ _ _ _ _, _, _, _, _⟩ :: _) _; first | refine WPl.rdX (ReadR.sliceH rfl rfl hasA (by omega)) ?_ | refine WPl.rdX (ReadR.sliceL rfl rfl hasA (by omega)) ?_ | refine WPl.rdX (ReadR.sliceLH rfl rfl rfl hasA (by omega) (by omega)) ?_)
     | (refine WPl.spQ (fun hc => ?_) (fun hc => ?_) <;> try first | exact prA | (exfalso; first | omega))
     | fail)
    refine WPq.nilRowN 3 1 ?_
    refine WPq.nilRowN 31 1 ?_
    rw [e2, e1]
    subst he
    refine WPq.dX (ho := ownsW) (vs := [hD gX]) (rsA gX ⟨vL, L, .slice none 0 0, .slice none 0 0, [], f4, 0, L.reverse⟩) ⟨gX, _, rfl, ?_, ⟨⟨hv, rfl, rfl⟩, rfl, f4_in, rfl, Nat.le_refl _, fun z hz => (by cases hz), fun x hx => ⟨List.mem_reverse.2 hx, (hm x hx).2⟩, fun z hz => (by cases hz), by show (0:Int) ≤ 0; omega, by show (0 : Int) ≤ 0; omega⟩, rfl⟩
    show Dv.mk f4 (L.map (·.2)) _ 0 = _
    rw [show L.map (·.2) = List.replicate L.length (secF 0) from ?_]
    · rfl
    · exact List.eq_replicate_iff.2 ⟨by rw [List.length_map], fun s hs => by
        obtain ⟨x, hx, rfl⟩ := List.mem_map.1 hs
        exact (hm x hx).1⟩
end Go.Proofs.Ytepmikgjnmjheaa
/- Reference of layer 3 (dev): Read, Write, Fail. -/
namespace Go.Proofs.Ytepmikgjnmjheaa
open Go.RowKit
set_option linter.unusedSimpArgs false
set_option linter.unusedVariables false
set_option maxRecDepth 20000
set_option maxHeartbeats 4000000
attribute [local irreducible] WPc WPl WPq ReadR OpT BinR HasS bx rdN rowN Take Takes Prov Triple ResF BuildP Done ag Int.decLt Int.decLe Int.instDecidableEq
attribute [local irreducible] mp rmp rg rgo bag vrow secs mput mget mfind mdel intsV skeys vault pickG fburn fb1 valsV zAt zB vers
theorem vers_app {Z : Zl} {i : Int} {z : Int × (Value × Sec)} : vers (Z ++ [z]) i = vers Z i ++ if z.1 = i then [z.2] else [] := by
  have h := vers_next (Z := Z ++ [z]) (i := i) (k := Z.length) (z := z) (by simp)
  rw [List.take_of_length_le (by simp), List.take_left] at h
  exact h
theorem RInv.burn {n k : Nat} {R : RfS} (h : RInv n k R) {j : Nat} (hj : j < 4) : RInv n k { R with fu := fburn R.fu j (R.fu.getD j 0) } := by
  refine ⟨h.one, by rw [fburn_len]; exact h.f4, fun i hi => ?_, h.nl, h.lz, h.at', h.inL, h.inZ, h.w0, h.w1⟩
  have := set_in (k := j) h.fb h.f4 (fb1_in (h.fb j hj).1 (h.fb j hj).2) i hi
  with_unfolding_all exact this
theorem RInv.mono {n k k' : Nat} {R : RfS} (h : RInv n k R) (hk : k ≤ k') : RInv n k' R := ⟨h.one, h.f4, h.fb, h.nl, Nat.le_trans h.lz hk, h.at', h.inL, h.inZ, h.w0, by have := h.w1; omega⟩
section
variable (gX : Nat) (n k : Nat) (R : RfS)
/-- As RRf; and nothing that was held is gone. -/
def RRk (gX n k : Nat) (c : Value) (D : Dv) (rs0 : List (Value × Sec)) : Value → List Asn → Prop := fun v Γ => ∃ R, v = c ∧ R.vw = D ∧ RInv n k R ∧ (∀ r ∈ rs0, r ∈ R.rs) ∧ Γ = rsA gX R
def RRfrK (gX n k : Nat) (er : Int) (x : Sec) (D : Dv) (rs0 : List (Value × Sec)) : Value → List Asn → Prop := fun v Γ => ∃ R c, v = .tuple #[c, .int .i64 er] ∧ c.oneCell' = true ∧ (c, x) ∈ R.rs ∧ R.vw = D ∧ RInv n k R ∧ (∀ r ∈ rs0, r ∈ R.rs) ∧ Γ = rsA gX R
def RRfeK (gX n k : Nat) (er : Int) (D : Dv) (rs0 : List (Value × Sec)) : Value → List Asn → Prop := fun v Γ => ∃ R c, v = .tuple #[c, .int .i64 er] ∧ c.oneCell' = true ∧ R.vw = D ∧ RInv n k R ∧ (∀ r ∈ rs0, r ∈ R.rs) ∧ Γ = ob c [] :: rsA gX R
def RRfr (gX n k : Nat) (er : Int) (x : Sec) (D : Dv) : Value → List Asn → Prop := fun v Γ => ∃ R c, v = .tuple #[c, .int .i64 er] ∧ c.oneCell' = true ∧ (c, x) ∈ R.rs ∧ R.vw = D ∧ RInv n k R ∧ Γ = rsA gX R
def RRfe (gX n k : Nat) (er : Int) (D : Dv) : Value → List Asn → Prop := fun v Γ => ∃ R c, v = .tuple #[c, .int .i64 er] ∧ c.oneCell' = true ∧ R.vw = D ∧ RInv n k R ∧ Γ = ob c [] :: rsA gX R
theorem nowR_vw (h : RInv n k R) (j : Nat) (hj : j < n) : (nowR R j).2 = R.vw.now j := by
  show _ = ((vers R.Z (j : Int)).map (·.2)).getLastD ((R.L.map (·.2)).getD j (secF 0))
  unfold nowR
  rw [List.getLastD_eq_getLast?, List.getLastD_eq_getLast?, List.getLast?_map]
  cases (vers R.Z (j : Int)).getLast? with
  | some x => rfl
  | none =>
    have hl : j < R.L.length := by rw [h.nl]; exact hj
    show (R.L.getD j _).2 = (R.L.map (·.2)).getD j (secF 0)
    rw [List.getD_eq_getElem?_getD, List.getD_eq_getElem?_getD, List.getElem?_map, List.getElem?_eq_getElem hl]; rfl
theorem rrdK_t (j : Nat) (h : RInv n k R) (hn : n ≤ 100000) (hkb : k ≤ 100000) (hj : j < n) (h0 : R.vw.fails 1 = false) :
    Triple Try.prog 49 #[hD gX, .int .i64 (j : Int)] (rsA gX R) (RRfrK gX n k 0 (R.vw.now j) (R.vw.burn 1) R.rs) := by
  have hnl := h.nl
  have h2 := h.fb 1 (by omega)
  have hg := getD_some (fu := R.fu) (k := 1) (by rw [h.f4]; omega)
  have c8 := rhas_t gX R (j : Int) (by omega)
  rw [show (decide (0 ≤ (j : Int)) && decide ((j : Int) < (R.L.length : Int))) = true by rw [decide_eq_true (by omega), decide_eq_true (by omega)]; rfl] at c8
  have c12 := rburns_t gX R 1 (R.fu.getD 1 0) h.f4 (by omega) hg h2.1 h2.2
  rw [show decide (R.fu.getD 1 0 = 0) = false from h0] at c12
  obtain ⟨fu', hfu'⟩ : ∃ fu', fu' = fburn R.fu 1 (R.fu.getD 1 0) := ⟨_, rfl⟩
  rw [← hfu'] at c12
  have hb := h.burn (j := 1) (by omega)
  rw [← hfu'] at hb
  have c16 := rnow_t gX n k { R with fu := fu' } j hb hkb hn hj
  rw [← nowR_vw n k R h j hj]
  have hin := h.now hj
  obtain ⟨x, hx⟩ : ∃ x, x = nowR R j := ⟨_, rfl⟩
  rw [show nowR { R with fu := fu' } j = x from hx.symm] at c16
  rw [← hx] at hin ⊢
  refine Triple.enter Try.func49 rfl Try.ntmps49 rfl (fun W => ?_)
  dsimp only [argsF, Nat.reduceAdd]
  repeat' (first
   | refine WPl.nil ?_ | refine WPq.then ?_ | refine WPq.thenR ?_ | refine WPq.thenE ?_ | refine WPq.blockN ?_ | refine WPq.blockR ?_ | refine WPq.blockE ?_ | refine WPq.blockO rfl ?_ | refine WPc.seq ?_ | refine WPc.block ?_ | refine WPc.ret ?_ | refine WPc.exit ?_ | refine WPc.skip ?_ | refine WPc.region ?_
   | (refine isCond ?_; first | refine WPc.cT ?_ | refine WPc.cF ?_ | (refine WPc.cQ (fun hc => ?_) (fun hc => ?_) <;> try exact prA))
   | (refine isC 8 ?_; refine WPl.cV c8 ?_ (hΔ := provsW))
   | (refine isC 12 ?_; refine WPl.cTs (c12) ?_; (try dsimp only [putF, List.cons_append, List.nil_append]))
   | (refine isC 16 ?_; refine WPl.cV c16 ?_ (hΔ := provsW))
   | (refine isOp ?_; first | refine WPl.rd ?_ | refine WPl.sk ?_ | refine WPl.rdB ?_)
   | (show WPl _ _ _ _ _ _ _ (⟨_, .indexAddr _ _ _, _, _, _, _⟩ :: _) _; refine WPl.rdX (ReadR.indexE rfl rfl hasA (by first | assumption | omega)) ?_)
   | (show WPl _ _ _ _ _ _ _ (⟨_, .fieldAddr _ _ _, _, _, _, _⟩ :: _) _; refine WPl.rdX (ReadR.fieldE rfl hasA (by first | assumption | omega)) ?_)
   | (show WPl _ _ _ _ _ _ _ (⟨_, .load _ _, _, _, _, _⟩ :: _) _; first | refine WPl.rdX (ReadR.loadE rfl hasA (by assumption)) ?_ | refine WPl.rdX (ReadR.loadES (by assumption) (by first | assumption | omega) rfl hasA) ?_)
   | (show WPl _ _ _ _ _ _ _ (⟨_, .slice _ _ _ _ _, _, _, _, _⟩ :: _) _; first | refine WPl.rdX (ReadR.sliceH rfl rfl hasA (by omega)) ?_ | refine WPl.rdX (ReadR.sliceL rfl rfl hasA (by omega)) ?_ | refine WPl.rdX (ReadR.sliceLH rfl rfl rfl hasA (by omega) (by omega)) ?_)
   | (refine WPl.spQ (fun hc => ?_) (fun hc => ?_) <;> try exact prA)
   | fail)
  refine WPq.dX (ho := ownsW) (vs := [x.1, .int .i64 0]) (rsA gX { R with fu := fu' }) ⟨{ R with fu := fu' }, x.1, rfl, hin.2, hin.1, by rw [hfu']; rfl, hb, fun r hr => hr, rfl⟩
theorem rrdFK_t (j : Nat) (h : RInv n k R) (hn : n ≤ 100000) (hkb : k ≤ 100000) (hj : j < n) (h0 : R.vw.fails 1 = true) :
    Triple Try.prog 49 #[hD gX, .int .i64 (j : Int)] (rsA gX R) (RRfeK gX n k 3 (R.vw.burn 1) R.rs) := by
  have hnl := h.nl
  have h2 := h.fb 1 (by omega)
  have hg := getD_some (fu := R.fu) (k := 1) (by rw [h.f4]; omega)
  have c8 := rhas_t gX R (j : Int) (by omega)
  rw [show (decide (0 ≤ (j : Int)) && decide ((j : Int) < (R.L.length : Int))) = true by rw [decide_eq_true (by omega), decide_eq_true (by omega)]; rfl] at c8
  have c12 := rburns_t gX R 1 (R.fu.getD 1 0) h.f4 (by omega) hg h2.1 h2.2
  rw [show decide (R.fu.getD 1 0 = 0) = true from h0] at c12
  obtain ⟨fu', hfu'⟩ : ∃ fu', fu' = fburn R.fu 1 (R.fu.getD 1 0) := ⟨_, rfl⟩
  rw [← hfu'] at c12
  have hb := h.burn (j := 1) (by omega)
  rw [← hfu'] at hb
  refine Triple.enter Try.func49 rfl Try.ntmps49 rfl (fun W => ?_)
  dsimp only [argsF, Nat.reduceAdd]
  repeat' (first
   | refine WPl.nil ?_ | refine WPq.then ?_ | refine WPq.thenR ?_ | refine WPq.thenE ?_ | refine WPq.blockN ?_ | refine WPq.blockR ?_ | refine WPq.blockE ?_ | refine WPq.blockO rfl ?_ | refine WPc.seq ?_ | refine WPc.block ?_ | refine WPc.ret ?_ | refine WPc.exit ?_ | refine WPc.skip ?_ | refine WPc.region ?_
   | (refine isCond ?_; first | refine WPc.cT ?_ | refine WPc.cF ?_ | (refine WPc.cQ (fun hc => ?_) (fun hc => ?_) <;> try exact prA))
   | (refine isC 8 ?_; refine WPl.cV c8 ?_ (hΔ := provsW))
   | (refine isC 12 ?_; refine WPl.cTs (c12) ?_; (try dsimp only [putF, List.cons_append, List.nil_append]))
   | (refine isLit ?_; refine WPl.lit fun v13 hv13 => ?_)
   | (refine isOp ?_; first | refine WPl.rd ?_ | refine WPl.sk ?_ | refine WPl.rdB ?_)
   | (show WPl _ _ _ _ _ _ _ (⟨_, .indexAddr _ _ _, _, _, _, _⟩ :: _) _; refine WPl.rdX (ReadR.indexE rfl rfl hasA (by first | assumption | omega)) ?_)
   | (show WPl _ _ _ _ _ _ _ (⟨_, .fieldAddr _ _ _, _, _, _, _⟩ :: _) _; refine WPl.rdX (ReadR.fieldE rfl hasA (by first | assumption | omega)) ?_)
   | (show WPl _ _ _ _ _ _ _ (⟨_, .load _ _, _, _, _, _⟩ :: _) _; first | refine WPl.rdX (ReadR.loadE rfl hasA (by assumption)) ?_ | refine WPl.rdX (ReadR.loadES (by assumption) (by first | assumption | omega) rfl hasA) ?_)
   | (show WPl _ _ _ _ _ _ _ (⟨_, .slice _ _ _ _ _, _, _, _, _⟩ :: _) _; first | refine WPl.rdX (ReadR.sliceH rfl rfl hasA (by omega)) ?_ | refine WPl.rdX (ReadR.sliceL rfl rfl hasA (by omega)) ?_ | refine WPl.rdX (ReadR.sliceLH rfl rfl rfl hasA (by omega) (by omega)) ?_)
   | (refine WPl.spQ (fun hc => ?_) (fun hc => ?_) <;> try exact prA)
   | fail)
  refine WPq.dX (ho := ownsW) (vs := [v13, .int .i64 3]) (ob v13 [] :: rsA gX { R with fu := fu' }) ⟨{ R with fu := fu' }, v13, rfl, hv13, by rw [hfu']; rfl, hb, fun r hr => hr, rfl⟩
theorem rfailK_t (w a : Int) (h : RInv n k R) (ha : in64 a) :
    Triple Try.prog 51 #[hD gX, .int .i64 w, .int .i64 a] (rsA gX R) (RRk gX n k (.int .i64 (R.vw.fail w a).2) (R.vw.fail w a).1 R.rs) := by
  by_cases hg : fgood w a = true
  · have hw : R.vw.fail w a = ({ R.vw with fu := R.vw.fu.set w.toNat a }, 0) := by unfold Dv.fail; rw [if_pos hg]
    rw [hw]
    unfold fgood at hg
    rw [Bool.and_eq_true, Bool.and_eq_true, decide_eq_true_eq, decide_eq_true_eq, decide_eq_true_eq] at hg
    obtain ⟨⟨g1, g2⟩, g3⟩ := hg
    obtain ⟨j, rfl⟩ : ∃ j : Nat, w = (j : Int) := ⟨w.toNat, by omega⟩
    have hjl : j < (intsV R.fu).length := by rw [intsV_len, h.f4]; omega
    have hj4 : j < 4 := by omega
    refine Triple.enter Try.func51 rfl Try.ntmps51 rfl (fun W => ?_)
    dsimp only [argsF, Nat.reduceAdd]
    repeat' (first
     | refine WPl.nil ?_ | refine WPq.then ?_ | refine WPq.thenR ?_ | refine WPq.thenE ?_ | refine WPq.blockN ?_ | refine WPq.blockR ?_ | refine WPq.blockE ?_ | refine WPq.blockO rfl ?_ | refine WPc.seq ?_ | refine WPc.block ?_ | refine WPc.ret ?_ | refine WPc.exit ?_ | refine WPc.skip ?_ | refine WPc.region ?_
     | (refine isCond ?_; first | refine WPc.cT ?_ | refine WPc.cF ?_ | (refine WPc.cQ (fun hc => ?_) (fun hc => ?_) <;> try exact prA))
     | (refine isD 8 ?_; refine WPl.rdX (ReadR.binE rfl rfl BinR.lss (congrArg Value.bool (decide_eq_false (by omega)))) ?_)
     | (refine isD 11 ?_; refine WPl.rdX (ReadR.binE rfl rfl BinR.gtr (congrArg Value.bool (decide_eq_false (by omega)))) ?_)
     | (refine isD 15 ?_; refine WPl.rdX (ReadR.binE rfl rfl BinR.lss (congrArg Value.bool (decide_eq_false (by omega)))) ?_)
     | (show WPl _ _ _ _ _ _ _ (⟨none, .store _ (.tmp 22) _, _, _, _, _⟩ :: _) _; refine WPl.turn (.cons takeA .nil) rfl rfl (OpT.storeR (i := j) rfl rfl (.cons takeA .nil) rfl rfl hjl rfl) ?_)
     | (refine isOp ?_; first | refine WPl.rd ?_ | refine WPl.sk ?_ | refine WPl.rdB ?_)
     | (refine isSt ?_; first | refine WPl.st1 ?_ | refine WPl.stA ?_ | refine WPl.stEB ?_ | refine WPl.stRB ?_)
     | (show WPl _ _ _ _ _ _ _ (⟨_, .indexAddr _ _ _, _, _, _, _⟩ :: _) _; refine WPl.rdX (ReadR.indexE rfl rfl hasA (by first | assumption | omega)) ?_)
     | (show WPl _ _ _ _ _ _ _ (⟨_, .fieldAddr _ _ _, _, _, _, _⟩ :: _) _; refine WPl.rdX (ReadR.fieldE rfl hasA (by first | assumption | omega)) ?_)
     | (show WPl _ _ _ _ _ _ _ (⟨_, .load _ _, _, _, _, _⟩ :: _) _; first | refine WPl.rdX (ReadR.loadE rfl hasA (by assumption)) ?_ | refine WPl.rdX (ReadR.loadES (by assumption) (by first | assumption | omega) rfl hasA) ?_)
     | (show WPl _ _ _ _ _ _ _ (⟨_, .slice _ _ _ _ _, _, _, _, _⟩ :: _) _; first | refine WPl.rdX (ReadR.sliceH rfl rfl hasA (by omega)) ?_ | refine WPl.rdX (ReadR.sliceL rfl rfl hasA (by omega)) ?_ | refine WPl.rdX (ReadR.sliceLH rfl rfl rfl hasA (by omega) (by omega)) ?_)
     | (refine WPl.spQ (fun hc => ?_) (fun hc => ?_) <;> try exact prA)
     | fail)
    have h2 : rdc R.vL R.vA R.vB (R.fu.set j a) R.wr = [(1, [R.vL]), (1, [R.vA]), (1, [R.vB]), (4, (intsV R.fu).set j (.int .i64 a)), (1, [.int .i64 R.wr])] := by rw [intsV_set]
    (try dsimp only)
    rw [← h2]
    refine WPq.dX (ho := ownsW) (vs := [.int .i64 0]) (rsA gX { R with fu := R.fu.set j a }) ⟨{ R with fu := R.fu.set j a }, rfl, rfl, ⟨h.one, by show (R.fu.set j a).length = 4; rw [List.length_set]; exact h.f4, fun i hi => set_in h.fb h.f4 ⟨by omega, ha.2⟩ i hi, h.nl, h.lz, h.at', h.inL, h.inZ, h.w0, h.w1⟩, fun r hr => hr, rfl⟩
  · have hw : R.vw.fail w a = (R.vw, 1) := by unfold Dv.fail; rw [if_neg hg]
    rw [hw]
    unfold fgood at hg
    rw [Bool.and_eq_true, Bool.and_eq_true, decide_eq_true_eq, decide_eq_true_eq, decide_eq_true_eq] at hg
    refine Triple.enter Try.func51 rfl Try.ntmps51 rfl (fun W => ?_)
    dsimp only [argsF, Nat.reduceAdd]
    by_cases g1 : w < 1
    · skip
      repeat' (first
       | refine WPl.nil ?_ | refine WPq.then ?_ | refine WPq.thenR ?_ | refine WPq.thenE ?_ | refine WPq.blockN ?_ | refine WPq.blockR ?_ | refine WPq.blockE ?_ | refine WPq.blockO rfl ?_ | refine WPc.seq ?_ | refine WPc.block ?_ | refine WPc.ret ?_ | refine WPc.exit ?_ | refine WPc.skip ?_ | refine WPc.region ?_
       | (refine isCond ?_; first | refine WPc.cT ?_ | refine WPc.cF ?_ | (refine WPc.cQ (fun hc => ?_) (fun hc => ?_) <;> try exact prA))
       | (refine isD 8 ?_; refine WPl.rdX (ReadR.binE rfl rfl BinR.lss (congrArg Value.bool (decide_eq_true g1))) ?_)
       | (refine isOp ?_; first | refine WPl.rd ?_ | refine WPl.sk ?_ | refine WPl.rdB ?_)
       | (refine isSt ?_; first | refine WPl.st1 ?_ | refine WPl.stA ?_ | refine WPl.stEB ?_ | refine WPl.stRB ?_)
       | (show WPl _ _ _ _ _ _ _ (⟨_, .indexAddr _ _ _, _, _, _, _⟩ :: _) _; refine WPl.rdX (ReadR.indexE rfl rfl hasA (by first | assumption | omega)) ?_)
       | (show WPl _ _ _ _ _ _ _ (⟨_, .fieldAddr _ _ _, _, _, _, _⟩ :: _) _; refine WPl.rdX (ReadR.fieldE rfl hasA (by first | assumption | omega)) ?_)
       | (show WPl _ _ _ _ _ _ _ (⟨_, .load _ _, _, _, _, _⟩ :: _) _; first | refine WPl.rdX (ReadR.loadE rfl hasA (by assumption)) ?_ | refine WPl.rdX (ReadR.loadES (by assumption) (by first | assumption | omega) rfl hasA) ?_)
       | (show WPl _ _ _ _ _ _ _ (⟨_, .slice _ _ _ _ _, _, _, _, _⟩ :: _) _; first | refine WPl.rdX (ReadR.sliceH rfl rfl hasA (by omega)) ?_ | refine WPl.rdX (ReadR.sliceL rfl rfl hasA (by omega)) ?_ | refine WPl.rdX (ReadR.sliceLH rfl rfl rfl hasA (by omega) (by omega)) ?_)
       | (refine WPl.spQ (fun hc => ?_) (fun hc => ?_) <;> try exact prA)
       | fail)
      exact WPq.dX (ho := ownsW) (vs := [.int .i64 1]) (rsA gX R) ⟨R, rfl, rfl, h, fun r hr => hr, rfl⟩
    by_cases g2 : w > 3
    · skip
      repeat' (first
       | refine WPl.nil ?_ | refine WPq.then ?_ | refine WPq.thenR ?_ | refine WPq.thenE ?_ | refine WPq.blockN ?_ | refine WPq.blockR ?_ | refine WPq.blockE ?_ | refine WPq.blockO rfl ?_ | refine WPc.seq ?_ | refine WPc.block ?_ | refine WPc.ret ?_ | refine WPc.exit ?_ | refine WPc.skip ?_ | refine WPc.region ?_
       | (refine isCond ?_; first | refine WPc.cT ?_ | refine WPc.cF ?_ | (refine WPc.cQ (fun hc => ?_) (fun hc => ?_) <;> try exact prA))
       | (refine isD 8 ?_; refine WPl.rdX (ReadR.binE rfl rfl BinR.lss (congrArg Value.bool (decide_eq_false g1))) ?_)
       | (refine isD 11 ?_; refine WPl.rdX (ReadR.binE rfl rfl BinR.gtr (congrArg Value.bool (decide_eq_true g2))) ?_)
       | (refine isOp ?_; first | refine WPl.rd ?_ | refine WPl.sk ?_ | refine WPl.rdB ?_)
       | (refine isSt ?_; first | refine WPl.st1 ?_ | refine WPl.stA ?_ | refine WPl.stEB ?_ | refine WPl.stRB ?_)
       | (show WPl _ _ _ _ _ _ _ (⟨_, .indexAddr _ _ _, _, _, _, _⟩ :: _) _; refine WPl.rdX (ReadR.indexE rfl rfl hasA (by first | assumption | omega)) ?_)
       | (show WPl _ _ _ _ _ _ _ (⟨_, .fieldAddr _ _ _, _, _, _, _⟩ :: _) _; refine WPl.rdX (ReadR.fieldE rfl hasA (by first | assumption | omega)) ?_)
       | (show WPl _ _ _ _ _ _ _ (⟨_, .load _ _, _, _, _, _⟩ :: _) _; first | refine WPl.rdX (ReadR.loadE rfl hasA (by assumption)) ?_ | refine WPl.rdX (ReadR.loadES (by assumption) (by first | assumption | omega) rfl hasA) ?_)
       | (show WPl _ _ _ _ _ _ _ (⟨_, .slice _ _ _ _ _, _, _, _, _⟩ :: _) _; first | refine WPl.rdX (ReadR.sliceH rfl rfl hasA (by omega)) ?_ | refine WPl.rdX (ReadR.sliceL rfl rfl hasA (by omega)) ?_ | refine WPl.rdX (ReadR.sliceLH rfl rfl rfl hasA (by omega) (by omega)) ?_)
       | (refine WPl.spQ (fun hc => ?_) (fun hc => ?_) <;> try exact prA)
       | fail)
      exact WPq.dX (ho := ownsW) (vs := [.int .i64 1]) (rsA gX R) ⟨R, rfl, rfl, h, fun r hr => hr, rfl⟩
    have g3 : a < 0 := by omega
    repeat' (first
     | refine WPl.nil ?_ | refine WPq.then ?_ | refine WPq.thenR ?_ | refine WPq.thenE ?_ | refine WPq.blockN ?_ | refine WPq.blockR ?_ | refine WPq.blockE ?_ | refine WPq.blockO rfl ?_ | refine WPc.seq ?_ | refine WPc.block ?_ | refine WPc.ret ?_ | refine WPc.exit ?_ | refine WPc.skip ?_ | refine WPc.region ?_
     | (refine isCond ?_; first | refine WPc.cT ?_ | refine WPc.cF ?_ | (refine WPc.cQ (fun hc => ?_) (fun hc => ?_) <;> try exact prA))
     | (refine isD 8 ?_; refine WPl.rdX (ReadR.binE rfl rfl BinR.lss (congrArg Value.bool (decide_eq_false g1))) ?_)
     | (refine isD 11 ?_; refine WPl.rdX (ReadR.binE rfl rfl BinR.gtr (congrArg Value.bool (decide_eq_false g2))) ?_)
     | (refine isD 15 ?_; refine WPl.rdX (ReadR.binE rfl rfl BinR.lss (congrArg Value.bool (decide_eq_true g3))) ?_)
     | (refine isOp ?_; first | refine WPl.rd ?_ | refine WPl.sk ?_ | refine WPl.rdB ?_)
     | (refine isSt ?_; first | refine WPl.st1 ?_ | refine WPl.stA ?_ | refine WPl.stEB ?_ | refine WPl.stRB ?_)
     | (show WPl _ _ _ _ _ _ _ (⟨_, .indexAddr _ _ _, _, _, _, _⟩ :: _) _; refine WPl.rdX (ReadR.indexE rfl rfl hasA (by first | assumption | omega)) ?_)
     | (show WPl _ _ _ _ _ _ _ (⟨_, .fieldAddr _ _ _, _, _, _, _⟩ :: _) _; refine WPl.rdX (ReadR.fieldE rfl hasA (by first | assumption | omega)) ?_)
     | (show WPl _ _ _ _ _ _ _ (⟨_, .load _ _, _, _, _, _⟩ :: _) _; first | refine WPl.rdX (ReadR.loadE rfl hasA (by assumption)) ?_ | refine WPl.rdX (ReadR.loadES (by assumption) (by first | assumption | omega) rfl hasA) ?_)
     | (show WPl _ _ _ _ _ _ _ (⟨_, .slice _ _ _ _ _, _, _, _, _⟩ :: _) _; first | refine WPl.rdX (ReadR.sliceH rfl rfl hasA (by omega)) ?_ | refine WPl.rdX (ReadR.sliceL rfl rfl hasA (by omega)) ?_ | refine WPl.rdX (ReadR.sliceLH rfl rfl rfl hasA (by omega) (by omega)) ?_)
     | (refine WPl.spQ (fun hc => ?_) (fun hc => ?_) <;> try exact prA)
     | fail)
    exact WPq.dX (ho := ownsW) (vs := [.int .i64 1]) (rsA gX R) ⟨R, rfl, rfl, h, fun r hr => hr, rfl⟩
end
end Go.Proofs.Ytepmikgjnmjheaa
/- Layer 3 (dev): what waits, and what is left behind a loss of power: the program, and the reference. -/
namespace Go.Proofs.Ytepmikgjnmjheaa
open Go.RowKit
set_option linter.unusedSimpArgs false
set_option linter.unusedVariables false
set_option maxRecDepth 20000
set_option maxHeartbeats 4000000
attribute [local irreducible] WPc WPl WPq ReadR OpT BinR HasS bx rdN rowN Take Takes Prov Triple ResF BuildP Done ag Int.decLt Int.decLe Int.instDecidableEq
attribute [local irreducible] mp rmp rg rgo bag vrow secs mput mget mfind mdel intsV skeys vault pickG fburn fb1 valsV zAt zB vers crashT
theorem uniqI {α : Type} {r : α → α → Prop} (hr : ∀ a b, r a b → r b a → False) : ∀ {A B : List α}, A.Perm B → A.Pairwise r → B.Pairwise r → A = B
  | [], B, hp, _, _ => by rw [List.nil_perm.1 hp]
  | a :: A, [], hp, _, _ => by have := hp.length_eq; simp at this
  | a :: A, b :: B, hp, ha, hb => by
    rw [List.pairwise_cons] at ha hb
    have hab : a = b := by
      rcases List.mem_cons.1 (hp.mem_iff.1 (List.mem_cons_self ..)) with h | h
      · exact h
      · rcases List.mem_cons.1 (hp.mem_iff.2 (List.mem_cons_self (a := b) (l := B))) with h2 | h2
        · exact h2.symm
        · exact (hr _ _ (ha.1 b h2) (hb.1 a h)).elim
    subst hab
    rw [uniqI hr (List.Perm.cons_inv hp) ha.2 hb.2]
/-- The sectors for which something waits, in order. -/
def Dv.wset (D : Dv) : List Nat := (List.range D.ls.length).filter fun j => !(D.ws j).isEmpty
def intsN (l : List Nat) : List Int := l.map fun (j : Nat) => (j : Int)
theorem intsN_len {l : List Nat} : (intsN l).length = l.length := by unfold intsN; rw [List.length_map]
def cr1 {α : Type} (get : Nat → List α) (d : α) (l : List Int) (cur : List α) (k : Nat) (i : Nat) : List α :=
  match l[k]? with
  | none => cur
  | some a => if a ≤ 0 then cur else cur.set i ((get i).getD ((min a (get i).length).toNat - 1) d)
def crT {α : Type} (get : Nat → List α) (d : α) (l : List Int) (w : List Nat) : Nat → List α → List α
  | 0, ls => ls
  | k + 1, ls => cr1 get d l (crT get d l w k ls) k (w.getD k 0)
def Dv.crash (D : Dv) (l : List Int) : Dv := ⟨f4, crT D.ws (secF 0) l D.wset D.wset.length D.ls, fun _ => [], D.cn⟩
end Go.Proofs.Ytepmikgjnmjheaa
/- Layer 3 (dev): Waiting, Crash: the program, and the reference; the reference's Flush. -/
namespace Go.Proofs.Ytepmikgjnmjheaa
open Go.RowKit
set_option linter.unusedSimpArgs false
set_option linter.unusedVariables false
set_option maxRecDepth 20000
set_option maxHeartbeats 4000000
attribute [local irreducible] WPc WPl WPq ReadR OpT BinR HasS bx rdN rowN Take Takes Prov Triple ResF BuildP Done ag Int.decLt Int.decLe Int.instDecidableEq
attribute [local irreducible] mp rmp rg rgo bag vrow secs mput mget mfind mdel intsV skeys vault pickG fburn fb1 valsV zAt zB vers crashT intsN
end Go.Proofs.Ytepmikgjnmjheaa
