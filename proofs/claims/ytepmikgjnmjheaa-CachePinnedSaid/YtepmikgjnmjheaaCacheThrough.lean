/- CacheThrough: a cache tells what was put last, or what the device had, and holds no more than it has frames. -/
import Derived.Test.YtepmikgjnmjheaaCu
namespace Go.Proofs.Ytepmikgjnmjheaa
theorem BinR.remTm {Q : Program} {T : TypeId} {k : IntKind} {a b : Int} (hb : b ≠ 0) : BinR Q .rem T (.int k a) (.int k b) (.int k (a.tmod b)) := by
  unfold BinR
  intro X Y w
  simp [eqGuard, binOp, Op.intDiv, hb]
theorem fpObM {Γf : List Asn} {e : TypeId} {sz m : Nat} {v : Value} {xs : List Value} (h : rowN e sz v m xs ∈ Γf) : ∀ A, A ∈ [rdN v m xs] → ∃ B, B ∈ Γf ∧ ∀ g, A.fp g → B.fp g := fun A hA => ⟨_, h, fun g hg => by rw [List.mem_singleton.1 hA] at hg; exact hg.2⟩
open Go.RowKit
set_option linter.unusedSimpArgs false
set_option linter.unusedVariables false
set_option maxRecDepth 20000
set_option maxHeartbeats 4000000
attribute [local irreducible] WPc WPl WPq ReadR OpT BinR HasS bx rdN rowN Take Takes Prov Triple ResF BuildP Done ag Int.decLt Int.decLe Int.instDecidableEq
attribute [local irreducible] mp rmp rg rgo bag vrow secs mput mget mfind mdel intsV skeys vault frs pickG kas Cv.put Cv.get Cv.sync Cv.held Cv.dirty
instance : Inhabited (CS × DS) := ⟨(⟨[], 0, []⟩, ⟨[], [], [], 0⟩)⟩
theorem held_len (C : Cv) : C.held.length ≤ C.fs.length := by
  with_unfolding_all (unfold Cv.held Cv.hnos; rw [List.length_mergeSort]; exact List.length_filterMap_le _ _)
/-- What the calls of a cache that does not fail leave. -/
structure CK (n m p k : Nat) (C : CS) (S : DS) (has : Nat → Sec) : Prop where
  ci : CInv n m p C
  di : DInv n k S
  ki : KI C.vw.abs S.vw has n
theorem CK.fs {n m p k : Nat} {C : CS} {S : DS} {has : Nat → Sec} (h : CK n m p k C S has) : C.vw.fs.length = m := by
  show (C.fs.map Frm.vw).length = m
  rw [List.length_map]; exact h.ci.len
theorem CK.hand {n m p k : Nat} {C : CS} {S : DS} {has : Nat → Sec} (h : CK n m p k C S has) : C.vw.hand < C.vw.fs.length := by
  rw [h.fs]; exact h.ci.hand
theorem cacheThrough_t (v0 : Value) (l : List KA) (hl : ∀ x ∈ l, kaW x) :
    Triple Try.prog 8 #[v0] [rdN v0 l.length (kas l)] (RVal (.bool true)) := by
  have c13 := dnew_t 24 (by omega) (by omega)
  have clv := clives_t
  have hL := kas_len (l := l)
  have hst : KI (Cv.mk (List.replicate 8 none) 0).abs ⟨f4, List.replicate 24 (secF 0), fun _ => [], 0⟩ (hasL (List.replicate 24 0)) 24 := by
    rw [← hasL_0]; exact KI.start
  refine Triple.enter Try.func8 rfl Try.ntmps8 rfl (fun W => ?_)
  dsimp only [argsF, Nat.reduceAdd]
  repeat' (first
   | refine WPl.nil ?_ | refine WPq.then ?_ | refine WPq.thenR ?_ | refine WPq.thenE ?_ | refine WPq.blockN ?_ | refine WPq.blockR ?_ | refine WPq.blockE ?_ | refine WPq.blockO rfl ?_ | refine WPc.seq ?_ | refine WPc.block ?_ | refine WPc.ret ?_ | refine WPc.exit ?_ | refine WPc.skip ?_ | refine WPc.region ?_
   | (refine isCond ?_; first | refine WPc.cT ?_ | refine WPc.cF ?_ | (refine WPc.cQ (fun hc => ?_) (fun hc => ?_) <;> try exact prA))
   | (refine isC 13 ?_; refine WPl.cXs (c13) fun v Γ1 hR => ?_; (obtain ⟨gV, mD, vd, S00, rfl, hvd, hS00, hD00, rfl⟩ := hR; have c18 := cnew_t gV 8 (by omega) (by omega)); (try dsimp only [putF, List.cons_append, List.nil_append]))
   | (refine isC 18 ?_; refine WPl.cXs (c18) fun v Γ1 hR => ?_; (obtain ⟨gK, vF, C00, rfl, hvF, hC00, hI00, rfl⟩ := hR); (try dsimp only [putF, List.cons_append, List.nil_append]))
   | (refine isD 22 ?_; refine WPl.rdX (readP) ?_)
   | (refine isD 25 ?_; refine WPl.rdX (readP) ?_)
   | (refine isD 7 ?_; first | (refine isAl ?_; refine WPl.nw fun g7 => ?_) | (refine isBx ?_; refine WPl.nw fun g7 => ?_))
   | (refine isOp ?_; first | refine WPl.rd ?_ | refine WPl.sk ?_ | refine WPl.rdB ?_)
   | (refine isAl ?_; refine WPl.nw fun g => ?_)
   | (refine isSt ?_; first | refine WPl.st1 ?_ | refine WPl.stA ?_ | refine WPl.stEB ?_ | refine WPl.stRB ?_)
   | (show WPl _ _ _ _ _ _ _ (⟨_, .indexAddr _ _ _, _, _, _, _⟩ :: _) _; refine WPl.rdX (ReadR.indexE rfl rfl hasA (by first | assumption | omega)) ?_)
   | (show WPl _ _ _ _ _ _ _ (⟨_, .fieldAddr _ _ _, _, _, _, _⟩ :: _) _; refine WPl.rdX (ReadR.fieldE rfl hasA (by first | assumption | omega)) ?_)
   | (show WPl _ _ _ _ _ _ _ (⟨_, .load _ _, _, _, _, _⟩ :: _) _; first | refine WPl.rdX (ReadR.loadE rfl hasA (by assumption)) ?_ | refine WPl.rdX (ReadR.loadES (by assumption) (by first | assumption | omega) rfl hasA) ?_)
   | (show WPl _ _ _ _ _ _ _ (⟨_, .slice _ _ _ _ _, _, _, _, _⟩ :: _) _; first | refine WPl.rdX (ReadR.sliceH rfl rfl hasA (by omega)) ?_ | refine WPl.rdX (ReadR.sliceL rfl rfl hasA (by omega)) ?_ | refine WPl.rdX (ReadR.sliceLH rfl rfl rfl hasA (by omega) (by omega)) ?_)
   | (refine WPl.spQ (fun hc => ?_) (fun hc => ?_) <;> try exact prA)
   | fail)
  rw [← hC00, ← hS00] at hst
  have hp0 : P0 C00.vw.abs := by rw [hC00]; exact P0.start
  first | refine WPc.loop (σ := Nat × CS × DS × List UInt8) (fun st => st.1 ≤ 60 ∧ CK 24 8 0 (10 * st.1) st.2.1 st.2.2.1 (hasL st.2.2.2) ∧ P0 st.2.1.vw.abs ∧ st.2.2.2.length = 24) (fun st => [rdN v0 l.length (kas l), bx g7 62 [(24, u8s st.2.2.2)], bx gK 86 (cxc gV vF (st.2.1.hand : Int)), rowN 90 6 vF st.2.1.fs.length (frs st.2.1.fs), vault st.2.1.rs, bx gV 79 (dvc st.2.2.1.fu vd mD st.2.2.1.cn), rowN 81 256 vd st.2.2.1.ls.length (secs st.2.2.1.ls), mp secM mD st.2.2.1.es, bag st.2.2.1.es]) (fun st => [(0, v0), (3, hD gV), (5, hC gK), (7, .pointer (some ⟨g7, 0, none⟩)), (8, .int .i64 (st.1 : Int))]) (fun st => 60 - st.1) ((0, C00, S00, List.replicate 24 0)) ?_ takesA frsA (fun st km hx hk => ?_)
  · exact ⟨Nat.zero_le _, ⟨hI00 24, hD00, hst⟩, hp0, List.length_replicate⟩
  obtain ⟨i, C, S, hs⟩ := st
  obtain ⟨hi, hK, hP, hlen⟩ := hx
  dsimp only at hi hK hP hlen hk ⊢
  have hkm : km = 60 - i := hk
  clear hk
  by_cases hin : i < l.length ∧ i < 60
  · obtain ⟨hil, hi60⟩ := hin
    obtain ⟨x, hx⟩ : ∃ x, l[i]? = some x := ⟨_, List.getElem?_eq_getElem hil⟩
    have hxa := kas_at hx
    have hil' : (i : Int) < (l.length : Int) := by omega
    have hi60' : (i : Int) < 60 := by omega
    repeat' (first
     | (refine isSeqR 10 ?_; refine WPc.join (σ := Int) (fun no => 0 ≤ no ∧ no < 24) (fun no => [rdN v0 l.length (kas l), bx g9 64 [(1, [.int .i64 x.k]), (1, [.int .i64 no]), (1, [.int .u8 ((x.b.toNat : Nat) : Int)])], bx g7 62 [(24, u8s hs)], bx gK 86 (cxc gV vF (C.hand : Int)), rowN 90 6 vF C.fs.length (frs C.fs), vault C.rs, bx gV 79 (dvc S.fu vd mD S.cn), rowN 81 256 vd S.ls.length (secs S.ls), mp secM mD S.es, bag S.es]) (fun no => [(0, v0), (3, hD gV), (5, hC gK), (7, .pointer (some ⟨g7, 0, none⟩)), (8, .int .i64 (i : Int)), (9, .pointer (some ⟨g9, 0, none⟩))]) ?_ (fun st hx => ?_))
     | (refine isSeqR 12 ?_; refine Held.it ?_)
     | refine WPl.nil ?_ | refine WPq.then ?_ | refine WPq.thenR ?_ | refine WPq.thenE ?_ | refine WPq.blockN ?_ | refine WPq.blockR ?_ | refine WPq.blockE ?_ | refine WPq.blockO rfl ?_ | refine WPc.seq ?_ | refine WPc.block ?_ | refine WPc.ret ?_ | refine WPc.exit ?_ | refine WPc.skip ?_ | refine WPc.region ?_
     | (refine isCond ?_; first | refine WPc.cT ?_ | refine WPc.cF ?_ | (refine WPc.cQ (fun hc => ?_) (fun hc => ?_) <;> try exact prA))
     | (refine isD 35 ?_; refine WPl.rdX (ReadR.binE rfl rfl BinR.lss (congrArg Value.bool (decide_eq_true hil'))) ?_)
     | (refine isD 38 ?_; refine WPl.rdX (ReadR.binE rfl rfl BinR.lss (congrArg Value.bool (decide_eq_true hi60'))) ?_)
     | (refine isD 44 ?_; refine WPl.rdX (ReadR.indexE (i := i) rfl rfl hasA hil) ?_)
     | (refine isD 45 ?_; refine WPl.rdX (ReadR.loadES (cs := kaC x) hxa (by omega) rfl hasA) ?_)
     | (refine isD 9 ?_; first | (refine isAl ?_; refine WPl.nw fun g9 => ?_) | (refine isBx ?_; refine WPl.nw fun g9 => ?_))
     | (refine isOp ?_; first | refine WPl.rd ?_ | refine WPl.sk ?_ | refine WPl.rdB ?_)
     | (refine isAl ?_; refine WPl.nw fun g => ?_)
     | (refine isSt ?_; first | refine WPl.st1 ?_ | refine WPl.stA ?_ | refine WPl.stEB ?_ | refine WPl.stRB ?_)
     | (show WPl _ _ _ _ _ _ _ (⟨_, .indexAddr _ _ _, _, _, _, _⟩ :: _) _; refine WPl.rdX (ReadR.indexE rfl rfl hasA (by first | assumption | omega)) ?_)
     | (show WPl _ _ _ _ _ _ _ (⟨_, .fieldAddr _ _ _, _, _, _, _⟩ :: _) _; refine WPl.rdX (ReadR.fieldE rfl hasA (by first | assumption | omega)) ?_)
     | (show WPl _ _ _ _ _ _ _ (⟨_, .load _ _, _, _, _, _⟩ :: _) _; first | refine WPl.rdX (ReadR.loadE rfl hasA (by assumption)) ?_ | refine WPl.rdX (ReadR.loadES (by assumption) (by first | assumption | omega) rfl hasA) ?_)
     | (show WPl _ _ _ _ _ _ _ (⟨_, .slice _ _ _ _ _, _, _, _, _⟩ :: _) _; first | refine WPl.rdX (ReadR.sliceH rfl rfl hasA (by omega)) ?_ | refine WPl.rdX (ReadR.sliceL rfl rfl hasA (by omega)) ?_ | refine WPl.rdX (ReadR.sliceLH rfl rfl rfl hasA (by omega) (by omega)) ?_)
     | (refine WPl.spQ (fun hc => ?_) (fun hc => ?_) <;> try exact prA)
     | fail)
    · exact WPq.join 0 (by omega)
    · exact WPq.join x.no (by omega)
    · exact WPq.join 0 (by omega)
    obtain ⟨hno0, hno1⟩ := hx
    obtain ⟨j, rfl⟩ : ∃ j : Nat, st = (j : Int) := ⟨st.toNat, by omega⟩
    have hj : j < 24 := by omega
    have hroom := P0.room (C := C.vw) hP (by rw [hK.fs]; omega)
    obtain ⟨q1, q2, q3⟩ := hK.ki.put (j := j) (s := secF x.b) (by rw [hK.fs]; omega) hK.hand hj (fun _ => hroom)
    have c65 := fun bv => cput_t gK gV vF mD vd 24 8 0 (10 * i) C S j bv (secF x.b) hK.ci hK.di (by omega) (by omega) (by omega) (by omega) hj
    have hP1 := hP.put (D := S.vw) (j := j) (s := secF x.b) q3
    unfold RPut at c65
    rw [q1] at c65
    rw [hasL_set (by rw [hlen]; exact hj)] at q2
    obtain ⟨C1, hC1⟩ : ∃ C1, C1 = (C.vw.put S.vw j (secF x.b)).1 := ⟨_, rfl⟩
    obtain ⟨D1, hD1⟩ : ∃ D1, D1 = (C.vw.put S.vw j (secF x.b)).2.1 := ⟨_, rfl⟩
    rw [← hC1, ← hD1] at q2 c65
    rw [← hC1] at hP1
    clear hroom q1 q3 hC1 hD1
    have hv65 : ∀ v Γ', (∃ C S, v = Value.int .i64 0 ∧ C.vw = C1 ∧ S.vw = D1 ∧ CInv 24 8 0 C ∧ DInv 24 (10 * i + 1) S ∧ Γ' = cdA gK gV vF C mD vd S) → v = .int .i64 0 ∧ ∃ s : CS × DS, Γ' = cdA gK gV vF s.1 mD vd s.2 ∧ (s.1.vw = C1 ∧ s.2.vw = D1 ∧ CInv 24 8 0 s.1 ∧ DInv 24 (10 * i + 1) s.2) := fun v Γ' ⟨C', S', h1, h2, h3, h4, h5, h6⟩ => ⟨h1, (C', S'), h6, h2, h3, h4, h5⟩
    have hjh : j < hs.length := by omega
    refine ⟨?_⟩
    repeat' (first
     | (refine isSeqR 12 ?_; refine WPc.join (σ := CS × DS × List UInt8) (fun q => CK 24 8 0 (10 * i + 1) q.1 q.2.1 (hasL q.2.2) ∧ P0 q.1.vw.abs ∧ q.2.2.length = 24) (fun q => [rdN v0 l.length (kas l), bx g9 64 [(1, [.int .i64 x.k]), (1, [.int .i64 (j : Int)]), (1, [.int .u8 ((x.b.toNat : Nat) : Int)])], bx g7 62 [(24, u8s q.2.2)], bx gK 86 (cxc gV vF (q.1.hand : Int)), rowN 90 6 vF q.1.fs.length (frs q.1.fs), vault q.1.rs, bx gV 79 (dvc q.2.1.fu vd mD q.2.1.cn), rowN 81 256 vd q.2.1.ls.length (secs q.2.1.ls), mp secM mD q.2.1.es, bag q.2.1.es]) (fun q => [(0, v0), (3, hD gV), (5, hC gK), (7, .pointer (some ⟨g7, 0, none⟩)), (8, .int .i64 (i : Int)), (9, .pointer (some ⟨g9, 0, none⟩))]) ?_ (fun st hx => ?_))
     | (refine isSeqR 16 ?_; refine Held.it ?_)
     | refine WPl.nil ?_ | refine WPq.then ?_ | refine WPq.thenR ?_ | refine WPq.thenE ?_ | refine WPq.blockN ?_ | refine WPq.blockR ?_ | refine WPq.blockE ?_ | refine WPq.blockO rfl ?_ | refine WPc.seq ?_ | refine WPc.block ?_ | refine WPc.ret ?_ | refine WPc.exit ?_ | refine WPc.skip ?_ | refine WPc.region ?_
     | (refine isReg 13 ?_; refine WPc.drA [([8, 9, 10, 11, 12, 13, 14], [60, 61, 62, 63, 64]), ([8, 9, 10, 11, 12, 13, 14], [59, 62, 63, 64]), ([1, 8, 9, 10, 11, 12, 13, 14], [59, 60, 62, 63, 64]), ([8, 9, 10, 11, 12, 13, 14], [59, 60, 61]), ([3, 8, 9, 10, 11, 12, 13, 14], [59, 60, 61, 62]), ([3, 4, 8, 9, 10, 11, 12, 13, 14], [59, 60, 61, 62, 63]), ([0, 1, 2, 3, 4, 5, 8, 9, 10, 11, 12, 13, 14], [59, 60, 61, 62, 63, 64]), ([0, 1, 2, 3, 4, 5, 6, 8, 9, 10, 11, 12, 13, 14], [59, 60, 61, 62, 63, 64, 65])] [(8, 6), (9, 6), (10, 6), (11, 6), (12, 6), (13, 6), (14, 6), (8, 0), (8, 1), (8, 2), (8, 3), (8, 4), (8, 5), (9, 0), (9, 1), (9, 2), (9, 3), (9, 4), (9, 5), (10, 0), (10, 1), (10, 2), (10, 3), (10, 4), (10, 5), (11, 0), (11, 1), (11, 2), (11, 3), (11, 4), (11, 5), (12, 0), (12, 1), (12, 2), (12, 3), (12, 4), (12, 5), (13, 0), (13, 1), (13, 2), (13, 3), (13, 4), (13, 5), (14, 0), (14, 1), (14, 2), (14, 3), (14, 4), (14, 5)] (Γx := [bx gK 86 (cxc gV vF (C.hand : Int)), rowN 90 6 vF C.fs.length (frs C.fs), vault C.rs, bx gV 79 (dvc S.fu vd mD S.cn), rowN 81 256 vd S.ls.length (secs S.ls), mp secM mD S.es, bag S.es]) (hox := ownsW) ?_; dsimp only [prev0, List.length_nil, List.length_cons])
     | (refine gAny ?_; first | (refine gC 64 ?_; refine RGl.row (Γ1 := fun _ => []) (fun e hk => OpT.callN (full5_t x.b)) ?_) | (refine gD 57 ?_; refine RGl.rdX (fun e hk => by (try dsimp only [bndR, ensR, oksR, fcutR, List.append_nil, List.nil_append, List.cons_append, List.append_assoc] at hk ⊢); exact ReadR.bin rfl rfl (BinR.remTm (by omega))) ?_) | (refine gOp ?_; (refine gC 65 ?_; refine RGl.relG (.int .i64 0) (fun s : CS × DS => cdA gK gV vF s.1 mD vd s.2) (fun s => s.1.vw = C1 ∧ s.2.vw = D1 ∧ CInv 24 8 0 s.1 ∧ DInv 24 (10 * i + 1) s.2) hv65 (fun e hk => by (try dsimp only [bndR, ensR, oksR, fcutR, List.append_nil, List.nil_append, List.cons_append, List.append_assoc] at hk ⊢); exact OpT.callM (c65 (e 5).1) evsA takesA (Provs.cons provA Provs.nil) (fpObM memA) (by kernel_rfl)) ?_)) | (refine gD 66 ?_; refine RGl.rdX (fun e hk => by (try dsimp only [bndR, ensR, oksR, fcutR, List.append_nil, List.nil_append, List.cons_append, List.append_assoc] at hk ⊢); exact ReadR.binE rfl rfl BinR.neq (congrArg Value.bool (show (!decide _) = false by rw [decide_eq_true rfl]; rfl))) ?_) | (refine gOp ?_; first | refine RGl.rdA ?_ | refine RGl.rdX (fun e hk => by (try dsimp only [bndR, ensR, oksR, fcutR, List.append_nil, List.nil_append, List.cons_append, List.append_assoc] at hk ⊢); exact readB) ?_) | (refine RGl.fin (fun e hk => ?_); (try dsimp only [bndA, ensAR, oksA, List.append_nil, List.nil_append, List.cons_append, List.append_assoc] at hk ⊢); (repeat (obtain ⟨hk1, hk⟩ := hk))) | fail)
     | (refine isCond ?_; first | refine WPc.cT ?_ | refine WPc.cF ?_ | (refine WPc.cQ (fun hc => ?_) (fun hc => ?_) <;> try exact prA))
     | (refine isD 57 ?_; refine WPl.rdX (ReadR.bin rfl rfl (BinR.remTm (by omega))) ?_)
     | (refine isC 64 ?_; refine WPl.cR (full5_t x.b) fun v hv => ?_)
     | (show WPl _ _ _ _ _ _ _ (⟨_, .store _ (.tmp 71) _, _, _, _, _⟩ :: _) _; first | refine WPl.stEB (b := x.b) ?_ | refine WPl.stRB (b := x.b) ?_)
     | (refine isOp ?_; first | refine WPl.rd ?_ | refine WPl.sk ?_ | refine WPl.rdB ?_)
     | (refine isAl ?_; refine WPl.nw fun g => ?_)
     | (refine isSt ?_; first | refine WPl.st1 ?_ | refine WPl.stA ?_ | refine WPl.stEB ?_ | refine WPl.stRB ?_)
     | (show WPl _ _ _ _ _ _ _ (⟨_, .indexAddr _ _ _, _, _, _, _⟩ :: _) _; refine WPl.rdX (ReadR.indexE rfl rfl hasA (by first | assumption | omega)) ?_)
     | (show WPl _ _ _ _ _ _ _ (⟨_, .fieldAddr _ _ _, _, _, _, _⟩ :: _) _; refine WPl.rdX (ReadR.fieldE rfl hasA (by first | assumption | omega)) ?_)
     | (show WPl _ _ _ _ _ _ _ (⟨_, .load _ _, _, _, _, _⟩ :: _) _; first | refine WPl.rdX (ReadR.loadE rfl hasA (by assumption)) ?_ | refine WPl.rdX (ReadR.loadES (by assumption) (by first | assumption | omega) rfl hasA) ?_)
     | (show WPl _ _ _ _ _ _ _ (⟨_, .slice _ _ _ _ _, _, _, _, _⟩ :: _) _; first | refine WPl.rdX (ReadR.sliceH rfl rfl hasA (by omega)) ?_ | refine WPl.rdX (ReadR.sliceL rfl rfl hasA (by omega)) ?_ | refine WPl.rdX (ReadR.sliceLH rfl rfl rfl hasA (by omega) (by omega)) ?_)
     | (refine WPl.spQ (fun hc => ?_) (fun hc => ?_) <;> try exact prA)
     | fail)
    · have hA : (fun s : CS × DS => s.1.vw = C1 ∧ s.2.vw = D1 ∧ CInv 24 8 0 s.1 ∧ DInv 24 (10 * i + 1) s.2) (pickG (fun s : CS × DS => cdA gK gV vF s.1 mD vd s.2) (fun s => s.1.vw = C1 ∧ s.2.vw = D1 ∧ CInv 24 8 0 s.1 ∧ DInv 24 (10 * i + 1) s.2) (e 6).2) := by assumption
      obtain ⟨T, hT⟩ : ∃ T, T = (pickG (fun s : CS × DS => cdA gK gV vF s.1 mD vd s.2) (fun s => s.1.vw = C1 ∧ s.2.vw = D1 ∧ CInv 24 8 0 s.1 ∧ DInv 24 (10 * i + 1) s.2) (e 6).2) := ⟨_, rfl⟩
      rw [← hT] at hA
      obtain ⟨hA1, hA2, hA3, hA4⟩ := hA
      dsimp only [Nat.reduceAdd]
      rw [← hT]
      exact WPq.join (T.1, T.2, hs.set j x.b) ⟨⟨hA3, hA4, by rw [hA1, hA2]; exact q2⟩, by rw [hA1]; exact hP1, by rw [List.length_set]; exact hlen⟩
    · exact WPq.join (C, S, hs) ⟨⟨hK.ci, hK.di.mono (by omega), hK.ki⟩, hP, hlen⟩
    clear c65 hv65 q2 hP1 hK hP hlen hjh C1 D1
    obtain ⟨C, S, hs⟩ := st
    obtain ⟨hK, hP, hlen⟩ := hx
    dsimp only at hK hP hlen ⊢
    have hjh : j < hs.length := by omega
    obtain ⟨r1, r2, r3, r4, r5⟩ := hK.ki.sync
    have c78 := csync_t gK gV vF mD vd 24 8 0 (10 * i + 1) C S hK.ci hK.di (by omega) (by omega) (by omega)
    unfold RPut at c78
    rw [r1] at c78
    refine ⟨?_⟩
    repeat' (first
     | (refine isSeqR 16 ?_; refine WPc.join (σ := CS × DS) (fun q => CK 24 8 0 (10 * i + 9) q.1 q.2 (hasL hs) ∧ P0 q.1.vw.abs) (fun q => [rdN v0 l.length (kas l), bx g9 64 [(1, [.int .i64 x.k]), (1, [.int .i64 (j : Int)]), (1, [.int .u8 ((x.b.toNat : Nat) : Int)])], bx g7 62 [(24, u8s hs)], bx gK 86 (cxc gV vF (q.1.hand : Int)), rowN 90 6 vF q.1.fs.length (frs q.1.fs), vault q.1.rs, bx gV 79 (dvc q.2.fu vd mD q.2.cn), rowN 81 256 vd q.2.ls.length (secs q.2.ls), mp secM mD q.2.es, bag q.2.es]) (fun q => [(0, v0), (3, hD gV), (5, hC gK), (7, .pointer (some ⟨g7, 0, none⟩)), (8, .int .i64 (i : Int)), (9, .pointer (some ⟨g9, 0, none⟩))]) ?_ (fun st hx => ?_))
     | (refine isSeqR 18 ?_; refine Held.it ?_)
     | refine WPl.nil ?_ | refine WPq.then ?_ | refine WPq.thenR ?_ | refine WPq.thenE ?_ | refine WPq.blockN ?_ | refine WPq.blockR ?_ | refine WPq.blockE ?_ | refine WPq.blockO rfl ?_ | refine WPc.seq ?_ | refine WPc.block ?_ | refine WPc.ret ?_ | refine WPc.exit ?_ | refine WPc.skip ?_ | refine WPc.region ?_
     | (refine isCond ?_; first | refine WPc.cT ?_ | refine WPc.cF ?_ | (refine WPc.cQ (fun hc => ?_) (fun hc => ?_) <;> try exact prA))
     | (refine isD 74 ?_; refine WPl.rdX (ReadR.bin rfl rfl (BinR.remTm (by omega))) ?_)
     | (refine isC 78 ?_; refine WPl.cXs (c78) fun v Γ1 hR => ?_; (obtain ⟨C1, S1, rfl, hC1, hS1, hCi, hDi, rfl⟩ := hR); (try dsimp only [putF, List.cons_append, List.nil_append]))
     | (refine isD 79 ?_; refine WPl.rdX (ReadR.binE rfl rfl BinR.neq (congrArg Value.bool (show (!decide _) = false by rw [decide_eq_true rfl]; rfl))) ?_)
     | (refine isOp ?_; first | refine WPl.rd ?_ | refine WPl.sk ?_ | refine WPl.rdB ?_)
     | (refine isAl ?_; refine WPl.nw fun g => ?_)
     | (refine isSt ?_; first | refine WPl.st1 ?_ | refine WPl.stA ?_ | refine WPl.stEB ?_ | refine WPl.stRB ?_)
     | (show WPl _ _ _ _ _ _ _ (⟨_, .indexAddr _ _ _, _, _, _, _⟩ :: _) _; refine WPl.rdX (ReadR.indexE rfl rfl hasA (by first | assumption | omega)) ?_)
     | (show WPl _ _ _ _ _ _ _ (⟨_, .fieldAddr _ _ _, _, _, _, _⟩ :: _) _; refine WPl.rdX (ReadR.fieldE rfl hasA (by first | assumption | omega)) ?_)
     | (show WPl _ _ _ _ _ _ _ (⟨_, .load _ _, _, _, _, _⟩ :: _) _; first | refine WPl.rdX (ReadR.loadE rfl hasA (by assumption)) ?_ | refine WPl.rdX (ReadR.loadES (by assumption) (by first | assumption | omega) rfl hasA) ?_)
     | (show WPl _ _ _ _ _ _ _ (⟨_, .slice _ _ _ _ _, _, _, _, _⟩ :: _) _; first | refine WPl.rdX (ReadR.sliceH rfl rfl hasA (by omega)) ?_ | refine WPl.rdX (ReadR.sliceL rfl rfl hasA (by omega)) ?_ | refine WPl.rdX (ReadR.sliceLH rfl rfl rfl hasA (by omega) (by omega)) ?_)
     | (refine WPl.spQ (fun hc => ?_) (fun hc => ?_) <;> try exact prA)
     | fail)
    · exact WPq.join (C1, S1) ⟨⟨hCi, hDi, by rw [hC1, hS1]; exact r2⟩, by rw [hC1]; exact r5 hP⟩
    · exact WPq.join (C, S) ⟨⟨hK.ci, hK.di.mono (by omega), hK.ki⟩, hP⟩
    clear c78 r1 r2 r3 r4 r5 hK hP C S
    obtain ⟨C, S⟩ := st
    obtain ⟨hK, hP⟩ := hx
    dsimp only at hK hP ⊢
    have hroom := P0.room (C := C.vw) hP (by rw [hK.fs]; omega)
    obtain ⟨q1, q2, q3, _⟩ := hK.ki.get (j := j) (by rw [hK.fs]; omega) hK.hand hj (fun _ => hroom)
    have hP1 := hP.get (D := S.vw) (j := j) q3
    have c85 := cget_t gK gV vF mD vd 24 8 0 (10 * i + 9) C S j hK.ci hK.di (by omega) (by omega) (by omega) (by omega) hj
    unfold RGet at c85
    rw [q1] at c85
    have hsq : (hasL hs j).b = List.replicate 256 (hs.getD j 0) := rfl
    have hat : (u8s hs)[j]? = some (.int .u8 (((hs.getD j 0).toNat : Nat) : Int)) := u8s_get hjh
    repeat' (first
     | (refine isSeq1 19 ?_; refine Held.it ?_)
     | refine WPl.nil ?_ | refine WPq.then ?_ | refine WPq.thenR ?_ | refine WPq.thenE ?_ | refine WPq.blockN ?_ | refine WPq.blockR ?_ | refine WPq.blockE ?_ | refine WPq.blockO rfl ?_ | refine WPc.seq ?_ | refine WPc.block ?_ | refine WPc.ret ?_ | refine WPc.exit ?_ | refine WPc.skip ?_ | refine WPc.region ?_
     | (refine isCond ?_; first | refine WPc.cT ?_ | refine WPc.cF ?_ | (refine WPc.cQ (fun hc => ?_) (fun hc => ?_) <;> try exact prA))
     | (refine isC 85 ?_; refine WPl.cXs (c85) fun v Γ1 hR => ?_; (obtain ⟨C1, S1, sv, rfl, hsv, hC1, hS1, hCi, hDi, rfl⟩ := hR; have c103 := cheld_t gK gV vF 24 8 0 C1 hCi (by omega); have hle := held_len C1.vw); (try dsimp only [putF, List.cons_append, List.nil_append]))
     | (refine isOp ?_; first | refine WPl.rd ?_ | refine WPl.sk ?_ | refine WPl.rdB ?_)
     | (refine isAl ?_; refine WPl.nw fun g => ?_)
     | (refine isSt ?_; first | refine WPl.st1 ?_ | refine WPl.stA ?_ | refine WPl.stEB ?_ | refine WPl.stRB ?_)
     | (show WPl _ _ _ _ _ _ _ (⟨_, .indexAddr _ _ _, _, _, _, _⟩ :: _) _; refine WPl.rdX (ReadR.indexE rfl rfl hasA (by first | assumption | omega)) ?_)
     | (show WPl _ _ _ _ _ _ _ (⟨_, .fieldAddr _ _ _, _, _, _, _⟩ :: _) _; refine WPl.rdX (ReadR.fieldE rfl hasA (by first | assumption | omega)) ?_)
     | (show WPl _ _ _ _ _ _ _ (⟨_, .load _ _, _, _, _, _⟩ :: _) _; first | refine WPl.rdX (ReadR.loadE rfl hasA (by assumption)) ?_ | refine WPl.rdX (ReadR.loadES (by assumption) (by first | assumption | omega) rfl hasA) ?_)
     | (show WPl _ _ _ _ _ _ _ (⟨_, .slice _ _ _ _ _, _, _, _, _⟩ :: _) _; first | refine WPl.rdX (ReadR.sliceH rfl rfl hasA (by omega)) ?_ | refine WPl.rdX (ReadR.sliceL rfl rfl hasA (by omega)) ?_ | refine WPl.rdX (ReadR.sliceLH rfl rfl rfl hasA (by omega) (by omega)) ?_)
     | (refine WPl.spQ (fun hc => ?_) (fun hc => ?_) <;> try exact prA)
     | fail)
    have hK1 : CK 24 8 0 (10 * i + 10) C1 S1 (hasL hs) := ⟨hCi, hDi, by rw [hC1, hS1]; exact q2⟩
    rw [hK1.fs] at hle
    have hgt : ¬ (C1.vw.held.length : Int) > 8 := by omega
    refine ⟨?_⟩
    repeat' (first
     | refine WPl.nil ?_ | refine WPq.then ?_ | refine WPq.thenR ?_ | refine WPq.thenE ?_ | refine WPq.blockN ?_ | refine WPq.blockR ?_ | refine WPq.blockE ?_ | refine WPq.blockO rfl ?_ | refine WPc.seq ?_ | refine WPc.block ?_ | refine WPc.ret ?_ | refine WPc.exit ?_ | refine WPc.skip ?_ | refine WPc.region ?_
     | (refine isReg 19 ?_; refine WPc.drA [([], []), ([0], [88]), ([0, 1], [88, 89]), ([0, 1, 2], [88, 89, 90, 93, 94, 95, 96, 97, 98]), ([0, 1, 2, 3], [88, 89, 90, 91, 93, 94, 95, 96, 97, 98]), ([0, 1, 2], [88, 89, 90, 91, 92]), ([0, 1, 2, 5], [88, 89, 90, 91, 92, 93]), ([0, 1, 2, 5, 6], [88, 89, 90, 91, 92, 93, 94]), ([0, 1, 2, 5, 6, 7], [88, 89, 90, 91, 92, 93, 94, 95]), ([0, 1, 2, 5, 6, 7, 8], [88, 89, 90, 91, 92, 93, 94, 95, 96]), ([0, 1, 2, 5, 6, 7, 8, 9], [88, 89, 90, 91, 92, 93, 94, 95, 96, 97]), ([0, 1, 2, 3, 4, 5, 6, 7, 8, 9, 10], [88, 89, 90, 91, 92, 93, 94, 95, 96, 97, 98]), ([0, 1, 2, 3, 4, 5, 6, 7, 8, 9, 10, 11], [88, 89, 90, 91, 92, 93, 94, 95, 96, 97, 98, 99]), ([0, 1, 2, 3, 4, 5, 6, 7, 8, 9, 10, 11, 12], [88, 89, 90, 91, 92, 93, 94, 95, 96, 97, 98, 99, 100]), ([0, 1, 2, 3, 4, 5, 6, 7, 8, 9, 10, 11, 12, 13], [88, 89, 90, 91, 92, 93, 94, 95, 96, 97, 98, 99, 100, 101]), ([0, 1, 2, 3, 4, 5, 6, 7, 8, 9, 10, 11, 12, 13, 14], [88, 89, 90, 91, 92, 93, 94, 95, 96, 97, 98, 99, 100, 101, 102]), ([0, 1, 2, 3, 4, 5, 6, 7, 8, 9, 10, 11, 12, 13, 14, 15], [88, 89, 90, 91, 92, 93, 94, 95, 96, 97, 98, 99, 100, 101, 102, 103]), ([0, 1, 2, 3, 4, 5, 6, 7, 8, 9, 10, 11, 12, 13, 14, 15, 16], [88, 89, 90, 91, 92, 93, 94, 95, 96, 97, 98, 99, 100, 101, 102, 103, 104]), ([0, 1, 2, 3, 4, 5, 6, 7, 8, 9, 10, 11, 12, 13, 14, 15, 16, 17], [88, 89, 90, 91, 92, 93, 94, 95, 96, 97, 98, 99, 100, 101, 102, 103, 104, 105])] [] (Γx := []) ?_; dsimp only [prev0, List.length_nil, List.length_cons])
     | (refine gAny ?_; first | (refine gGd ?_; refine RGl.skp ?_) | (refine gC 97 ?_; refine RGl.row (Γ1 := fun _ => []) (fun e hk => OpT.callN (full5_t (hs.getD j 0))) ?_) | (refine gD 89 ?_; refine RGl.rdX (fun e hk => by (try dsimp only [bndR, ensR, oksR, fcutR, List.append_nil, List.nil_append, List.cons_append, List.append_assoc] at hk ⊢); exact ReadR.binE rfl rfl BinR.neq (congrArg Value.bool (show (!decide _) = false by rw [decide_eq_true rfl]; rfl))) ?_) | (refine gD 96 ?_; refine RGl.rdX (fun e hk => by (try dsimp only [bndR, ensR, oksR, fcutR, List.append_nil, List.nil_append, List.cons_append, List.append_assoc] at hk ⊢); exact ReadR.loadR rfl memA rfl hat) ?_) | (refine gD 99 ?_; refine RGl.rdX (fun e hk => by (try dsimp only [bndR, ensR, oksR, fcutR, List.append_nil, List.nil_append, List.cons_append, List.append_assoc] at hk ⊢); exact ReadR.binE rfl rfl BinR.strUN (congrArg Value.bool (show (!decide _) = false by rw [decide_eq_true hsq]; rfl))) ?_) | (refine gOp ?_; (refine gC 103 ?_; refine RGl.row (Γ1 := fun _ => []) (fun e hk => OpT.callN c103 (hΔ := by (try dsimp only [bndR, ensR, oksR, fcutR, List.append_nil, List.nil_append, List.cons_append, List.append_assoc] at hk ⊢); exact provsW)) ?_)) | (refine gD 105 ?_; refine RGl.rdX (fun e hk => by (try dsimp only [bndR, ensR, oksR, fcutR, List.append_nil, List.nil_append, List.cons_append, List.append_assoc] at hk ⊢); exact ReadR.binE rfl rfl BinR.gtr (congrArg Value.bool (decide_eq_false hgt))) ?_) | (refine gOp ?_; first | refine RGl.rdA ?_ | refine RGl.rdX (fun e hk => by (try dsimp only [bndR, ensR, oksR, fcutR, List.append_nil, List.nil_append, List.cons_append, List.append_assoc] at hk ⊢); exact readB) ?_) | (refine RGl.fin (fun e hk => ?_); (try dsimp only [bndA, ensAR, oksA, List.append_nil, List.nil_append, List.cons_append, List.append_assoc] at hk ⊢); (repeat (obtain ⟨hk1, hk⟩ := hk))) | fail)
     | (refine isCond ?_; first | refine WPc.cT ?_ | refine WPc.cF ?_ | (refine WPc.cQ (fun hc => ?_) (fun hc => ?_) <;> try exact prA))
     | (refine isC 97 ?_; refine WPl.cR (full5_t (hs.getD j 0)) fun v hv => ?_)
     | (refine isOp ?_; first | refine WPl.rd ?_ | refine WPl.sk ?_ | refine WPl.rdB ?_)
     | (refine isAl ?_; refine WPl.nw fun g => ?_)
     | (refine isSt ?_; first | refine WPl.st1 ?_ | refine WPl.stA ?_ | refine WPl.stEB ?_ | refine WPl.stRB ?_)
     | (show WPl _ _ _ _ _ _ _ (⟨_, .indexAddr _ _ _, _, _, _, _⟩ :: _) _; refine WPl.rdX (ReadR.indexE rfl rfl hasA (by first | assumption | omega)) ?_)
     | (show WPl _ _ _ _ _ _ _ (⟨_, .fieldAddr _ _ _, _, _, _, _⟩ :: _) _; refine WPl.rdX (ReadR.fieldE rfl hasA (by first | assumption | omega)) ?_)
     | (show WPl _ _ _ _ _ _ _ (⟨_, .load _ _, _, _, _, _⟩ :: _) _; first | refine WPl.rdX (ReadR.loadE rfl hasA (by assumption)) ?_ | refine WPl.rdX (ReadR.loadES (by assumption) (by first | assumption | omega) rfl hasA) ?_)
     | (show WPl _ _ _ _ _ _ _ (⟨_, .slice _ _ _ _ _, _, _, _, _⟩ :: _) _; first | refine WPl.rdX (ReadR.sliceH rfl rfl hasA (by omega)) ?_ | refine WPl.rdX (ReadR.sliceL rfl rfl hasA (by omega)) ?_ | refine WPl.rdX (ReadR.sliceLH rfl rfl rfl hasA (by omega) (by omega)) ?_)
     | (refine WPl.spQ (fun hc => ?_) (fun hc => ?_) <;> try exact prA)
     | fail)
    exact WPq.rnd (i + 1, C1, S1, hs) ⟨hi60, hK1, by rw [hC1]; exact hP1, hlen⟩ (by dsimp only; omega)
  · by_cases hil : i < l.length
    · have hil' : (i : Int) < (l.length : Int) := by omega
      have hi60' : ¬ (i : Int) < 60 := by omega
      repeat' (first
       | refine WPl.nil ?_ | refine WPq.then ?_ | refine WPq.thenR ?_ | refine WPq.thenE ?_ | refine WPq.blockN ?_ | refine WPq.blockR ?_ | refine WPq.blockE ?_ | refine WPq.blockO rfl ?_ | refine WPc.seq ?_ | refine WPc.block ?_ | refine WPc.ret ?_ | refine WPc.exit ?_ | refine WPc.skip ?_ | refine WPc.region ?_
       | (refine isCond ?_; first | refine WPc.cT ?_ | refine WPc.cF ?_ | (refine WPc.cQ (fun hc => ?_) (fun hc => ?_) <;> try exact prA))
       | (refine isD 35 ?_; refine WPl.rdX (ReadR.binE rfl rfl BinR.lss (congrArg Value.bool (decide_eq_true hil'))) ?_)
       | (refine isD 38 ?_; refine WPl.rdX (ReadR.binE rfl rfl BinR.lss (congrArg Value.bool (decide_eq_false hi60'))) ?_)
       | (refine isC 107 ?_; refine WPl.cV (clv) ?_)
       | (refine isOp ?_; first | refine WPl.rd ?_ | refine WPl.sk ?_ | refine WPl.rdB ?_)
       | (refine isAl ?_; refine WPl.nw fun g => ?_)
       | (refine isSt ?_; first | refine WPl.st1 ?_ | refine WPl.stA ?_ | refine WPl.stEB ?_ | refine WPl.stRB ?_)
       | (show WPl _ _ _ _ _ _ _ (⟨_, .indexAddr _ _ _, _, _, _, _⟩ :: _) _; refine WPl.rdX (ReadR.indexE rfl rfl hasA (by first | assumption | omega)) ?_)
       | (show WPl _ _ _ _ _ _ _ (⟨_, .fieldAddr _ _ _, _, _, _, _⟩ :: _) _; refine WPl.rdX (ReadR.fieldE rfl hasA (by first | assumption | omega)) ?_)
       | (show WPl _ _ _ _ _ _ _ (⟨_, .load _ _, _, _, _, _⟩ :: _) _; first | refine WPl.rdX (ReadR.loadE rfl hasA (by assumption)) ?_ | refine WPl.rdX (ReadR.loadES (by assumption) (by first | assumption | omega) rfl hasA) ?_)
       | (show WPl _ _ _ _ _ _ _ (⟨_, .slice _ _ _ _ _, _, _, _, _⟩ :: _) _; first | refine WPl.rdX (ReadR.sliceH rfl rfl hasA (by omega)) ?_ | refine WPl.rdX (ReadR.sliceL rfl rfl hasA (by omega)) ?_ | refine WPl.rdX (ReadR.sliceLH rfl rfl rfl hasA (by omega) (by omega)) ?_)
       | (refine WPl.spQ (fun hc => ?_) (fun hc => ?_) <;> try exact prA)
       | fail)
      exact WPq.dV
    · have hil' : ¬ (i : Int) < (l.length : Int) := by omega
      repeat' (first
       | refine WPl.nil ?_ | refine WPq.then ?_ | refine WPq.thenR ?_ | refine WPq.thenE ?_ | refine WPq.blockN ?_ | refine WPq.blockR ?_ | refine WPq.blockE ?_ | refine WPq.blockO rfl ?_ | refine WPc.seq ?_ | refine WPc.block ?_ | refine WPc.ret ?_ | refine WPc.exit ?_ | refine WPc.skip ?_ | refine WPc.region ?_
       | (refine isCond ?_; first | refine WPc.cT ?_ | refine WPc.cF ?_ | (refine WPc.cQ (fun hc => ?_) (fun hc => ?_) <;> try exact prA))
       | (refine isD 35 ?_; refine WPl.rdX (ReadR.binE rfl rfl BinR.lss (congrArg Value.bool (decide_eq_false hil'))) ?_)
       | (refine isC 107 ?_; refine WPl.cV (clv) ?_)
       | (refine isOp ?_; first | refine WPl.rd ?_ | refine WPl.sk ?_ | refine WPl.rdB ?_)
       | (refine isAl ?_; refine WPl.nw fun g => ?_)
       | (refine isSt ?_; first | refine WPl.st1 ?_ | refine WPl.stA ?_ | refine WPl.stEB ?_ | refine WPl.stRB ?_)
       | (show WPl _ _ _ _ _ _ _ (⟨_, .indexAddr _ _ _, _, _, _, _⟩ :: _) _; refine WPl.rdX (ReadR.indexE rfl rfl hasA (by first | assumption | omega)) ?_)
       | (show WPl _ _ _ _ _ _ _ (⟨_, .fieldAddr _ _ _, _, _, _, _⟩ :: _) _; refine WPl.rdX (ReadR.fieldE rfl hasA (by first | assumption | omega)) ?_)
       | (show WPl _ _ _ _ _ _ _ (⟨_, .load _ _, _, _, _, _⟩ :: _) _; first | refine WPl.rdX (ReadR.loadE rfl hasA (by assumption)) ?_ | refine WPl.rdX (ReadR.loadES (by assumption) (by first | assumption | omega) rfl hasA) ?_)
       | (show WPl _ _ _ _ _ _ _ (⟨_, .slice _ _ _ _ _, _, _, _, _⟩ :: _) _; first | refine WPl.rdX (ReadR.sliceH rfl rfl hasA (by omega)) ?_ | refine WPl.rdX (ReadR.sliceL rfl rfl hasA (by omega)) ?_ | refine WPl.rdX (ReadR.sliceLH rfl rfl rfl hasA (by omega) (by omega)) ?_)
       | (refine WPl.spQ (fun hc => ?_) (fun hc => ?_) <;> try exact prA)
       | fail)
      exact WPq.dV
end Go.Proofs.Ytepmikgjnmjheaa
