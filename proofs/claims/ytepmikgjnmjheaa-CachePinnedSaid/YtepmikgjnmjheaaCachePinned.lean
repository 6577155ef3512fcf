/- CachePinned: what is pinned stays, and where all is pinned there is no room. -/
import Derived.Test.YtepmikgjnmjheaaCz
namespace Go.Proofs.Ytepmikgjnmjheaa
open Go.RowKit
set_option linter.unusedSimpArgs false
set_option linter.unusedVariables false
set_option maxRecDepth 20000
set_option maxHeartbeats 4000000
attribute [local irreducible] WPc WPl WPq ReadR OpT BinR HasS bx rdN rowN Take Takes Prov Triple ResF BuildP Done ag Int.decLt Int.decLe Int.instDecidableEq
attribute [local irreducible] mp rmp rg rgo bag vrow secs mput mget mfind mdel intsV skeys vault frs pickG kas Cv.put Cv.get Cv.sync Cv.held Cv.dirty Cv.pin npin
theorem cachePinned_t (v0 : Value) (ps0 : List Int) (v1 : Value) (more0 : List Int) (hps : ∀ y ∈ ps0, in64 y) (hmo : ∀ y ∈ more0, in64 y) :
    Triple Try.prog 7 #[v0, v1] [rdN v0 ps0.length (ps0.map (Value.int .i64)), rdN v1 more0.length (more0.map (Value.int .i64))] (RVal (.bool true)) := by
  obtain ⟨ps, rfl⟩ : ∃ ps, ps = ps0 := ⟨_, rfl⟩
  obtain ⟨more, rfl⟩ : ∃ more, more = more0 := ⟨_, rfl⟩
  rw [show ps.map (Value.int .i64) = intsV ps by with_unfolding_all rfl, show more.map (Value.int .i64) = intsV more by with_unfolding_all rfl]
  have c19 := dnew_t 40 (by omega) (by omega)
  have clv := clives_t
  have hst : KI (Cv.mk (List.replicate 8 none) 0).abs ⟨f4, List.replicate 40 (secF 0), fun _ => [], 0⟩ (fun _ => secF 0) 40 := KI.start
  have e1 : rowN 3 1 (.slice none 0 0) 0 [] = rowN 3 1 (.slice none 0 0) ([] : List Int).length (intsV []) := by with_unfolding_all rfl
  have hrow : ∀ (v : Value) (L : List Int) (a : Int), rowN 3 1 v (L.length + 1) (intsV L ++ [.int .i64 a]) = rowN 3 1 v (L ++ [a]).length (intsV (L ++ [a])) := fun v L a => by
    rw [List.length_append]
    with_unfolding_all (unfold intsV; rw [List.map_append]; rfl)
  refine Triple.enter Try.func7 rfl Try.ntmps7 rfl (fun W => ?_)
  dsimp only [argsF, Nat.reduceAdd]
  repeat' (first
   | (refine isSeqR 6 ?_; refine WPc.join (σ := CS × DS × List Int × Value) (fun q => (∃ k p, k ≤ 30 ∧ p ≤ 30 ∧ CInv 40 8 p q.1 ∧ DInv 40 k q.2.1) ∧ KI q.1.vw.abs q.2.1.vw (fun _ => secF 0) 40 ∧ PinI q.1.vw.abs q.2.2.1 ∧ q.2.2.2.oneCell' = true ∧ q.2.2.1.length ≤ 30) (fun q => [rdN v0 ps.length (intsV ps), rdN v1 more.length (intsV more), rowN 3 1 q.2.2.2 q.2.2.1.length (intsV q.2.2.1), bx gK 86 (cxc gV vF (q.1.hand : Int)), rowN 90 6 vF q.1.fs.length (frs q.1.fs), vault q.1.rs, bx gV 79 (dvc q.2.1.fu vd mD q.2.1.cn), rowN 81 256 vd q.2.1.ls.length (secs q.2.1.ls), mp secM mD q.2.1.es, bag q.2.1.es]) (fun q => [(1, v1), (7, hC gK), (9, q.2.2.2)]) ?_ (fun st hx => ?_))
   | (refine isSeqR 14 ?_; refine WPc.join (σ := CS × DS) (fun q => (∃ k p, k ≤ 60 ∧ p ≤ 30 ∧ CInv 40 8 p q.1 ∧ DInv 40 k q.2) ∧ PinI q.1.vw.abs st.2.2.1) (fun q => [rowN 3 1 st.2.2.2 st.2.2.1.length (intsV st.2.2.1), bx gK 86 (cxc gV vF (q.1.hand : Int)), rowN 90 6 vF q.1.fs.length (frs q.1.fs), vault q.1.rs, bx gV 79 (dvc q.2.fu vd mD q.2.cn), rowN 81 256 vd q.2.ls.length (secs q.2.ls), mp secM mD q.2.es, bag q.2.es]) (fun q => [(7, hC gK), (9, st.2.2.2)]) ?_ (fun st hx => ?_))
   | refine WPl.nil ?_ | refine WPq.then ?_ | refine WPq.thenR ?_ | refine WPq.thenE ?_ | refine WPq.blockN ?_ | refine WPq.blockR ?_ | refine WPq.blockE ?_ | refine WPq.blockO rfl ?_ | refine WPc.seq ?_ | refine WPc.block ?_ | refine WPc.ret ?_ | refine WPc.exit ?_ | refine WPc.skip ?_ | refine WPc.region ?_
   | (refine isCond ?_; first | refine WPc.cT ?_ | refine WPc.cF ?_ | (refine WPc.cQ (fun hc => ?_) (fun hc => ?_) <;> try exact prA))
   | (refine isC 19 ?_; refine WPl.cXs (c19) fun v Γ1 hR => ?_; (obtain ⟨gV, mD, vd, S00, rfl, hvd, hS00, hD00, rfl⟩ := hR; have c24 := cnew_t gV 8 (by omega) (by omega)); (try dsimp only [putF, List.cons_append, List.nil_append]))
   | (refine isC 24 ?_; refine WPl.cXs (c24) fun v Γ1 hR => ?_; (obtain ⟨gK, vF, C00, rfl, hvF, hC00, hI00, rfl⟩ := hR); (try dsimp only [putF, List.cons_append, List.nil_append]))
   | (refine isD 28 ?_; refine WPl.rdX (readP) ?_)
   | (refine isD 33 ?_; refine WPl.litS0 fun v33 hv33 => ?_)
   | (refine isOp ?_; first | refine WPl.rd ?_ | refine WPl.sk ?_ | refine WPl.rdB ?_)
   | (show WPl _ _ _ _ _ _ _ (⟨_, .indexAddr _ _ _, _, _, _, _⟩ :: _) _; refine WPl.rdX (ReadR.indexE rfl rfl hasA (by first | assumption | omega)) ?_)
   | (show WPl _ _ _ _ _ _ _ (⟨_, .fieldAddr _ _ _, _, _, _, _⟩ :: _) _; refine WPl.rdX (ReadR.fieldE rfl hasA (by first | assumption | omega)) ?_)
   | (show WPl _ _ _ _ _ _ _ (⟨_, .load _ _, _, _, _, _⟩ :: _) _; first | refine WPl.rdX (ReadR.loadE rfl hasA (by assumption)) ?_ | refine WPl.rdX (ReadR.loadES (by assumption) (by first | assumption | omega) rfl hasA) ?_)
   | (show WPl _ _ _ _ _ _ _ (⟨_, .slice _ _ _ _ _, _, _, _, _⟩ :: _) _; first | refine WPl.rdX (ReadR.sliceH rfl rfl hasA (by omega)) ?_ | refine WPl.rdX (ReadR.sliceL rfl rfl hasA (by omega)) ?_ | refine WPl.rdX (ReadR.sliceLH rfl rfl rfl hasA (by omega) (by omega)) ?_)
   | (refine WPl.spQ (fun hc => ?_) (fun hc => ?_) <;> try exact prA)
   | fail)
  · rw [← hC00, ← hS00] at hst
    have hpi : PinI C00.vw.abs [] := by rw [hC00]; exact PinI.start
    rw [show rowN 3 1 v33 0 [] = rowN 3 1 v33 ([] : List Int).length (intsV []) by with_unfolding_all rfl]
    first | refine WPc.loop (σ := Nat × CS × DS × List Int × Value) (fun st => st.1 ≤ 30 ∧ CInv 40 8 st.1 st.2.1 ∧ DInv 40 st.1 st.2.2.1 ∧ KI st.2.1.vw.abs st.2.2.1.vw (fun _ => secF 0) 40 ∧ PinI st.2.1.vw.abs st.2.2.2.1 ∧ st.2.2.2.2.oneCell' = true ∧ st.2.2.2.1.length ≤ st.1) (fun st => [rdN v0 ps.length (intsV ps), rdN v1 more.length (intsV more), rowN 3 1 st.2.2.2.2 st.2.2.2.1.length (intsV st.2.2.2.1), bx gK 86 (cxc gV vF (st.2.1.hand : Int)), rowN 90 6 vF st.2.1.fs.length (frs st.2.1.fs), vault st.2.1.rs, bx gV 79 (dvc st.2.2.1.fu vd mD st.2.2.1.cn), rowN 81 256 vd st.2.2.1.ls.length (secs st.2.2.1.ls), mp secM mD st.2.2.1.es, bag st.2.2.1.es]) (fun st => [(0, v0), (1, v1), (7, hC gK), (9, st.2.2.2.2), (10, .int .i64 (st.1 : Int))]) (fun st => 30 - st.1) ((0, C00, S00, [], v33)) ?_ takesA frsA (fun st km hx hk => ?_)
    · exact ⟨Nat.zero_le _, hI00 40, hD00, hst, hpi, hv33, Nat.zero_le _⟩
    obtain ⟨i, C, S, held, vh⟩ := st
    obtain ⟨hi, hCI, hDI, hK, hP, hvh, hhl⟩ := hx
    dsimp only at hi hCI hDI hK hP hvh hhl hk ⊢
    have hkm : km = 30 - i := hk
    clear hk
    have hfl : C.vw.fs.length = 8 := by show (C.fs.map Frm.vw).length = 8; rw [List.length_map]; exact hCI.len
    by_cases hin : i < ps.length ∧ i < 30
    · obtain ⟨hil, hi30⟩ := hin
      obtain ⟨no, hno⟩ : ∃ no, ps[i]? = some no := ⟨_, List.getElem?_eq_getElem hil⟩
      have hnv : (intsV ps)[i]? = some (.int .i64 no) := intsV_at hno
      have hil' : (i : Int) < (ps.length : Int) := by omega
      have hi30' : (i : Int) < 30 := by omega
      by_cases hr : 0 ≤ no ∧ no < 40
      · obtain ⟨j, rfl⟩ : ∃ j : Nat, no = (j : Int) := ⟨no.toNat, by omega⟩
        have hj : j < 40 := by omega
        obtain ⟨q1, q2, q3⟩ := hK.getAny (j := j) (by rw [hfl]; omega) (by rw [hfl]; exact hCI.hand) hj hP
        have c50 := cget_t gK gV vF mD vd 40 8 i i C S j hCI hDI (by omega) (by omega) (by omega) (by omega) hj
        unfold RGet at c50
        rcases q3 with ⟨q3, q4⟩ | ⟨q3, q4⟩
        · obtain ⟨iq, g, hat, hg, hgn⟩ := at_hits q4
          have hpin : (C.vw.get S.vw j).1.pin (j : Int) = (setF (C.vw.get S.vw j).1 iq (some { g with pins := g.pins + 1 }), true) := by
            with_unfolding_all (unfold Cv.pin; rw [hat]; dsimp only; rw [hg])
          have hab := abs_get hg
          have hset : (setF (C.vw.get S.vw j).1 iq (some { g with pins := g.pins + 1 })).abs = (C.vw.get S.vw j).1.abs.set iq (some ⟨g.no, g.pins + 1, g.dirty, g.s⟩) := setF_abs
          obtain ⟨C2, hC2⟩ : ∃ C2, C2 = setF (C.vw.get S.vw j).1 iq (some { g with pins := g.pins + 1 }) := ⟨_, rfl⟩
          rw [← hC2] at hpin hset
          rw [q3] at c50
          repeat' (first
           | refine WPl.nil ?_ | refine WPq.then ?_ | refine WPq.thenR ?_ | refine WPq.thenE ?_ | refine WPq.blockN ?_ | refine WPq.blockR ?_ | refine WPq.blockE ?_ | refine WPq.blockO rfl ?_ | refine WPc.seq ?_ | refine WPc.block ?_ | refine WPc.ret ?_ | refine WPc.exit ?_ | refine WPc.skip ?_ | refine WPc.region ?_
           | (refine isCond ?_; first | refine WPc.cT ?_ | refine WPc.cF ?_ | (refine WPc.cQ (fun hc => ?_) (fun hc => ?_) <;> try exact prA))
           | (refine isD 37 ?_; refine WPl.rdX (ReadR.binE rfl rfl BinR.lss (congrArg Value.bool (decide_eq_true hil'))) ?_)
           | (refine isD 40 ?_; refine WPl.rdX (ReadR.binE rfl rfl BinR.lss (congrArg Value.bool (decide_eq_true hi30'))) ?_)
           | (refine isD 48 ?_; refine WPl.rdX (ReadR.indexE1 (i := i) rfl rfl hasA hil) ?_)
           | (refine isD 49 ?_; refine WPl.rdX (ReadR.loadE rfl hasA hnv) ?_)
           | (refine isC 50 ?_; refine WPl.cXs (c50) fun v Γ1 hR => ?_; (obtain ⟨C1, S1, sv, rfl, hsv, hC1, hS1, hCi, hDi, rfl⟩ := hR; have c61 := cpin_t gK gV vF mD vd 40 8 i C1 (j : Int) hCi (by omega) (by omega); unfold RPin at c61; rw [hC1, hpin] at c61); (try dsimp only [putF, List.cons_append, List.nil_append]))
           | (refine isD 54 ?_; refine WPl.rdX (ReadR.binE rfl rfl BinR.eql (congrArg Value.bool (decide_eq_true rfl))) ?_)
           | (refine isD 59 ?_; refine WPl.rdX (ReadR.indexE1 (i := i) rfl rfl hasA hil) ?_)
           | (refine isD 60 ?_; refine WPl.rdX (ReadR.loadE rfl hasA hnv) ?_)
           | (refine isC 61 ?_; refine WPl.cXs (c61) fun v Γ1 hR => ?_; (obtain ⟨C3, rfl, hC3, hCi3, rfl⟩ := hR); (try dsimp only [putF, List.cons_append, List.nil_append]))
           | (refine isD 66 ?_; refine WPl.rdX (ReadR.indexE1 (i := i) rfl rfl hasA hil) ?_)
           | (refine isD 67 ?_; refine WPl.rdX (ReadR.loadE rfl hasA hnv) ?_)
           | (refine isLit ?_; refine WPl.lits fun w68 hw68 => ?_)
           | (refine isD 69 ?_; refine WPl.appN (m := held.length) (m2 := 1) (xs := intsV held) (ys := [.int .i64 (j : Int)]) rfl (fun u hu => by rw [List.mem_singleton.1 hu]; rfl) (by omega) fun v69 hv69 => ?_)
           | (refine isOp ?_; first | refine WPl.rd ?_ | refine WPl.sk ?_ | refine WPl.rdB ?_)
           | (show WPl _ _ _ _ _ _ _ (⟨_, .indexAddr _ _ _, _, _, _, _⟩ :: _) _; refine WPl.rdX (ReadR.indexE rfl rfl hasA (by first | assumption | omega)) ?_)
           | (show WPl _ _ _ _ _ _ _ (⟨_, .fieldAddr _ _ _, _, _, _, _⟩ :: _) _; refine WPl.rdX (ReadR.fieldE rfl hasA (by first | assumption | omega)) ?_)
           | (show WPl _ _ _ _ _ _ _ (⟨_, .load _ _, _, _, _, _⟩ :: _) _; first | refine WPl.rdX (ReadR.loadE rfl hasA (by assumption)) ?_ | refine WPl.rdX (ReadR.loadES (by assumption) (by first | assumption | omega) rfl hasA) ?_)
           | (show WPl _ _ _ _ _ _ _ (⟨_, .slice _ _ _ _ _, _, _, _, _⟩ :: _) _; first | refine WPl.rdX (ReadR.sliceH rfl rfl hasA (by omega)) ?_ | refine WPl.rdX (ReadR.sliceL rfl rfl hasA (by omega)) ?_ | refine WPl.rdX (ReadR.sliceLH rfl rfl rfl hasA (by omega) (by omega)) ?_)
           | (refine WPl.spQ (fun hc => ?_) (fun hc => ?_) <;> try exact prA)
           | fail)
          rw [hrow]
          have hpp : 0 ≤ g.pins := by
            obtain ⟨fr, hfr⟩ : ∃ fr, C1.fs[iq]? = some fr := by
              have : (C1.vw.fs)[iq]? = some (some g) := by rw [hC1]; exact hg
              have h3 : (C1.fs.map Frm.vw)[iq]? = some (some g) := this
              rw [List.getElem?_map] at h3
              cases h4 : C1.fs[iq]? with
              | none => rw [h4] at h3; cases h3
              | some fr => exact ⟨fr, rfl⟩
            have h3 : (C1.fs.map Frm.vw)[iq]? = some (some g) := by show C1.vw.fs[iq]? = _; rw [hC1]; exact hg
            rw [List.getElem?_map, hfr] at h3
            have h4 : fr.vw = some g := Option.some.inj h3
            have h5 := (hCi.each fr (List.mem_of_getElem? hfr)).pin0
            unfold Frm.vw at h4
            split at h4
            · cases h4; exact h5
            · cases h4
          have hPn := q2.pin hab hpp
          have hKn := q1.pin hab hgn (g.pins + 1)
          rw [← hset] at hPn hKn
          rw [show (⟨g.no, g.pins, g.dirty, g.s⟩ : Fq).no = (j : Int) from hgn] at hPn
          exact WPq.rnd (i + 1, C3, S1, held ++ [(j : Int)], v69) ⟨hi30, hCi3, hDi, by rw [hC3, hS1]; exact hKn, by rw [hC3]; exact hPn, hv69, by rw [List.length_append]; show _ + 1 ≤ _; omega⟩ (by dsimp only; omega)
        · have hge : ¬ (held.length : Int) < 8 := by rw [hfl] at q4; omega
          rw [q3] at c50
          repeat' (first
           | refine WPl.nil ?_ | refine WPq.then ?_ | refine WPq.thenR ?_ | refine WPq.thenE ?_ | refine WPq.blockN ?_ | refine WPq.blockR ?_ | refine WPq.blockE ?_ | refine WPq.blockO rfl ?_ | refine WPc.seq ?_ | refine WPc.block ?_ | refine WPc.ret ?_ | refine WPc.exit ?_ | refine WPc.skip ?_ | refine WPc.region ?_
           | (refine isCond ?_; first | refine WPc.cT ?_ | refine WPc.cF ?_ | (refine WPc.cQ (fun hc => ?_) (fun hc => ?_) <;> try exact prA))
           | (refine isD 37 ?_; refine WPl.rdX (ReadR.binE rfl rfl BinR.lss (congrArg Value.bool (decide_eq_true hil'))) ?_)
           | (refine isD 40 ?_; refine WPl.rdX (ReadR.binE rfl rfl BinR.lss (congrArg Value.bool (decide_eq_true hi30'))) ?_)
           | (refine isD 48 ?_; refine WPl.rdX (ReadR.indexE1 (i := i) rfl rfl hasA hil) ?_)
           | (refine isD 49 ?_; refine WPl.rdX (ReadR.loadE rfl hasA hnv) ?_)
           | (refine isC 50 ?_; refine WPl.cXs (c50) fun v Γ1 hR => ?_; (obtain ⟨C1, S1, sv, rfl, hsv, hC1, hS1, hCi, hDi, rfl⟩ := hR); (try dsimp only [putF, List.cons_append, List.nil_append]))
           | (refine isD 54 ?_; refine WPl.rdX (ReadR.binE rfl rfl BinR.eql (congrArg Value.bool (decide_eq_false (show ¬ (11 : Int) = 0 by omega)))) ?_)
           | (refine isD 72 ?_; refine WPl.rdX (ReadR.binE rfl rfl BinR.lss (congrArg Value.bool (decide_eq_false hge))) ?_)
           | (refine isOp ?_; first | refine WPl.rd ?_ | refine WPl.sk ?_ | refine WPl.rdB ?_)
           | (show WPl _ _ _ _ _ _ _ (⟨_, .indexAddr _ _ _, _, _, _, _⟩ :: _) _; refine WPl.rdX (ReadR.indexE rfl rfl hasA (by first | assumption | omega)) ?_)
           | (show WPl _ _ _ _ _ _ _ (⟨_, .fieldAddr _ _ _, _, _, _, _⟩ :: _) _; refine WPl.rdX (ReadR.fieldE rfl hasA (by first | assumption | omega)) ?_)
           | (show WPl _ _ _ _ _ _ _ (⟨_, .load _ _, _, _, _, _⟩ :: _) _; first | refine WPl.rdX (ReadR.loadE rfl hasA (by assumption)) ?_ | refine WPl.rdX (ReadR.loadES (by assumption) (by first | assumption | omega) rfl hasA) ?_)
           | (show WPl _ _ _ _ _ _ _ (⟨_, .slice _ _ _ _ _, _, _, _, _⟩ :: _) _; first | refine WPl.rdX (ReadR.sliceH rfl rfl hasA (by omega)) ?_ | refine WPl.rdX (ReadR.sliceL rfl rfl hasA (by omega)) ?_ | refine WPl.rdX (ReadR.sliceLH rfl rfl rfl hasA (by omega) (by omega)) ?_)
           | (refine WPl.spQ (fun hc => ?_) (fun hc => ?_) <;> try exact prA)
           | fail)
          exact WPq.rnd (i + 1, C1, S1, held, vh) ⟨hi30, hCi.mono (Nat.le_succ _), hDi, by rw [hC1, hS1]; exact q1, by rw [hC1]; exact q2, hvh, by dsimp only; omega⟩ (by dsimp only; omega)
      · have c50 := cgetNo_t gK gV vF mD vd 40 8 i i C S no hCI hDI (by omega) (by omega)
        unfold RGet at c50
        have hRD : True := trivial
        by_cases hn0 : no ≥ 0
        · have hn1 : ¬ no < 40 := by omega
          by_cases hge : (held.length : Int) < 8
          · skip
            repeat' (first
             | refine WPl.nil ?_ | refine WPq.then ?_ | refine WPq.thenR ?_ | refine WPq.thenE ?_ | refine WPq.blockN ?_ | refine WPq.blockR ?_ | refine WPq.blockE ?_ | refine WPq.blockO rfl ?_ | refine WPc.seq ?_ | refine WPc.block ?_ | refine WPc.ret ?_ | refine WPc.exit ?_ | refine WPc.skip ?_ | refine WPc.region ?_
             | (refine isCond ?_; first | refine WPc.cT ?_ | refine WPc.cF ?_ | (refine WPc.cQ (fun hc => ?_) (fun hc => ?_) <;> try exact prA))
             | (refine isD 37 ?_; refine WPl.rdX (ReadR.binE rfl rfl BinR.lss (congrArg Value.bool (decide_eq_true hil'))) ?_)
             | (refine isD 40 ?_; refine WPl.rdX (ReadR.binE rfl rfl BinR.lss (congrArg Value.bool (decide_eq_true hi30'))) ?_)
             | (refine isD 48 ?_; refine WPl.rdX (ReadR.indexE1 (i := i) rfl rfl hasA hil) ?_)
             | (refine isD 49 ?_; refine WPl.rdX (ReadR.loadE rfl hasA hnv) ?_)
             | (refine isC 50 ?_; refine WPl.cXs (c50) fun v Γ1 hR => ?_; (obtain ⟨C1, S1, sv, rfl, hsv, hC1, hS1, hCi, hDi, rfl⟩ := hR); (try dsimp only [putF, List.cons_append, List.nil_append]))
             | (refine isD 54 ?_; refine WPl.rdX (ReadR.binE rfl rfl BinR.eql (congrArg Value.bool (decide_eq_false (show ¬ (1 : Int) = 0 by omega)))) ?_)
             | (refine isD 72 ?_; refine WPl.rdX (ReadR.binE rfl rfl BinR.lss (congrArg Value.bool (decide_eq_true hge))) ?_)
             | (refine isD 76 ?_; refine WPl.rdX (ReadR.indexE1 (i := i) rfl rfl hasA hil) ?_)
             | (refine isD 77 ?_; refine WPl.rdX (ReadR.loadE rfl hasA hnv) ?_)
             | (refine isD 78 ?_; refine WPl.rdX (ReadR.binE rfl rfl BinR.geq (congrArg Value.bool (decide_eq_true hn0))) ?_)
             | (refine isD 83 ?_; refine WPl.rdX (ReadR.indexE1 (i := i) rfl rfl hasA hil) ?_)
             | (refine isD 84 ?_; refine WPl.rdX (ReadR.loadE rfl hasA hnv) ?_)
             | (refine isD 85 ?_; refine WPl.rdX (ReadR.binE rfl rfl BinR.lss (congrArg Value.bool (decide_eq_false hn1))) ?_)
             | (refine isOp ?_; first | refine WPl.rd ?_ | refine WPl.sk ?_ | refine WPl.rdB ?_)
             | (show WPl _ _ _ _ _ _ _ (⟨_, .indexAddr _ _ _, _, _, _, _⟩ :: _) _; refine WPl.rdX (ReadR.indexE rfl rfl hasA (by first | assumption | omega)) ?_)
             | (show WPl _ _ _ _ _ _ _ (⟨_, .fieldAddr _ _ _, _, _, _, _⟩ :: _) _; refine WPl.rdX (ReadR.fieldE rfl hasA (by first | assumption | omega)) ?_)
             | (show WPl _ _ _ _ _ _ _ (⟨_, .load _ _, _, _, _, _⟩ :: _) _; first | refine WPl.rdX (ReadR.loadE rfl hasA (by assumption)) ?_ | refine WPl.rdX (ReadR.loadES (by assumption) (by first | assumption | omega) rfl hasA) ?_)
             | (show WPl _ _ _ _ _ _ _ (⟨_, .slice _ _ _ _ _, _, _, _, _⟩ :: _) _; first | refine WPl.rdX (ReadR.sliceH rfl rfl hasA (by omega)) ?_ | refine WPl.rdX (ReadR.sliceL rfl rfl hasA (by omega)) ?_ | refine WPl.rdX (ReadR.sliceLH rfl rfl rfl hasA (by omega) (by omega)) ?_)
             | (refine WPl.spQ (fun hc => ?_) (fun hc => ?_) <;> try exact prA)
             | fail)
            exact WPq.rnd (i + 1, C1, S1, held, vh) ⟨hi30, hCi.mono (Nat.le_succ _), hDi.mono (Nat.le_succ _), by rw [hC1, hS1]; exact hK, by rw [hC1]; exact hP, hvh, by dsimp only; omega⟩ (by dsimp only; omega)
          · skip
            repeat' (first
             | refine WPl.nil ?_ | refine WPq.then ?_ | refine WPq.thenR ?_ | refine WPq.thenE ?_ | refine WPq.blockN ?_ | refine WPq.blockR ?_ | refine WPq.blockE ?_ | refine WPq.blockO rfl ?_ | refine WPc.seq ?_ | refine WPc.block ?_ | refine WPc.ret ?_ | refine WPc.exit ?_ | refine WPc.skip ?_ | refine WPc.region ?_
             | (refine isCond ?_; first | refine WPc.cT ?_ | refine WPc.cF ?_ | (refine WPc.cQ (fun hc => ?_) (fun hc => ?_) <;> try exact prA))
             | (refine isD 37 ?_; refine WPl.rdX (ReadR.binE rfl rfl BinR.lss (congrArg Value.bool (decide_eq_true hil'))) ?_)
             | (refine isD 40 ?_; refine WPl.rdX (ReadR.binE rfl rfl BinR.lss (congrArg Value.bool (decide_eq_true hi30'))) ?_)
             | (refine isD 48 ?_; refine WPl.rdX (ReadR.indexE1 (i := i) rfl rfl hasA hil) ?_)
             | (refine isD 49 ?_; refine WPl.rdX (ReadR.loadE rfl hasA hnv) ?_)
             | (refine isC 50 ?_; refine WPl.cXs (c50) fun v Γ1 hR => ?_; (obtain ⟨C1, S1, sv, rfl, hsv, hC1, hS1, hCi, hDi, rfl⟩ := hR); (try dsimp only [putF, List.cons_append, List.nil_append]))
             | (refine isD 54 ?_; refine WPl.rdX (ReadR.binE rfl rfl BinR.eql (congrArg Value.bool (decide_eq_false (show ¬ (1 : Int) = 0 by omega)))) ?_)
             | (refine isD 72 ?_; refine WPl.rdX (ReadR.binE rfl rfl BinR.lss (congrArg Value.bool (decide_eq_false hge))) ?_)
             | (refine isOp ?_; first | refine WPl.rd ?_ | refine WPl.sk ?_ | refine WPl.rdB ?_)
             | (show WPl _ _ _ _ _ _ _ (⟨_, .indexAddr _ _ _, _, _, _, _⟩ :: _) _; refine WPl.rdX (ReadR.indexE rfl rfl hasA (by first | assumption | omega)) ?_)
             | (show WPl _ _ _ _ _ _ _ (⟨_, .fieldAddr _ _ _, _, _, _, _⟩ :: _) _; refine WPl.rdX (ReadR.fieldE rfl hasA (by first | assumption | omega)) ?_)
             | (show WPl _ _ _ _ _ _ _ (⟨_, .load _ _, _, _, _, _⟩ :: _) _; first | refine WPl.rdX (ReadR.loadE rfl hasA (by assumption)) ?_ | refine WPl.rdX (ReadR.loadES (by assumption) (by first | assumption | omega) rfl hasA) ?_)
             | (show WPl _ _ _ _ _ _ _ (⟨_, .slice _ _ _ _ _, _, _, _, _⟩ :: _) _; first | refine WPl.rdX (ReadR.sliceH rfl rfl hasA (by omega)) ?_ | refine WPl.rdX (ReadR.sliceL rfl rfl hasA (by omega)) ?_ | refine WPl.rdX (ReadR.sliceLH rfl rfl rfl hasA (by omega) (by omega)) ?_)
             | (refine WPl.spQ (fun hc => ?_) (fun hc => ?_) <;> try exact prA)
             | fail)
            exact WPq.rnd (i + 1, C1, S1, held, vh) ⟨hi30, hCi.mono (Nat.le_succ _), hDi.mono (Nat.le_succ _), by rw [hC1, hS1]; exact hK, by rw [hC1]; exact hP, hvh, by dsimp only; omega⟩ (by dsimp only; omega)
        · by_cases hge : (held.length : Int) < 8
          · skip
            repeat' (first
             | refine WPl.nil ?_ | refine WPq.then ?_ | refine WPq.thenR ?_ | refine WPq.thenE ?_ | refine WPq.blockN ?_ | refine WPq.blockR ?_ | refine WPq.blockE ?_ | refine WPq.blockO rfl ?_ | refine WPc.seq ?_ | refine WPc.block ?_ | refine WPc.ret ?_ | refine WPc.exit ?_ | refine WPc.skip ?_ | refine WPc.region ?_
             | (refine isCond ?_; first | refine WPc.cT ?_ | refine WPc.cF ?_ | (refine WPc.cQ (fun hc => ?_) (fun hc => ?_) <;> try exact prA))
             | (refine isD 37 ?_; refine WPl.rdX (ReadR.binE rfl rfl BinR.lss (congrArg Value.bool (decide_eq_true hil'))) ?_)
             | (refine isD 40 ?_; refine WPl.rdX (ReadR.binE rfl rfl BinR.lss (congrArg Value.bool (decide_eq_true hi30'))) ?_)
             | (refine isD 48 ?_; refine WPl.rdX (ReadR.indexE1 (i := i) rfl rfl hasA hil) ?_)
             | (refine isD 49 ?_; refine WPl.rdX (ReadR.loadE rfl hasA hnv) ?_)
             | (refine isC 50 ?_; refine WPl.cXs (c50) fun v Γ1 hR => ?_; (obtain ⟨C1, S1, sv, rfl, hsv, hC1, hS1, hCi, hDi, rfl⟩ := hR); (try dsimp only [putF, List.cons_append, List.nil_append]))
             | (refine isD 54 ?_; refine WPl.rdX (ReadR.binE rfl rfl BinR.eql (congrArg Value.bool (decide_eq_false (show ¬ (1 : Int) = 0 by omega)))) ?_)
             | (refine isD 72 ?_; refine WPl.rdX (ReadR.binE rfl rfl BinR.lss (congrArg Value.bool (decide_eq_true hge))) ?_)
             | (refine isD 76 ?_; refine WPl.rdX (ReadR.indexE1 (i := i) rfl rfl hasA hil) ?_)
             | (refine isD 77 ?_; refine WPl.rdX (ReadR.loadE rfl hasA hnv) ?_)
             | (refine isD 78 ?_; refine WPl.rdX (ReadR.binE rfl rfl BinR.geq (congrArg Value.bool (decide_eq_false hn0))) ?_)
             | (refine isOp ?_; first | refine WPl.rd ?_ | refine WPl.sk ?_ | refine WPl.rdB ?_)
             | (show WPl _ _ _ _ _ _ _ (⟨_, .indexAddr _ _ _, _, _, _, _⟩ :: _) _; refine WPl.rdX (ReadR.indexE rfl rfl hasA (by first | assumption | omega)) ?_)
             | (show WPl _ _ _ _ _ _ _ (⟨_, .fieldAddr _ _ _, _, _, _, _⟩ :: _) _; refine WPl.rdX (ReadR.fieldE rfl hasA (by first | assumption | omega)) ?_)
             | (show WPl _ _ _ _ _ _ _ (⟨_, .load _ _, _, _, _, _⟩ :: _) _; first | refine WPl.rdX (ReadR.loadE rfl hasA (by assumption)) ?_ | refine WPl.rdX (ReadR.loadES (by assumption) (by first | assumption | omega) rfl hasA) ?_)
             | (show WPl _ _ _ _ _ _ _ (⟨_, .slice _ _ _ _ _, _, _, _, _⟩ :: _) _; first | refine WPl.rdX (ReadR.sliceH rfl rfl hasA (by omega)) ?_ | refine WPl.rdX (ReadR.sliceL rfl rfl hasA (by omega)) ?_ | refine WPl.rdX (ReadR.sliceLH rfl rfl rfl hasA (by omega) (by omega)) ?_)
             | (refine WPl.spQ (fun hc => ?_) (fun hc => ?_) <;> try exact prA)
             | fail)
            exact WPq.rnd (i + 1, C1, S1, held, vh) ⟨hi30, hCi.mono (Nat.le_succ _), hDi.mono (Nat.le_succ _), by rw [hC1, hS1]; exact hK, by rw [hC1]; exact hP, hvh, by dsimp only; omega⟩ (by dsimp only; omega)
          · skip
            repeat' (first
             | refine WPl.nil ?_ | refine WPq.then ?_ | refine WPq.thenR ?_ | refine WPq.thenE ?_ | refine WPq.blockN ?_ | refine WPq.blockR ?_ | refine WPq.blockE ?_ | refine WPq.blockO rfl ?_ | refine WPc.seq ?_ | refine WPc.block ?_ | refine WPc.ret ?_ | refine WPc.exit ?_ | refine WPc.skip ?_ | refine WPc.region ?_
             | (refine isCond ?_; first | refine WPc.cT ?_ | refine WPc.cF ?_ | (refine WPc.cQ (fun hc => ?_) (fun hc => ?_) <;> try exact prA))
             | (refine isD 37 ?_; refine WPl.rdX (ReadR.binE rfl rfl BinR.lss (congrArg Value.bool (decide_eq_true hil'))) ?_)
             | (refine isD 40 ?_; refine WPl.rdX (ReadR.binE rfl rfl BinR.lss (congrArg Value.bool (decide_eq_true hi30'))) ?_)
             | (refine isD 48 ?_; refine WPl.rdX (ReadR.indexE1 (i := i) rfl rfl hasA hil) ?_)
             | (refine isD 49 ?_; refine WPl.rdX (ReadR.loadE rfl hasA hnv) ?_)
             | (refine isC 50 ?_; refine WPl.cXs (c50) fun v Γ1 hR => ?_; (obtain ⟨C1, S1, sv, rfl, hsv, hC1, hS1, hCi, hDi, rfl⟩ := hR); (try dsimp only [putF, List.cons_append, List.nil_append]))
             | (refine isD 54 ?_; refine WPl.rdX (ReadR.binE rfl rfl BinR.eql (congrArg Value.bool (decide_eq_false (show ¬ (1 : Int) = 0 by omega)))) ?_)
             | (refine isD 72 ?_; refine WPl.rdX (ReadR.binE rfl rfl BinR.lss (congrArg Value.bool (decide_eq_false hge))) ?_)
             | (refine isOp ?_; first | refine WPl.rd ?_ | refine WPl.sk ?_ | refine WPl.rdB ?_)
             | (show WPl _ _ _ _ _ _ _ (⟨_, .indexAddr _ _ _, _, _, _, _⟩ :: _) _; refine WPl.rdX (ReadR.indexE rfl rfl hasA (by first | assumption | omega)) ?_)
             | (show WPl _ _ _ _ _ _ _ (⟨_, .fieldAddr _ _ _, _, _, _, _⟩ :: _) _; refine WPl.rdX (ReadR.fieldE rfl hasA (by first | assumption | omega)) ?_)
             | (show WPl _ _ _ _ _ _ _ (⟨_, .load _ _, _, _, _, _⟩ :: _) _; first | refine WPl.rdX (ReadR.loadE rfl hasA (by assumption)) ?_ | refine WPl.rdX (ReadR.loadES (by assumption) (by first | assumption | omega) rfl hasA) ?_)
             | (show WPl _ _ _ _ _ _ _ (⟨_, .slice _ _ _ _ _, _, _, _, _⟩ :: _) _; first | refine WPl.rdX (ReadR.sliceH rfl rfl hasA (by omega)) ?_ | refine WPl.rdX (ReadR.sliceL rfl rfl hasA (by omega)) ?_ | refine WPl.rdX (ReadR.sliceLH rfl rfl rfl hasA (by omega) (by omega)) ?_)
             | (refine WPl.spQ (fun hc => ?_) (fun hc => ?_) <;> try exact prA)
             | fail)
            exact WPq.rnd (i + 1, C1, S1, held, vh) ⟨hi30, hCi.mono (Nat.le_succ _), hDi.mono (Nat.le_succ _), by rw [hC1, hS1]; exact hK, by rw [hC1]; exact hP, hvh, by dsimp only; omega⟩ (by dsimp only; omega)
    · by_cases hil : i < ps.length
      · have hil' : (i : Int) < (ps.length : Int) := by omega
        have hi30' : ¬ (i : Int) < 30 := by omega
        repeat' (first
         | refine WPl.nil ?_ | refine WPq.then ?_ | refine WPq.thenR ?_ | refine WPq.thenE ?_ | refine WPq.blockN ?_ | refine WPq.blockR ?_ | refine WPq.blockE ?_ | refine WPq.blockO rfl ?_ | refine WPc.seq ?_ | refine WPc.block ?_ | refine WPc.ret ?_ | refine WPc.exit ?_ | refine WPc.skip ?_ | refine WPc.region ?_
         | (refine isCond ?_; first | refine WPc.cT ?_ | refine WPc.cF ?_ | (refine WPc.cQ (fun hc => ?_) (fun hc => ?_) <;> try exact prA))
         | (refine isD 37 ?_; refine WPl.rdX (ReadR.binE rfl rfl BinR.lss (congrArg Value.bool (decide_eq_true hil'))) ?_)
         | (refine isD 40 ?_; refine WPl.rdX (ReadR.binE rfl rfl BinR.lss (congrArg Value.bool (decide_eq_false hi30'))) ?_)
         | (refine isOp ?_; first | refine WPl.rd ?_ | refine WPl.sk ?_ | refine WPl.rdB ?_)
         | (show WPl _ _ _ _ _ _ _ (⟨_, .indexAddr _ _ _, _, _, _, _⟩ :: _) _; refine WPl.rdX (ReadR.indexE rfl rfl hasA (by first | assumption | omega)) ?_)
         | (show WPl _ _ _ _ _ _ _ (⟨_, .fieldAddr _ _ _, _, _, _, _⟩ :: _) _; refine WPl.rdX (ReadR.fieldE rfl hasA (by first | assumption | omega)) ?_)
         | (show WPl _ _ _ _ _ _ _ (⟨_, .load _ _, _, _, _, _⟩ :: _) _; first | refine WPl.rdX (ReadR.loadE rfl hasA (by assumption)) ?_ | refine WPl.rdX (ReadR.loadES (by assumption) (by first | assumption | omega) rfl hasA) ?_)
         | (show WPl _ _ _ _ _ _ _ (⟨_, .slice _ _ _ _ _, _, _, _, _⟩ :: _) _; first | refine WPl.rdX (ReadR.sliceH rfl rfl hasA (by omega)) ?_ | refine WPl.rdX (ReadR.sliceL rfl rfl hasA (by omega)) ?_ | refine WPl.rdX (ReadR.sliceLH rfl rfl rfl hasA (by omega) (by omega)) ?_)
         | (refine WPl.spQ (fun hc => ?_) (fun hc => ?_) <;> try exact prA)
         | fail)
        exact WPq.join (C, S, held, vh) ⟨⟨i, i, hi, hi, hCI, hDI⟩, hK, hP, hvh, by dsimp only; omega⟩
      · have hil' : ¬ (i : Int) < (ps.length : Int) := by omega
        repeat' (first
         | refine WPl.nil ?_ | refine WPq.then ?_ | refine WPq.thenR ?_ | refine WPq.thenE ?_ | refine WPq.blockN ?_ | refine WPq.blockR ?_ | refine WPq.blockE ?_ | refine WPq.blockO rfl ?_ | refine WPc.seq ?_ | refine WPc.block ?_ | refine WPc.ret ?_ | refine WPc.exit ?_ | refine WPc.skip ?_ | refine WPc.region ?_
         | (refine isCond ?_; first | refine WPc.cT ?_ | refine WPc.cF ?_ | (refine WPc.cQ (fun hc => ?_) (fun hc => ?_) <;> try exact prA))
         | (refine isD 37 ?_; refine WPl.rdX (ReadR.binE rfl rfl BinR.lss (congrArg Value.bool (decide_eq_false hil'))) ?_)
         | (refine isOp ?_; first | refine WPl.rd ?_ | refine WPl.sk ?_ | refine WPl.rdB ?_)
         | (show WPl _ _ _ _ _ _ _ (⟨_, .indexAddr _ _ _, _, _, _, _⟩ :: _) _; refine WPl.rdX (ReadR.indexE rfl rfl hasA (by first | assumption | omega)) ?_)
         | (show WPl _ _ _ _ _ _ _ (⟨_, .fieldAddr _ _ _, _, _, _, _⟩ :: _) _; refine WPl.rdX (ReadR.fieldE rfl hasA (by first | assumption | omega)) ?_)
         | (show WPl _ _ _ _ _ _ _ (⟨_, .load _ _, _, _, _, _⟩ :: _) _; first | refine WPl.rdX (ReadR.loadE rfl hasA (by assumption)) ?_ | refine WPl.rdX (ReadR.loadES (by assumption) (by first | assumption | omega) rfl hasA) ?_)
         | (show WPl _ _ _ _ _ _ _ (⟨_, .slice _ _ _ _ _, _, _, _, _⟩ :: _) _; first | refine WPl.rdX (ReadR.sliceH rfl rfl hasA (by omega)) ?_ | refine WPl.rdX (ReadR.sliceL rfl rfl hasA (by omega)) ?_ | refine WPl.rdX (ReadR.sliceLH rfl rfl rfl hasA (by omega) (by omega)) ?_)
         | (refine WPl.spQ (fun hc => ?_) (fun hc => ?_) <;> try exact prA)
         | fail)
        exact WPq.join (C, S, held, vh) ⟨⟨i, i, hi, hi, hCI, hDI⟩, hK, hP, hvh, by dsimp only; omega⟩
  · clear hst
    obtain ⟨C6, S6, held, vh⟩ := st
    obtain ⟨⟨k6, p6, hk6, hp6, hCI6, hDI6⟩, hK6, hP6, hvh, hhl⟩ := hx
    dsimp only at hCI6 hDI6 hK6 hP6 hvh hhl ⊢
    first | refine WPc.loop (σ := Nat × CS × DS) (fun st => st.1 ≤ 30 ∧ CInv 40 8 p6 st.2.1 ∧ DInv 40 (k6 + st.1) st.2.2 ∧ KI st.2.1.vw.abs st.2.2.vw (fun _ => secF 0) 40 ∧ PinI st.2.1.vw.abs held) (fun st => [rdN v0 ps.length (intsV ps), rdN v1 more.length (intsV more), rowN 3 1 vh held.length (intsV held), bx gK 86 (cxc gV vF (st.2.1.hand : Int)), rowN 90 6 vF st.2.1.fs.length (frs st.2.1.fs), vault st.2.1.rs, bx gV 79 (dvc st.2.2.fu vd mD st.2.2.cn), rowN 81 256 vd st.2.2.ls.length (secs st.2.2.ls), mp secM mD st.2.2.es, bag st.2.2.es]) (fun st => [(1, v1), (7, hC gK), (9, vh), (13, .int .i64 (st.1 : Int))]) (fun st => 30 - st.1) ((0, C6, S6)) ?_ takesA frsA (fun st km hx hk => ?_)
    · exact ⟨Nat.zero_le _, hCI6, hDI6, hK6, hP6⟩
    obtain ⟨i, C, S⟩ := st
    obtain ⟨hi, hCI, hDI, hK, hP⟩ := hx
    dsimp only at hi hCI hDI hK hP hk ⊢
    have hkm : km = 30 - i := hk
    clear hk
    have hfl : C.vw.fs.length = 8 := by show (C.fs.map Frm.vw).length = 8; rw [List.length_map]; exact hCI.len
    by_cases hin : i < more.length ∧ i < 30
    · obtain ⟨hil, hi30⟩ := hin
      obtain ⟨no, hno⟩ : ∃ no, more[i]? = some no := ⟨_, List.getElem?_eq_getElem hil⟩
      have hnv : (intsV more)[i]? = some (.int .i64 no) := intsV_at hno
      have hil' : (i : Int) < (more.length : Int) := by omega
      have hi30' : (i : Int) < 30 := by omega
      by_cases hr : 0 ≤ no ∧ no < 40
      · obtain ⟨j, rfl⟩ : ∃ j : Nat, no = (j : Int) := ⟨no.toNat, by omega⟩
        have hj : j < 40 := by omega
        obtain ⟨q1, q2, _⟩ := hK.getAny (j := j) (by rw [hfl]; omega) (by rw [hfl]; exact hCI.hand) hj hP
        have c102 := cget_t gK gV vF mD vd 40 8 p6 (k6 + i) C S j hCI hDI (by omega) (by omega) (by omega) (by omega) hj
        unfold RGet at c102
        repeat' (first
         | refine WPl.nil ?_ | refine WPq.then ?_ | refine WPq.thenR ?_ | refine WPq.thenE ?_ | refine WPq.blockN ?_ | refine WPq.blockR ?_ | refine WPq.blockE ?_ | refine WPq.blockO rfl ?_ | refine WPc.seq ?_ | refine WPc.block ?_ | refine WPc.ret ?_ | refine WPc.exit ?_ | refine WPc.skip ?_ | refine WPc.region ?_
         | (refine isCond ?_; first | refine WPc.cT ?_ | refine WPc.cF ?_ | (refine WPc.cQ (fun hc => ?_) (fun hc => ?_) <;> try exact prA))
         | (refine isD 90 ?_; refine WPl.rdX (ReadR.binE rfl rfl BinR.lss (congrArg Value.bool (decide_eq_true hil'))) ?_)
         | (refine isD 93 ?_; refine WPl.rdX (ReadR.binE rfl rfl BinR.lss (congrArg Value.bool (decide_eq_true hi30'))) ?_)
         | (refine isD 100 ?_; refine WPl.rdX (ReadR.indexE1 (i := i) rfl rfl hasA hil) ?_)
         | (refine isD 101 ?_; refine WPl.rdX (ReadR.loadE rfl hasA hnv) ?_)
         | (refine isC 102 ?_; refine WPl.cXs (c102) fun v Γ1 hR => ?_; (obtain ⟨C1, S1, sv, rfl, hsv, hC1, hS1, hCi, hDi, rfl⟩ := hR); (try dsimp only [putF, List.cons_append, List.nil_append]))
         | (refine isOp ?_; first | refine WPl.rd ?_ | refine WPl.sk ?_ | refine WPl.rdB ?_)
         | (show WPl _ _ _ _ _ _ _ (⟨_, .indexAddr _ _ _, _, _, _, _⟩ :: _) _; refine WPl.rdX (ReadR.indexE rfl rfl hasA (by first | assumption | omega)) ?_)
         | (show WPl _ _ _ _ _ _ _ (⟨_, .fieldAddr _ _ _, _, _, _, _⟩ :: _) _; refine WPl.rdX (ReadR.fieldE rfl hasA (by first | assumption | omega)) ?_)
         | (show WPl _ _ _ _ _ _ _ (⟨_, .load _ _, _, _, _, _⟩ :: _) _; first | refine WPl.rdX (ReadR.loadE rfl hasA (by assumption)) ?_ | refine WPl.rdX (ReadR.loadES (by assumption) (by first | assumption | omega) rfl hasA) ?_)
         | (show WPl _ _ _ _ _ _ _ (⟨_, .slice _ _ _ _ _, _, _, _, _⟩ :: _) _; first | refine WPl.rdX (ReadR.sliceH rfl rfl hasA (by omega)) ?_ | refine WPl.rdX (ReadR.sliceL rfl rfl hasA (by omega)) ?_ | refine WPl.rdX (ReadR.sliceLH rfl rfl rfl hasA (by omega) (by omega)) ?_)
         | (refine WPl.spQ (fun hc => ?_) (fun hc => ?_) <;> try exact prA)
         | fail)
        exact WPq.rnd (i + 1, C1, S1) ⟨hi30, hCi, hDi, by rw [hC1, hS1]; exact q1, by rw [hC1]; exact q2⟩ (by dsimp only; omega)
      · have c102 := cgetNo_t gK gV vF mD vd 40 8 p6 (k6 + i) C S no hCI hDI (by omega) (by omega)
        unfold RGet at c102
        repeat' (first
         | refine WPl.nil ?_ | refine WPq.then ?_ | refine WPq.thenR ?_ | refine WPq.thenE ?_ | refine WPq.blockN ?_ | refine WPq.blockR ?_ | refine WPq.blockE ?_ | refine WPq.blockO rfl ?_ | refine WPc.seq ?_ | refine WPc.block ?_ | refine WPc.ret ?_ | refine WPc.exit ?_ | refine WPc.skip ?_ | refine WPc.region ?_
         | (refine isCond ?_; first | refine WPc.cT ?_ | refine WPc.cF ?_ | (refine WPc.cQ (fun hc => ?_) (fun hc => ?_) <;> try exact prA))
         | (refine isD 90 ?_; refine WPl.rdX (ReadR.binE rfl rfl BinR.lss (congrArg Value.bool (decide_eq_true hil'))) ?_)
         | (refine isD 93 ?_; refine WPl.rdX (ReadR.binE rfl rfl BinR.lss (congrArg Value.bool (decide_eq_true hi30'))) ?_)
         | (refine isD 100 ?_; refine WPl.rdX (ReadR.indexE1 (i := i) rfl rfl hasA hil) ?_)
         | (refine isD 101 ?_; refine WPl.rdX (ReadR.loadE rfl hasA hnv) ?_)
         | (refine isC 102 ?_; refine WPl.cXs (c102) fun v Γ1 hR => ?_; (obtain ⟨C1, S1, sv, rfl, hsv, hC1, hS1, hCi, hDi, rfl⟩ := hR); (try dsimp only [putF, List.cons_append, List.nil_append]))
         | (refine isOp ?_; first | refine WPl.rd ?_ | refine WPl.sk ?_ | refine WPl.rdB ?_)
         | (show WPl _ _ _ _ _ _ _ (⟨_, .indexAddr _ _ _, _, _, _, _⟩ :: _) _; refine WPl.rdX (ReadR.indexE rfl rfl hasA (by first | assumption | omega)) ?_)
         | (show WPl _ _ _ _ _ _ _ (⟨_, .fieldAddr _ _ _, _, _, _, _⟩ :: _) _; refine WPl.rdX (ReadR.fieldE rfl hasA (by first | assumption | omega)) ?_)
         | (show WPl _ _ _ _ _ _ _ (⟨_, .load _ _, _, _, _, _⟩ :: _) _; first | refine WPl.rdX (ReadR.loadE rfl hasA (by assumption)) ?_ | refine WPl.rdX (ReadR.loadES (by assumption) (by first | assumption | omega) rfl hasA) ?_)
         | (show WPl _ _ _ _ _ _ _ (⟨_, .slice _ _ _ _ _, _, _, _, _⟩ :: _) _; first | refine WPl.rdX (ReadR.sliceH rfl rfl hasA (by omega)) ?_ | refine WPl.rdX (ReadR.sliceL rfl rfl hasA (by omega)) ?_ | refine WPl.rdX (ReadR.sliceLH rfl rfl rfl hasA (by omega) (by omega)) ?_)
         | (refine WPl.spQ (fun hc => ?_) (fun hc => ?_) <;> try exact prA)
         | fail)
        exact WPq.rnd (i + 1, C1, S1) ⟨hi30, hCi, hDi.mono (Nat.le_succ _), by rw [hC1, hS1]; exact hK, by rw [hC1]; exact hP⟩ (by dsimp only; omega)
    · by_cases hil : i < more.length
      · have hil' : (i : Int) < (more.length : Int) := by omega
        have hi30' : ¬ (i : Int) < 30 := by omega
        repeat' (first
         | refine WPl.nil ?_ | refine WPq.then ?_ | refine WPq.thenR ?_ | refine WPq.thenE ?_ | refine WPq.blockN ?_ | refine WPq.blockR ?_ | refine WPq.blockE ?_ | refine WPq.blockO rfl ?_ | refine WPc.seq ?_ | refine WPc.block ?_ | refine WPc.ret ?_ | refine WPc.exit ?_ | refine WPc.skip ?_ | refine WPc.region ?_
         | (refine isCond ?_; first | refine WPc.cT ?_ | refine WPc.cF ?_ | (refine WPc.cQ (fun hc => ?_) (fun hc => ?_) <;> try exact prA))
         | (refine isD 90 ?_; refine WPl.rdX (ReadR.binE rfl rfl BinR.lss (congrArg Value.bool (decide_eq_true hil'))) ?_)
         | (refine isD 93 ?_; refine WPl.rdX (ReadR.binE rfl rfl BinR.lss (congrArg Value.bool (decide_eq_false hi30'))) ?_)
         | (refine isOp ?_; first | refine WPl.rd ?_ | refine WPl.sk ?_ | refine WPl.rdB ?_)
         | (show WPl _ _ _ _ _ _ _ (⟨_, .indexAddr _ _ _, _, _, _, _⟩ :: _) _; refine WPl.rdX (ReadR.indexE rfl rfl hasA (by first | assumption | omega)) ?_)
         | (show WPl _ _ _ _ _ _ _ (⟨_, .fieldAddr _ _ _, _, _, _, _⟩ :: _) _; refine WPl.rdX (ReadR.fieldE rfl hasA (by first | assumption | omega)) ?_)
         | (show WPl _ _ _ _ _ _ _ (⟨_, .load _ _, _, _, _, _⟩ :: _) _; first | refine WPl.rdX (ReadR.loadE rfl hasA (by assumption)) ?_ | refine WPl.rdX (ReadR.loadES (by assumption) (by first | assumption | omega) rfl hasA) ?_)
         | (show WPl _ _ _ _ _ _ _ (⟨_, .slice _ _ _ _ _, _, _, _, _⟩ :: _) _; first | refine WPl.rdX (ReadR.sliceH rfl rfl hasA (by omega)) ?_ | refine WPl.rdX (ReadR.sliceL rfl rfl hasA (by omega)) ?_ | refine WPl.rdX (ReadR.sliceLH rfl rfl rfl hasA (by omega) (by omega)) ?_)
         | (refine WPl.spQ (fun hc => ?_) (fun hc => ?_) <;> try exact prA)
         | fail)
        exact WPq.join (C, S) ⟨⟨k6 + i, p6, by omega, hp6, hCI, hDI⟩, hP⟩
      · have hil' : ¬ (i : Int) < (more.length : Int) := by omega
        repeat' (first
         | refine WPl.nil ?_ | refine WPq.then ?_ | refine WPq.thenR ?_ | refine WPq.thenE ?_ | refine WPq.blockN ?_ | refine WPq.blockR ?_ | refine WPq.blockE ?_ | refine WPq.blockO rfl ?_ | refine WPc.seq ?_ | refine WPc.block ?_ | refine WPc.ret ?_ | refine WPc.exit ?_ | refine WPc.skip ?_ | refine WPc.region ?_
         | (refine isCond ?_; first | refine WPc.cT ?_ | refine WPc.cF ?_ | (refine WPc.cQ (fun hc => ?_) (fun hc => ?_) <;> try exact prA))
         | (refine isD 90 ?_; refine WPl.rdX (ReadR.binE rfl rfl BinR.lss (congrArg Value.bool (decide_eq_false hil'))) ?_)
         | (refine isOp ?_; first | refine WPl.rd ?_ | refine WPl.sk ?_ | refine WPl.rdB ?_)
         | (show WPl _ _ _ _ _ _ _ (⟨_, .indexAddr _ _ _, _, _, _, _⟩ :: _) _; refine WPl.rdX (ReadR.indexE rfl rfl hasA (by first | assumption | omega)) ?_)
         | (show WPl _ _ _ _ _ _ _ (⟨_, .fieldAddr _ _ _, _, _, _, _⟩ :: _) _; refine WPl.rdX (ReadR.fieldE rfl hasA (by first | assumption | omega)) ?_)
         | (show WPl _ _ _ _ _ _ _ (⟨_, .load _ _, _, _, _, _⟩ :: _) _; first | refine WPl.rdX (ReadR.loadE rfl hasA (by assumption)) ?_ | refine WPl.rdX (ReadR.loadES (by assumption) (by first | assumption | omega) rfl hasA) ?_)
         | (show WPl _ _ _ _ _ _ _ (⟨_, .slice _ _ _ _ _, _, _, _, _⟩ :: _) _; first | refine WPl.rdX (ReadR.sliceH rfl rfl hasA (by omega)) ?_ | refine WPl.rdX (ReadR.sliceL rfl rfl hasA (by omega)) ?_ | refine WPl.rdX (ReadR.sliceLH rfl rfl rfl hasA (by omega) (by omega)) ?_)
         | (refine WPl.spQ (fun hc => ?_) (fun hc => ?_) <;> try exact prA)
         | fail)
        exact WPq.join (C, S) ⟨⟨k6 + i, p6, by omega, hp6, hCI, hDI⟩, hP⟩
  clear hst
  obtain ⟨C, S⟩ := st
  obtain ⟨⟨k, p, hkk, hpp, hCI, hDI⟩, hP⟩ := hx
  obtain ⟨C6, S6, held, vh⟩ := st
  obtain ⟨_, _, _, hvh, hhl⟩ := hx
  dsimp only at hCI hDI hP hvh hhl ⊢
  have c104 := cheld_t gK gV vF 40 8 p C hCI (by omega)
  have hle := held_len C.vw
  have hfl : C.vw.fs.length = 8 := by show (C.fs.map Frm.vw).length = 8; rw [List.length_map]; exact hCI.len
  rw [hfl] at hle
  have hmem : ∀ no ∈ held, no ∈ C.vw.held := fun no hno => by
    obtain ⟨i, f, h1, h2, _⟩ := hP.here no hno
    exact mem_held.2 ⟨i, f, h1, h2⟩
  obtain ⟨LH, hLH⟩ : ∃ LH, LH = C.vw.held := ⟨_, rfl⟩
  rw [← hLH] at c104 hle hmem
  have hleq : (LH.length : Int) ≤ 8 := by omega
  clear hLH
  repeat' (first
   | refine WPl.nil ?_ | refine WPq.then ?_ | refine WPq.thenR ?_ | refine WPq.thenE ?_ | refine WPq.blockN ?_ | refine WPq.blockR ?_ | refine WPq.blockE ?_ | refine WPq.blockO rfl ?_ | refine WPc.seq ?_ | refine WPc.block ?_ | refine WPc.ret ?_ | refine WPc.exit ?_ | refine WPc.skip ?_ | refine WPc.region ?_
   | (refine isCond ?_; first | refine WPc.cT ?_ | refine WPc.cF ?_ | (refine WPc.cQ (fun hc => ?_) (fun hc => ?_) <;> try exact prA))
   | (refine isC 104 ?_; refine WPl.cR c104 (fun wl hwl => ?_) (hΔ := provsW))
   | (refine isOp ?_; first | refine WPl.rd ?_ | refine WPl.sk ?_ | refine WPl.rdB ?_)
   | (show WPl _ _ _ _ _ _ _ (⟨_, .indexAddr _ _ _, _, _, _, _⟩ :: _) _; refine WPl.rdX (ReadR.indexE rfl rfl hasA (by first | assumption | omega)) ?_)
   | (show WPl _ _ _ _ _ _ _ (⟨_, .fieldAddr _ _ _, _, _, _, _⟩ :: _) _; refine WPl.rdX (ReadR.fieldE rfl hasA (by first | assumption | omega)) ?_)
   | (show WPl _ _ _ _ _ _ _ (⟨_, .load _ _, _, _, _, _⟩ :: _) _; first | refine WPl.rdX (ReadR.loadE rfl hasA (by assumption)) ?_ | refine WPl.rdX (ReadR.loadES (by assumption) (by first | assumption | omega) rfl hasA) ?_)
   | (show WPl _ _ _ _ _ _ _ (⟨_, .slice _ _ _ _ _, _, _, _, _⟩ :: _) _; first | refine WPl.rdX (ReadR.sliceH rfl rfl hasA (by omega)) ?_ | refine WPl.rdX (ReadR.sliceL rfl rfl hasA (by omega)) ?_ | refine WPl.rdX (ReadR.sliceLH rfl rfl rfl hasA (by omega) (by omega)) ?_)
   | (refine WPl.spQ (fun hc => ?_) (fun hc => ?_) <;> try exact prA)
   | fail)
  first | refine WPc.loop (σ := Nat) (fun st => st ≤ held.length) (fun st => [rowN 3 1 wl LH.length (intsV LH), rowN 3 1 vh held.length (intsV held)]) (fun st => [(9, vh), (14, wl), (15, .int .i64 (st : Int))]) (fun st => held.length - st) (0) ?_ takesA frsA (fun st km hx hk => ?_)
  · exact Nat.zero_le _
  obtain ⟨i, rfl⟩ : ∃ i, i = st := ⟨_, rfl⟩
  have hi : i ≤ held.length := hx
  have hkm : km = held.length - i := hk
  clear hk hx
  by_cases hin : i < held.length
  · obtain ⟨a, ha⟩ : ∃ a, held[i]? = some a := ⟨_, List.getElem?_eq_getElem hin⟩
    have hav : (intsV held)[i]? = some (.int .i64 a) := intsV_at ha
    have haL := hmem a (List.mem_of_getElem? ha)
    repeat' (first
     | refine WPl.nil ?_ | refine WPq.then ?_ | refine WPq.thenR ?_ | refine WPq.thenE ?_ | refine WPq.blockN ?_ | refine WPq.blockR ?_ | refine WPq.blockE ?_ | refine WPq.blockO rfl ?_ | refine WPc.seq ?_ | refine WPc.block ?_ | refine WPc.ret ?_ | refine WPc.exit ?_ | refine WPc.skip ?_ | refine WPc.region ?_
     | (refine isCond ?_; first | refine WPc.cT ?_ | refine WPc.cF ?_ | (refine WPc.cQ (fun hc => ?_) (fun hc => ?_) <;> try first | exact prA | (exfalso; first | omega)))
     | (refine isOp ?_; first | refine WPl.rd ?_ | refine WPl.sk ?_ | refine WPl.rdB ?_)
     | (show WPl _ _ _ _ _ _ _ (⟨_, .indexAddr _ _ _, _, _, _, _⟩ :: _) _; refine WPl.rdX (ReadR.indexE rfl rfl hasA (by first | assumption | omega)) ?_)
     | (show WPl _ _ _ _ _ _ _ (⟨_, .fieldAddr _ _ _, _, _, _, _⟩ :: _) _; refine WPl.rdX (ReadR.fieldE rfl hasA (by first | assumption | omega)) ?_)
     | (show WPl _ _ _ _ _ _ _ (⟨_, .load _ _, _, _, _, _⟩ :: _) _; first | refine WPl.rdX (ReadR.loadE rfl hasA (by assumption)) ?_ | refine WPl.rdX (ReadR.loadES (by assumption) (by first | assumption | omega) rfl hasA) ?_)
     | (show WPl _ _ _ _ _ _ _ (⟨_, .slice _ _ _ _ _, _, _, _, _⟩ :: _) _; first | refine WPl.rdX (ReadR.sliceH rfl rfl hasA (by omega)) ?_ | refine WPl.rdX (ReadR.sliceL rfl rfl hasA (by omega)) ?_ | refine WPl.rdX (ReadR.sliceLH rfl rfl rfl hasA (by omega) (by omega)) ?_)
     | (refine WPl.spQ (fun hc => ?_) (fun hc => ?_) <;> try first | exact prA | (exfalso; first | omega))
     | fail)
    first | refine WPc.loop (σ := Nat × Bool) (fun st => st.1 ≤ LH.length ∧ st.2 = decide (a ∈ LH.take st.1)) (fun st => [rowN 3 1 wl LH.length (intsV LH), rowN 3 1 vh held.length (intsV held)]) (fun st => [(9, vh), (14, wl), (15, .int .i64 (i : Int)), (16, .bool st.2), (17, .int .i64 (st.1 : Int))]) (fun st => LH.length - st.1) ((0, false)) ?_ takesA frsA (fun st km hx hk => ?_)
    · exact ⟨Nat.zero_le _, by simp⟩
    obtain ⟨q, fo⟩ := st
    obtain ⟨hq, hfo⟩ := hx
    dsimp only at hq hfo hk ⊢
    have hkq : km = LH.length - q := hk
    clear hk
    by_cases hlt : q < LH.length
    · obtain ⟨b, hb⟩ : ∃ b, LH[q]? = some b := ⟨_, List.getElem?_eq_getElem hlt⟩
      have hbv : (intsV LH)[q]? = some (.int .i64 b) := intsV_at hb
      have hnx : decide (a ∈ LH.take (q + 1)) = (decide (a ∈ LH.take q) || decide (b = a)) := by
        rw [List.take_add_one, hb, Bool.eq_iff_iff]
        simp only [decide_eq_true_eq, Bool.or_eq_true, List.mem_append, Option.toList, List.mem_singleton]
        constructor
        · rintro (h | h)
          · exact .inl h
          · exact .inr h.symm
        · rintro (h | h)
          · exact .inl h
          · exact .inr h.symm
      rw [← hfo] at hnx
      cases fo with
      | true =>
        repeat' (first
         | refine WPl.nil ?_ | refine WPq.then ?_ | refine WPq.thenR ?_ | refine WPq.thenE ?_ | refine WPq.blockN ?_ | refine WPq.blockR ?_ | refine WPq.blockE ?_ | refine WPq.blockO rfl ?_ | refine WPc.seq ?_ | refine WPc.block ?_ | refine WPc.ret ?_ | refine WPc.exit ?_ | refine WPc.skip ?_ | refine WPc.region ?_
         | (refine isReg 26 ?_; refine WPc.drA [([], []), ([0], [117]), ([0, 1], [117, 118, 120, 123, 124, 125, 126]), ([0, 1], [117, 118, 119, 123, 124, 125, 126]), ([0, 1, 2, 3], [117, 118, 119, 120, 123, 124, 125, 126]), ([0, 1, 2, 3, 4], [117, 118, 119, 120, 121, 123, 124, 125, 126]), ([0, 1], [117, 118, 119, 120, 121, 122, 124]), ([0, 1], [117, 118, 119, 120, 121, 122, 123]), ([0, 1, 6, 7], [117, 118, 119, 120, 121, 122, 123, 124]), ([0, 1, 6, 7, 8], [117, 118, 119, 120, 121, 122, 123, 124, 125]), ([0, 1, 2, 3, 4, 5, 6, 7, 8, 9], [117, 118, 119, 120, 121, 122, 123, 124, 125, 126]), ([0, 1, 2, 3, 4, 5, 6, 7, 8, 9, 10], [117, 118, 119, 120, 121, 122, 123, 124, 125, 126, 127]), ([0, 1, 2, 3, 4, 5, 6, 7, 8, 9, 10, 11], [117, 118, 119, 120, 121, 122, 123, 124, 125, 126, 127, 128])] [] (Γx := []) ?_; dsimp only [prev0, List.length_nil, List.length_cons])
         | (refine gAny ?_; first | (refine gGd ?_; refine RGl.skp ?_) | (refine gOp ?_; first | refine RGl.rdA ?_ | refine RGl.rdX (fun e hk => by (try dsimp only [bndR, ensR, oksR, fcutR, List.append_nil, List.nil_append, List.cons_append, List.append_assoc] at hk ⊢); exact readB) ?_) | (refine RGl.fin (fun e hk => ?_); (try dsimp only [bndA, ensAR, oksA, List.append_nil, List.nil_append, List.cons_append, List.append_assoc] at hk ⊢); (repeat (obtain ⟨hk1, hk⟩ := hk))) | fail)
         | (refine isCond ?_; first | refine WPc.cT ?_ | refine WPc.cF ?_ | (refine WPc.cQ (fun hc => ?_) (fun hc => ?_) <;> try first | exact prA | (exfalso; first | omega)))
         | (refine isOp ?_; first | refine WPl.rd ?_ | refine WPl.sk ?_ | refine WPl.rdB ?_)
         | (show WPl _ _ _ _ _ _ _ (⟨_, .indexAddr _ _ _, _, _, _, _⟩ :: _) _; refine WPl.rdX (ReadR.indexE rfl rfl hasA (by first | assumption | omega)) ?_)
         | (show WPl _ _ _ _ _ _ _ (⟨_, .fieldAddr _ _ _, _, _, _, _⟩ :: _) _; refine WPl.rdX (ReadR.fieldE rfl hasA (by first | assumption | omega)) ?_)
         | (show WPl _ _ _ _ _ _ _ (⟨_, .load _ _, _, _, _, _⟩ :: _) _; first | refine WPl.rdX (ReadR.loadE rfl hasA (by assumption)) ?_ | refine WPl.rdX (ReadR.loadES (by assumption) (by first | assumption | omega) rfl hasA) ?_)
         | (show WPl _ _ _ _ _ _ _ (⟨_, .slice _ _ _ _ _, _, _, _, _⟩ :: _) _; first | refine WPl.rdX (ReadR.sliceH rfl rfl hasA (by omega)) ?_ | refine WPl.rdX (ReadR.sliceL rfl rfl hasA (by omega)) ?_ | refine WPl.rdX (ReadR.sliceLH rfl rfl rfl hasA (by omega) (by omega)) ?_)
         | (refine WPl.spQ (fun hc => ?_) (fun hc => ?_) <;> try first | exact prA | (exfalso; first | omega))
         | fail)
        exact WPq.rnd (q + 1, true) ⟨hlt, by rw [hnx]; rfl⟩ (by dsimp only; omega)
      | false =>
        rw [Bool.false_or] at hnx
        repeat' (first
         | refine WPl.nil ?_ | refine WPq.then ?_ | refine WPq.thenR ?_ | refine WPq.thenE ?_ | refine WPq.blockN ?_ | refine WPq.blockR ?_ | refine WPq.blockE ?_ | refine WPq.blockO rfl ?_ | refine WPc.seq ?_ | refine WPc.block ?_ | refine WPc.ret ?_ | refine WPc.exit ?_ | refine WPc.skip ?_ | refine WPc.region ?_
         | (refine isReg 26 ?_; refine WPc.drA [([], []), ([0], [117]), ([0, 1], [117, 118, 120, 123, 124, 125, 126]), ([0, 1], [117, 118, 119, 123, 124, 125, 126]), ([0, 1, 2, 3], [117, 118, 119, 120, 123, 124, 125, 126]), ([0, 1, 2, 3, 4], [117, 118, 119, 120, 121, 123, 124, 125, 126]), ([0, 1], [117, 118, 119, 120, 121, 122, 124]), ([0, 1], [117, 118, 119, 120, 121, 122, 123]), ([0, 1, 6, 7], [117, 118, 119, 120, 121, 122, 123, 124]), ([0, 1, 6, 7, 8], [117, 118, 119, 120, 121, 122, 123, 124, 125]), ([0, 1, 2, 3, 4, 5, 6, 7, 8, 9], [117, 118, 119, 120, 121, 122, 123, 124, 125, 126]), ([0, 1, 2, 3, 4, 5, 6, 7, 8, 9, 10], [117, 118, 119, 120, 121, 122, 123, 124, 125, 126, 127]), ([0, 1, 2, 3, 4, 5, 6, 7, 8, 9, 10, 11], [117, 118, 119, 120, 121, 122, 123, 124, 125, 126, 127, 128])] [] (Γx := []) ?_; dsimp only [prev0, List.length_nil, List.length_cons])
         | (refine gAny ?_; first | (refine gGd ?_; refine RGl.skp ?_) | (refine gD 121 ?_; refine RGl.rdX (fun e hk => by (try dsimp only [bndR, ensR, oksR, fcutR, List.append_nil, List.nil_append, List.cons_append, List.append_assoc] at hk ⊢); exact ReadR.indexE1 (i := q) rfl rfl hasA hlt) ?_) | (refine gD 122 ?_; refine RGl.rdX (fun e hk => by (try dsimp only [bndR, ensR, oksR, fcutR, List.append_nil, List.nil_append, List.cons_append, List.append_assoc] at hk ⊢); exact ReadR.loadE rfl hasA hbv) ?_) | (refine gD 125 ?_; refine RGl.rdX (fun e hk => by (try dsimp only [bndR, ensR, oksR, fcutR, List.append_nil, List.nil_append, List.cons_append, List.append_assoc] at hk ⊢); exact ReadR.indexE1 (i := i) rfl rfl hasA hin) ?_) | (refine gD 126 ?_; refine RGl.rdX (fun e hk => by (try dsimp only [bndR, ensR, oksR, fcutR, List.append_nil, List.nil_append, List.cons_append, List.append_assoc] at hk ⊢); exact ReadR.loadE rfl hasA hav) ?_) | (refine gD 127 ?_; refine RGl.rdX (fun e hk => by (try dsimp only [bndR, ensR, oksR, fcutR, List.append_nil, List.nil_append, List.cons_append, List.append_assoc] at hk ⊢); exact ReadR.binE rfl rfl BinR.eql rfl) ?_) | (refine gOp ?_; first | refine RGl.rdA ?_ | refine RGl.rdX (fun e hk => by (try dsimp only [bndR, ensR, oksR, fcutR, List.append_nil, List.nil_append, List.cons_append, List.append_assoc] at hk ⊢); exact readB) ?_) | (refine RGl.fin (fun e hk => ?_); (try dsimp only [bndA, ensAR, oksA, List.append_nil, List.nil_append, List.cons_append, List.append_assoc] at hk ⊢); (repeat (obtain ⟨hk1, hk⟩ := hk))) | fail)
         | (refine isCond ?_; first | refine WPc.cT ?_ | refine WPc.cF ?_ | (refine WPc.cQ (fun hc => ?_) (fun hc => ?_) <;> try first | exact prA | (exfalso; first | omega)))
         | (refine isOp ?_; first | refine WPl.rd ?_ | refine WPl.sk ?_ | refine WPl.rdB ?_)
         | (show WPl _ _ _ _ _ _ _ (⟨_, .indexAddr _ _ _, _, _, _, _⟩ :: _) _; refine WPl.rdX (ReadR.indexE rfl rfl hasA (by first | assumption | omega)) ?_)
         | (show WPl _ _ _ _ _ _ _ (⟨_, .fieldAddr _ _ _, _, _, _, _⟩ :: _) _; refine WPl.rdX (ReadR.fieldE rfl hasA (by first | assumption | omega)) ?_)
         | (show WPl _ _ _ _ _ _ _ (⟨_, .load _ _, _, _, _, _⟩ :: _) _; first | refine WPl.rdX (ReadR.loadE rfl hasA (by assumption)) ?_ | refine WPl.rdX (ReadR.loadES (by assumption) (by first | assumption | omega) rfl hasA) ?_)
         | (show WPl _ _ _ _ _ _ _ (⟨_, .slice _ _ _ _ _, _, _, _, _⟩ :: _) _; first | refine WPl.rdX (ReadR.sliceH rfl rfl hasA (by omega)) ?_ | refine WPl.rdX (ReadR.sliceL rfl rfl hasA (by omega)) ?_ | refine WPl.rdX (ReadR.sliceLH rfl rfl rfl hasA (by omega) (by omega)) ?_)
         | (refine WPl.spQ (fun hc => ?_) (fun hc => ?_) <;> try first | exact prA | (exfalso; first | omega))
         | fail)
        exact WPq.rnd (q + 1, decide (b = a)) ⟨hlt, hnx.symm⟩ (by dsimp only; omega)
    · have hqL : LH.take q = LH := List.take_of_length_le (by omega)
      rw [hqL, decide_eq_true haL] at hfo
      subst hfo
      repeat' (first
       | refine WPl.nil ?_ | refine WPq.then ?_ | refine WPq.thenR ?_ | refine WPq.thenE ?_ | refine WPq.blockN ?_ | refine WPq.blockR ?_ | refine WPq.blockE ?_ | refine WPq.blockO rfl ?_ | refine WPc.seq ?_ | refine WPc.block ?_ | refine WPc.ret ?_ | refine WPc.exit ?_ | refine WPc.skip ?_ | refine WPc.region ?_
       | (refine isCond ?_; first | refine WPc.cT ?_ | refine WPc.cF ?_ | (refine WPc.cQ (fun hc => ?_) (fun hc => ?_) <;> try first | exact prA | (exfalso; first | omega)))
       | (refine isOp ?_; first | refine WPl.rd ?_ | refine WPl.sk ?_ | refine WPl.rdB ?_)
       | (show WPl _ _ _ _ _ _ _ (⟨_, .indexAddr _ _ _, _, _, _, _⟩ :: _) _; refine WPl.rdX (ReadR.indexE rfl rfl hasA (by first | assumption | omega)) ?_)
       | (show WPl _ _ _ _ _ _ _ (⟨_, .fieldAddr _ _ _, _, _, _, _⟩ :: _) _; refine WPl.rdX (ReadR.fieldE rfl hasA (by first | assumption | omega)) ?_)
       | (show WPl _ _ _ _ _ _ _ (⟨_, .load _ _, _, _, _, _⟩ :: _) _; first | refine WPl.rdX (ReadR.loadE rfl hasA (by assumption)) ?_ | refine WPl.rdX (ReadR.loadES (by assumption) (by first | assumption | omega) rfl hasA) ?_)
       | (show WPl _ _ _ _ _ _ _ (⟨_, .slice _ _ _ _ _, _, _, _, _⟩ :: _) _; first | refine WPl.rdX (ReadR.sliceH rfl rfl hasA (by omega)) ?_ | refine WPl.rdX (ReadR.sliceL rfl rfl hasA (by omega)) ?_ | refine WPl.rdX (ReadR.sliceLH rfl rfl rfl hasA (by omega) (by omega)) ?_)
       | (refine WPl.spQ (fun hc => ?_) (fun hc => ?_) <;> try first | exact prA | (exfalso; first | omega))
       | fail)
      exact WPq.rnd (i + 1) (by omega) (by omega)
  · skip
    repeat' (first
     | refine WPl.nil ?_ | refine WPq.then ?_ | refine WPq.thenR ?_ | refine WPq.thenE ?_ | refine WPq.blockN ?_ | refine WPq.blockR ?_ | refine WPq.blockE ?_ | refine WPq.blockO rfl ?_ | refine WPc.seq ?_ | refine WPc.block ?_ | refine WPc.ret ?_ | refine WPc.exit ?_ | refine WPc.skip ?_ | refine WPc.region ?_
     | (refine isCond ?_; first | refine WPc.cT ?_ | refine WPc.cF ?_ | (refine WPc.cQ (fun hc => ?_) (fun hc => ?_) <;> try first | exact prA | (exfalso; first | omega)))
     | (refine isD 133 ?_; refine WPl.rdX (ReadR.binE rfl rfl BinR.leq (congrArg Value.bool (decide_eq_true hleq))) ?_)
     | (refine isC 135 ?_; refine WPl.cV (clv) ?_)
     | (refine isOp ?_; first | refine WPl.rd ?_ | refine WPl.sk ?_ | refine WPl.rdB ?_)
     | (show WPl _ _ _ _ _ _ _ (⟨_, .indexAddr _ _ _, _, _, _, _⟩ :: _) _; refine WPl.rdX (ReadR.indexE rfl rfl hasA (by first | assumption | omega)) ?_)
     | (show WPl _ _ _ _ _ _ _ (⟨_, .fieldAddr _ _ _, _, _, _, _⟩ :: _) _; refine WPl.rdX (ReadR.fieldE rfl hasA (by first | assumption | omega)) ?_)
     | (show WPl _ _ _ _ _ _ _ (⟨_, .load _ _, _, _, _, _⟩ :: _) _; first | refine WPl.rdX (ReadR.loadE rfl hasA (by assumption)) ?_ | refine WPl.rdX (ReadR.loadES (by assumption) (by first | assumption | omega) rfl hasA) ?_)
     | (show WPl _ _ _ _ _ _ _ (⟨_, .slice _ _ _ _ _, _, _, _, _⟩ :: _) _; first | refine WPl.rdX (ReadR.sliceH rfl rfl hasA (by omega)) ?_ | refine WPl.rdX (ReadR.sliceL rfl rfl hasA (by omega)) ?_ | refine WPl.rdX (ReadR.sliceLH rfl rfl rfl hasA (by omega) (by omega)) ?_)
     | (refine WPl.spQ (fun hc => ?_) (fun hc => ?_) <;> try first | exact prA | (exfalso; first | omega))
     | fail)
    exact WPq.dV
end Go.Proofs.Ytepmikgjnmjheaa
