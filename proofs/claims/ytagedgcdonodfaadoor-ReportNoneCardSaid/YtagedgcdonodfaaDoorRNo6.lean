/- What the row of reportNone_card_holds needs: part 6. -/
import Derived.Test.YtagedgcdonodfaaDoorRNo5
import Derived.Test.YtagedgcdonodfaaDoorRNo3
import Derived.Lib.LaidU8
import Derived.Test.YtagedgcdonodfaaDoorRows
import Derived.ProofKit
import Derived.OpenShut
import Derived.ChangeSame
import Derived.ChangeVars
import Derived.JoinedOf
import Derived.RowKit
import Derived.RowKitTokens
import Derived.LaidLaws
import Derived.LaidHandle
import Derived.LaidMore
import Derived.MakeChecks
import Derived.Stop.Joined
/- Report: the document's tallies: contracts. -/
namespace Go.Proofs.YtagedgcdonodfaaDoor
set_option linter.unusedVariables false
open Go.RowKit
set_option linter.unusedSimpArgs false
set_option linter.unusedVariables false
set_option maxRecDepth 20000
set_option maxHeartbeats 4000000
attribute [local irreducible] WPc WPl WPq ReadR OpT BinR HasS bx rdN rowN Take Takes Prov Triple ResF BuildP Done ag Int.decLt Int.decLe Int.instDecidableEq
attribute [local irreducible] mp rmp rg rgo mput mget mfind mdel mhas ars gbag rdA tls talL tIns
end Go.Proofs.YtagedgcdonodfaaDoor
/- Report: its text: the walk. -/
namespace Go.Proofs.YtagedgcdonodfaaDoor
open Go.RowKit
set_option linter.unusedSimpArgs false
set_option linter.unusedVariables false
set_option maxRecDepth 20000
set_option maxHeartbeats 2000000
attribute [local irreducible] WPc WPl WPq ReadR OpT BinR HasS bx rdN rowN Take Takes Prov Triple ResF BuildP Done ag Int.decLt Int.decLe Int.instDecidableEq
attribute [local irreducible] mp rmp rg rgo mput mget mfind mdel mhas tls whysL errsL talL lineW lineE lineT lineP
theorem text_t (gR mW mE mT : Nat) (C E : LN) (T : LT) (l : List An) (hrep : Rep l C E T) (hl : l.length ≤ 1000) (hln : ∀ a ∈ l, a.ln ≤ 60) (hes : ∀ a ∈ l, in64 a.er) (hsv : ∀ a ∈ l, in64 a.sv ∧ in64 a.bk) :
    Triple Tryd.prog 18 #[pB0 gR] (rpA gR mW mE mT C E T ++ [tP, tS]) (RTurns (sV (txtL l)) (rpA gR mW mE mT C E T)) := by
  have cnt_le : l.countP cntA ≤ l.length := List.countP_le_length
  show Triple _ _ _ [bx gR 52 (rpC mW mE mT), mp whM mW C, mp whM mE E, mp toM mT T, tP, tS] _
  refine Triple.enter Tryd.func18 rfl Tryd.ntmps18 rfl (fun W => ?_)
  dsimp only [argsF, Nat.reduceAdd]
  refine WPc.mkeys (M := whM) (m := mW) (l := C) memA fun hnC hwC => ?_
  refine WPc.mkeys (M := whM) (m := mE) (l := E) memA fun hnE hwE => ?_
  refine WPc.mkeys (M := toM) (m := mT) (l := T) memA fun hnT hwT => ?_
  refine WPc.nilRowN 5 1 ?_
  rw [show rowN 5 1 (.slice none 0 0) 0 [] = ob (.slice none 0 0) [] from by with_unfolding_all rfl]
  obtain ⟨hall, hCl⟩ := rep_all hrep hnC hl
  have hEl := rep_err hrep hnE
  have hTl := rep_tlen hrep hnT hl
  have c16 := all_t mW C hall
  rw [hrep.sw] at c16
  have c18 := fun g3 v17 => putM_t false g3 (.slice none 0 0) rfl [] [112, 97, 99, 107, 101, 116, 115] v17 [((l.countP cntA : Nat) : Int)] (by intro n hn; rw [List.mem_singleton.1 hn]; exact in64_nat (by omega)) (by decide) (by simp) (by simp)
  simp only [line_P] at c18
  have c23 := rising_t mW C (by omega)
  rw [whys_sorted hrep.w hnC, show C.length = (whysL l).length from by rw [← whys_sorted hrep.w hnC, List.length_mergeSort, List.length_map]] at c23
  have c46 := rising_t mE E (by omega)
  rw [errs_sorted hrep.e hnE, show E.length = (errsL l).length from by rw [← errs_sorted hrep.e hnE, List.length_mergeSort, List.length_map]] at c46
  have c63 := tallies_t gR mW mE mT T (by omega)
  have hP := lineP_len l hl
  repeat' (first
   | refine WPl.nil ?_ | refine WPq.then ?_ | refine WPq.thenR ?_ | refine WPq.thenE ?_ | refine WPq.blockN ?_ | refine WPq.blockR ?_ | refine WPq.blockE ?_ | refine WPq.blockO rfl ?_ | refine WPc.seq ?_ | refine WPc.block ?_ | refine WPc.ret ?_ | refine WPc.exit ?_ | refine WPc.skip ?_ | refine WPc.region ?_
   | (refine isCond ?_; first | refine WPc.cT ?_ | refine WPc.cF ?_ | (refine WPc.cQ (fun hc => ?_) (fun hc => ?_) <;> try exact prA))
   | (refine isD 11 ?_; refine WPl.rdX (readP) ?_)
   | (refine isD 3 ?_; first | (refine isAl ?_; refine WPl.nw fun g3 => ?_) | (refine isBx ?_; refine WPl.nw fun g3 => ?_))
   | (refine isC 16 ?_; refine WPl.cTs (c16) ?_; (try dsimp only [putF, List.cons_append, List.nil_append]))
   | (refine isD 17 ?_; refine WPl.row .nil rfl rfl rfl (OpT.buildSlice (m := 1) (vs := [.int .i64 ((l.countP cntA : Nat) : Int)]) evpA oneA rfl rfl) fun v17 hv17 => ?_)
   | (refine isC 18 ?_; refine WPl.cM (c18 _ _) ?_ (fun vq Γ1 hR => ?_) (hΔ := provsR2); exact fpR memA memA; obtain ⟨v18, hv18, rfl, rfl⟩ := hR; (try dsimp only [putF, List.cons_append, List.nil_append]))
   | (refine isC 23 ?_; refine WPl.cR c23 (fun v23 hv23 => ?_) (hΔ := provsM))
   | (refine isOp ?_; first | refine WPl.rd ?_ | refine WPl.sk ?_ | refine WPl.rdB ?_)
   | (refine isAl ?_; refine WPl.nw fun g => ?_)
   | (refine isSt ?_; first | refine WPl.st1 ?_ | refine WPl.stA ?_ | refine WPl.stEB ?_ | refine WPl.stRB ?_)
   | (show WPl _ _ _ _ _ _ _ (⟨_, .indexAddr _ _ _, _, _, _, _⟩ :: _) _; refine WPl.rdX (ReadR.indexE rfl rfl hasA (by first | assumption | omega)) ?_)
   | (show WPl _ _ _ _ _ _ _ (⟨_, .fieldAddr _ _ _, _, _, _, _⟩ :: _) _; refine WPl.rdX (ReadR.fieldE rfl hasA (by first | assumption | omega)) ?_)
   | (show WPl _ _ _ _ _ _ _ (⟨_, .load _ _, _, _, _, _⟩ :: _) _; first | refine WPl.rdX (ReadR.loadE rfl hasA (by assumption)) ?_ | refine WPl.rdX (ReadR.loadES (by assumption) (by first | assumption | omega) rfl hasA) ?_)
   | (show WPl _ _ _ _ _ _ _ (⟨_, .slice _ _ _ _ _, _, _, _, _⟩ :: _) _; first | refine WPl.rdX (ReadR.sliceH rfl rfl hasA (by omega)) ?_ | refine WPl.rdX (ReadR.sliceL rfl rfl hasA (by omega)) ?_ | refine WPl.rdX (ReadR.sliceLH rfl rfl rfl hasA (by omega) (by omega)) ?_)
   | (refine WPl.spQ (fun hc => ?_) (fun hc => ?_) <;> try exact prA)
   | fail)
  first | refine WPc.loop (σ := Nat × Value × List UInt8) (fun st => st.1 ≤ (whysL l).length ∧ st.2.1.oneCell' = true ∧ st.2.2 = lineP l ++ (((whysL l).take st.1).map (lineW l)).flatten) (fun st => [bx g3 70 (bdC true g3 st.2.1), ob st.2.1 st.2.2, rowN 3 1 v23 (whysL l).length (intsV (whysL l)), bx gR 52 (rpC mW mE mT), mp whM mW C, mp whM mE E, mp toM mT T, tP, tS]) (fun st => [(0, pB0 gR), (3, pB0 g3), (23, v23), (24, .int .i64 ((whysL l).length : Int)), (25, .int .i64 (st.1 : Int))]) (fun st => (whysL l).length - st.1) (⟨0, v18, lineP l⟩) ?_ takesA frsA (fun st km hx hk => ?_)
  · exact ⟨Nat.zero_le _, hv18, by simp⟩
  obtain ⟨i, vb, tx⟩ := st
  obtain ⟨hi, hvb, htx⟩ := hx
  dsimp only at hi hvb htx hk ⊢
  have hWl := whysL_len l
  have htl : tx.length ≤ 10000 := by
    rw [htx, List.length_append]
    have h1 := lines_len (f := lineW l) (n := 200) (L := (whysL l).take i) fun x _ => lineW_len l x hl
    have h2 : ((whysL l).take i).length ≤ 7 := by rw [List.length_take]; omega
    omega
  have hvl : (intsV (whysL l)).length = (whysL l).length := by unfold intsV; rw [List.length_map]
  by_cases hin : i < (whysL l).length
  · obtain ⟨k, hk1'⟩ : ∃ k, (whysL l)[i]? = some k := ⟨_, List.getElem?_eq_getElem hin⟩
    obtain ⟨j, rfl, hj1, hj7⟩ := whysL_mem (List.mem_of_getElem? hk1')
    obtain ⟨k, hkj⟩ : ∃ k : Int, k = (j : Int) := ⟨_, rfl⟩
    rw [← hkj] at hk1'
    have hnv : (intsV (whysL l))[i]? = some (.int .i64 (Int.ofNat j)) := by unfold intsV; rw [List.getElem?_map, hk1', hkj]; rfl
    have hkw : whM.wf k := by rw [hkj]; exact in64_nat (by omega)
    obtain ⟨n, hn⟩ : ∃ n : Int, n = (whyN l k : Int) := ⟨_, rfl⟩
    have hn64 : in64 n := by rw [hn]; exact in64_nat (Nat.le_trans (why_len (l := l) (k := k)) (by omega))
    have hget : whM.vc (mget whM C k) = .int .i64 n := by rw [hrep.w.get, hn]
    have c40 := fun vn => putM_t true g3 vb hvb tx (nameL k) vn [n] (by intro q hq; rw [List.mem_singleton.1 hq]; exact hn64) (Nat.le_trans (nameL_len k) (by decide)) (by omega) (by simp)
    rw [hn, line_W, ← hn] at c40
    have hwj : (wordsL.map sV)[j]? = some (sV (nameL k)) := by rw [hkj]; exact word_at hj1 hj7
    have hv40 : ∀ v Γ', RPut g3 (tx ++ lineW l k) v Γ' → v = resV [] ∧ ∃ s : Value, Γ' = [bx g3 70 (bdC true g3 s), ob s (tx ++ lineW l k)] ∧ s.oneCell' = true := fun v Γ' h => by
      obtain ⟨v', h1, h2, h3⟩ := h
      exact ⟨h2, v', h3, h1⟩
    have hwl8 : (wordsL.map sV).length = 8 := rfl
    rw [← show (j : Int) = k from hkj.symm] at hget
    repeat' (first
     | refine WPl.nil ?_ | refine WPq.then ?_ | refine WPq.thenR ?_ | refine WPq.thenE ?_ | refine WPq.blockN ?_ | refine WPq.blockR ?_ | refine WPq.blockE ?_ | refine WPq.blockO rfl ?_ | refine WPc.seq ?_ | refine WPc.block ?_ | refine WPc.ret ?_ | refine WPc.exit ?_ | refine WPc.skip ?_ | refine WPc.region ?_
     | (refine isReg 8 ?_; refine WPc.drA [([12, 13], [30, 33, 34, 35, 36, 37, 38, 39]), ([12, 13], [29, 33, 34, 35, 36, 37, 38, 39]), ([0, 1, 12, 13], [29, 30, 33, 34, 35, 36, 37, 38, 39]), ([0, 1, 2, 12, 13], [29, 30, 31, 33, 34, 35, 36, 37, 38, 39]), ([12, 13], [29, 30, 31, 32, 37]), ([4, 12, 13], [29, 30, 31, 32, 33, 37]), ([4, 5, 12, 13], [29, 30, 31, 32, 33, 34, 37]), ([4, 5, 6, 12, 13], [29, 30, 31, 32, 33, 34, 35, 37]), ([12, 13], [29, 30, 31, 32, 33, 34, 35, 36]), ([4, 5, 6, 7, 8, 12, 13], [29, 30, 31, 32, 33, 34, 35, 36, 37]), ([4, 5, 6, 7, 8, 9, 12, 13], [29, 30, 31, 32, 33, 34, 35, 36, 37, 38]), ([0, 1, 2, 3, 4, 5, 6, 7, 8, 9, 10, 12, 13], [29, 30, 31, 32, 33, 34, 35, 36, 37, 38, 39])] [(12, 11), (13, 11), (12, 0), (12, 1), (12, 2), (12, 3), (12, 4), (12, 5), (12, 6), (12, 7), (12, 8), (12, 9), (12, 10), (13, 0), (13, 1), (13, 2), (13, 3), (13, 4), (13, 5), (13, 6), (13, 7), (13, 8), (13, 9), (13, 10)] (Γx := [bx g3 70 (bdC true g3 vb), ob vb tx]) ?_; dsimp only [prev0, List.length_nil, List.length_cons])
     | (refine gAny ?_; first | (refine gD 26 ?_; refine RGl.rdX (fun e hk => by (try dsimp only [bndR, ensR, oksR, fcutR, List.append_nil, List.nil_append, List.cons_append, List.append_assoc] at hk ⊢); exact ReadR.binE rfl rfl BinR.lss (congrArg Value.bool (decide_eq_true (show (i : Int) < ((whysL l).length : Int) by omega)))) ?_) | (refine gD 27 ?_; refine RGl.rdX (fun e hk => by (try dsimp only [bndR, ensR, oksR, fcutR, List.append_nil, List.nil_append, List.cons_append, List.append_assoc] at hk ⊢); exact ReadR.indexE1 (i := i) rfl rfl hasA (by omega)) ?_) | (refine gD 28 ?_; refine RGl.rdX (fun e hk => by (try dsimp only [bndR, ensR, oksR, fcutR, List.append_nil, List.nil_append, List.cons_append, List.append_assoc] at hk ⊢); exact ReadR.loadE rfl hasA hnv) ?_) | ((refine gC 29 ?_; refine RGl.row (Γ1 := fun _ => []) (fun e hk => OpT.callN names_t (hΔ := by (try dsimp only [bndR, ensR, oksR, fcutR, List.append_nil, List.nil_append, List.cons_append, List.append_assoc] at hk ⊢); exact provsR)) ?_)) | (refine gD 31 ?_; refine RGl.rdX (fun e hk => by (try dsimp only [bndR, ensR, oksR, fcutR, List.append_nil, List.nil_append, List.cons_append, List.append_assoc] at hk ⊢); exact ReadR.indexE1 (i := j) rfl rfl hasA (by omega)) ?_) | (refine gD 32 ?_; refine RGl.rdX (fun e hk => by (try dsimp only [bndR, ensR, oksR, fcutR, List.append_nil, List.nil_append, List.cons_append, List.append_assoc] at hk ⊢); exact ReadR.loadE rfl hasA hwj) ?_) | (refine gD 38 ?_; refine RGl.rdX (fun e hk => by (try dsimp only [bndR, ensR, oksR, fcutR, List.append_nil, List.nil_append, List.cons_append, List.append_assoc] at hk ⊢); exact ReadR.look (M := whM) (k := (j : Int)) (hkj ▸ hkw) rfl rfl memA hget) ?_) | ((refine gD 39 ?_; refine RGl.row (Γ1 := fun _ => []) (fun e hk => by (try dsimp only [bndR, ensR, oksR, fcutR, List.append_nil, List.nil_append, List.cons_append, List.append_assoc] at hk ⊢); exact OpT.buildSlice (m := 1) (vs := [.int .i64 n]) evpA oneA rfl rfl) ?_)) | ((refine gC 40 ?_; refine RGl.relG (resV []) (fun s : Value => [bx g3 70 (bdC true g3 s), ob s (tx ++ lineW l k)]) (fun s => s.oneCell' = true) hv40 (fun e hk => by (try dsimp only [bndR, ensR, oksR, fcutR, List.append_nil, List.nil_append, List.cons_append, List.append_assoc] at hk ⊢); exact OpT.callM (c40 (e 10).1) evsA takesA provsR2 (fpR memA memA) (by kernel_rfl)) ?_)) | (refine gOp ?_; first | refine RGl.rdA ?_ | refine RGl.rdX (fun e hk => by (try dsimp only [bndR, ensR, oksR, fcutR, List.append_nil, List.nil_append, List.cons_append, List.append_assoc] at hk ⊢); exact readB) ?_) | (refine gLit ?_; refine RGl.litA ?_) | (refine RGl.fin (fun e hk => ?_); (try dsimp only [bndA, ensAR, oksA, List.append_nil, List.nil_append, List.cons_append, List.append_assoc] at hk ⊢); (repeat (obtain ⟨hk1, hk⟩ := hk))) | fail)
     | (refine isCond ?_; first | refine WPc.cT ?_ | refine WPc.cF ?_ | (refine WPc.cQ (fun hc => ?_) (fun hc => ?_) <;> try exact prA))
     | (refine isD 26 ?_; refine WPl.rdX (ReadR.binE rfl rfl BinR.lss (congrArg Value.bool (decide_eq_true (show (i : Int) < ((whysL l).length : Int) by omega)))) ?_)
     | (refine isD 27 ?_; refine WPl.rdX (ReadR.indexE1 (i := i) rfl rfl hasA (by omega)) ?_)
     | (refine isD 28 ?_; refine WPl.rdX (ReadR.loadE rfl hasA hnv) ?_)
     | (refine isOp ?_; first | refine WPl.rd ?_ | refine WPl.sk ?_ | refine WPl.rdB ?_)
     | (refine isAl ?_; refine WPl.nw fun g => ?_)
     | (refine isSt ?_; first | refine WPl.st1 ?_ | refine WPl.stA ?_ | refine WPl.stEB ?_ | refine WPl.stRB ?_)
     | (show WPl _ _ _ _ _ _ _ (⟨_, .indexAddr _ _ _, _, _, _, _⟩ :: _) _; refine WPl.rdX (ReadR.indexE rfl rfl hasA (by first | assumption | omega)) ?_)
     | (show WPl _ _ _ _ _ _ _ (⟨_, .fieldAddr _ _ _, _, _, _, _⟩ :: _) _; refine WPl.rdX (ReadR.fieldE rfl hasA (by first | assumption | omega)) ?_)
     | (show WPl _ _ _ _ _ _ _ (⟨_, .load _ _, _, _, _, _⟩ :: _) _; first | refine WPl.rdX (ReadR.loadE rfl hasA (by assumption)) ?_ | refine WPl.rdX (ReadR.loadES (by assumption) (by first | assumption | omega) rfl hasA) ?_)
     | (show WPl _ _ _ _ _ _ _ (⟨_, .slice _ _ _ _ _, _, _, _, _⟩ :: _) _; first | refine WPl.rdX (ReadR.sliceH rfl rfl hasA (by omega)) ?_ | refine WPl.rdX (ReadR.sliceL rfl rfl hasA (by omega)) ?_ | refine WPl.rdX (ReadR.sliceLH rfl rfl rfl hasA (by omega) (by omega)) ?_)
     | (refine WPl.spQ (fun hc => ?_) (fun hc => ?_) <;> try exact prA)
     | fail)
    dsimp only [Nat.reduceAdd]
    have hA : (pickG (fun s : Value => [bx g3 70 (bdC true g3 s), ob s (tx ++ lineW l k)]) (fun s => s.oneCell' = true) (e 11).2).oneCell' = true := by assumption
    generalize pickG (fun s : Value => [bx g3 70 (bdC true g3 s), ob s (tx ++ lineW l k)]) (fun s => s.oneCell' = true) (e 11).2 = v3 at hA ⊢
    exact WPq.rnd (i + 1, v3, tx ++ lineW l k) ⟨by dsimp only; omega, hA, by dsimp only; rw [htx, map_take hk1', List.append_assoc]⟩ (by dsimp only; omega)
  have hie : i = (whysL l).length := by omega
  subst hie
  rw [List.take_length] at htx
  obtain ⟨tw, htw⟩ : ∃ tw, tw = tx := ⟨_, rfl⟩
  rw [← htw] at htx htl ⊢
  clear hk htw hin hi
  repeat' (first
   | refine WPl.nil ?_ | refine WPq.then ?_ | refine WPq.thenR ?_ | refine WPq.thenE ?_ | refine WPq.blockN ?_ | refine WPq.blockR ?_ | refine WPq.blockE ?_ | refine WPq.blockO rfl ?_ | refine WPc.seq ?_ | refine WPc.block ?_ | refine WPc.ret ?_ | refine WPc.exit ?_ | refine WPc.skip ?_ | refine WPc.region ?_
   | (refine isCond ?_; first | refine WPc.cT ?_ | refine WPc.cF ?_ | (refine WPc.cQ (fun hc => ?_) (fun hc => ?_) <;> try exact prA))
   | (refine isD 26 ?_; refine WPl.rdX (ReadR.binE rfl rfl BinR.lss (congrArg Value.bool (decide_eq_false (show ¬ ((whysL l).length : Int) < ((whysL l).length : Int) by omega)))) ?_)
   | (refine isC 46 ?_; refine WPl.cR c46 (fun v46 hv46 => ?_) (hΔ := provsM))
   | (refine isOp ?_; first | refine WPl.rd ?_ | refine WPl.sk ?_ | refine WPl.rdB ?_)
   | (refine isAl ?_; refine WPl.nw fun g => ?_)
   | (refine isSt ?_; first | refine WPl.st1 ?_ | refine WPl.stA ?_ | refine WPl.stEB ?_ | refine WPl.stRB ?_)
   | (show WPl _ _ _ _ _ _ _ (⟨_, .indexAddr _ _ _, _, _, _, _⟩ :: _) _; refine WPl.rdX (ReadR.indexE rfl rfl hasA (by first | assumption | omega)) ?_)
   | (show WPl _ _ _ _ _ _ _ (⟨_, .fieldAddr _ _ _, _, _, _, _⟩ :: _) _; refine WPl.rdX (ReadR.fieldE rfl hasA (by first | assumption | omega)) ?_)
   | (show WPl _ _ _ _ _ _ _ (⟨_, .load _ _, _, _, _, _⟩ :: _) _; first | refine WPl.rdX (ReadR.loadE rfl hasA (by assumption)) ?_ | refine WPl.rdX (ReadR.loadES (by assumption) (by first | assumption | omega) rfl hasA) ?_)
   | (show WPl _ _ _ _ _ _ _ (⟨_, .slice _ _ _ _ _, _, _, _, _⟩ :: _) _; first | refine WPl.rdX (ReadR.sliceH rfl rfl hasA (by omega)) ?_ | refine WPl.rdX (ReadR.sliceL rfl rfl hasA (by omega)) ?_ | refine WPl.rdX (ReadR.sliceLH rfl rfl rfl hasA (by omega) (by omega)) ?_)
   | (refine WPl.spQ (fun hc => ?_) (fun hc => ?_) <;> try exact prA)
   | fail)
  have hel : (intsV (errsL l)).length = (errsL l).length := by unfold intsV; rw [List.length_map]
  have hEl2 := errsL_len l
  first | refine WPc.loop (σ := Nat × Value × List UInt8) (fun st => st.1 ≤ (errsL l).length ∧ st.2.1.oneCell' = true ∧ st.2.2 = tw ++ (((errsL l).take st.1).map (lineE l)).flatten) (fun st => [bx g3 70 (bdC true g3 st.2.1), ob st.2.1 st.2.2, rowN 3 1 v46 (errsL l).length (intsV (errsL l)), bx gR 52 (rpC mW mE mT), mp whM mW C, mp whM mE E, mp toM mT T, tP, tS]) (fun st => [(0, pB0 gR), (3, pB0 g3), (46, v46), (47, .int .i64 ((errsL l).length : Int)), (48, .int .i64 (st.1 : Int))]) (fun st => (errsL l).length - st.1) (⟨0, vb, tw⟩) ?_ takesA frsA (fun st km hx hk => ?_)
  · exact ⟨Nat.zero_le _, hvb, by simp⟩
  obtain ⟨i, vc, tx⟩ := st
  obtain ⟨hi, hvc, hte⟩ := hx
  dsimp only at hi hvc hte hk ⊢
  have htl2 : tx.length ≤ 1000000 := by
    rw [hte, List.length_append]
    have h1 := lines_len (f := lineE l) (n := 200) (L := (errsL l).take i) fun x hx => lineE_len l (err_in hes (List.mem_of_mem_take hx)) hl
    have h2 : ((errsL l).take i).length ≤ 1000 := by rw [List.length_take]; omega
    omega
  by_cases hin : i < (errsL l).length
  · obtain ⟨k, hk1'⟩ : ∃ k, (errsL l)[i]? = some k := ⟨_, List.getElem?_eq_getElem hin⟩
    have hnv : (intsV (errsL l))[i]? = some (.int .i64 k) := by unfold intsV; rw [List.getElem?_map, hk1']; rfl
    have hk64 := err_in hes (List.mem_of_getElem? hk1')
    have hkw : whM.wf k := hk64
    obtain ⟨n, hn⟩ : ∃ n : Int, n = (errN l k : Int) := ⟨_, rfl⟩
    have hn64 : in64 n := by rw [hn]; exact in64_nat (Nat.le_trans (err_len (l := l) (k := k)) (by omega))
    have hget : whM.vc (mget whM E k) = .int .i64 n := by rw [hrep.e.get, hn]
    have c60 := fun vn => putM_t true g3 vc hvc tx [101, 114, 114, 111, 114] vn [k, n] (by intro q hq; simp only [List.mem_cons, List.not_mem_nil, or_false] at hq; rcases hq with rfl | rfl; exact hk64; exact hn64) (by decide) (by omega) (by simp)
    rw [hn, line_E, ← hn] at c60
    repeat' (first
     | refine WPl.nil ?_ | refine WPq.then ?_ | refine WPq.thenR ?_ | refine WPq.thenE ?_ | refine WPq.blockN ?_ | refine WPq.blockR ?_ | refine WPq.blockE ?_ | refine WPq.blockO rfl ?_ | refine WPc.seq ?_ | refine WPc.block ?_ | refine WPc.ret ?_ | refine WPc.exit ?_ | refine WPc.skip ?_ | refine WPc.region ?_
     | (refine isCond ?_; first | refine WPc.cT ?_ | refine WPc.cF ?_ | (refine WPc.cQ (fun hc => ?_) (fun hc => ?_) <;> try exact prA))
     | (refine isD 49 ?_; refine WPl.rdX (ReadR.binE rfl rfl BinR.lss (congrArg Value.bool (decide_eq_true (show (i : Int) < ((errsL l).length : Int) by omega)))) ?_)
     | (refine isD 50 ?_; refine WPl.rdX (ReadR.indexE1 (i := i) rfl rfl hasA (by omega)) ?_)
     | (refine isD 51 ?_; refine WPl.rdX (ReadR.loadE rfl hasA hnv) ?_)
     | (refine isD 58 ?_; refine WPl.rdX (ReadR.look (M := whM) (k := k) hkw rfl rfl memA hget) ?_)
     | (refine isD 59 ?_; refine WPl.row .nil rfl rfl rfl (OpT.buildSlice (m := 2) (vs := [.int .i64 k, .int .i64 n]) evpA oneA rfl rfl) fun v59 hv59 => ?_)
     | (refine isC 60 ?_; refine WPl.cM (c60 _) ?_ (fun vq Γ1 hR => ?_) (hΔ := provsR2); exact fpR memA memA; obtain ⟨v60, hv60, rfl, rfl⟩ := hR; (try dsimp only [putF, List.cons_append, List.nil_append]))
     | (refine isOp ?_; first | refine WPl.rd ?_ | refine WPl.sk ?_ | refine WPl.rdB ?_)
     | (refine isAl ?_; refine WPl.nw fun g => ?_)
     | (refine isSt ?_; first | refine WPl.st1 ?_ | refine WPl.stA ?_ | refine WPl.stEB ?_ | refine WPl.stRB ?_)
     | (show WPl _ _ _ _ _ _ _ (⟨_, .indexAddr _ _ _, _, _, _, _⟩ :: _) _; refine WPl.rdX (ReadR.indexE rfl rfl hasA (by first | assumption | omega)) ?_)
     | (show WPl _ _ _ _ _ _ _ (⟨_, .fieldAddr _ _ _, _, _, _, _⟩ :: _) _; refine WPl.rdX (ReadR.fieldE rfl hasA (by first | assumption | omega)) ?_)
     | (show WPl _ _ _ _ _ _ _ (⟨_, .load _ _, _, _, _, _⟩ :: _) _; first | refine WPl.rdX (ReadR.loadE rfl hasA (by assumption)) ?_ | refine WPl.rdX (ReadR.loadES (by assumption) (by first | assumption | omega) rfl hasA) ?_)
     | (show WPl _ _ _ _ _ _ _ (⟨_, .slice _ _ _ _ _, _, _, _, _⟩ :: _) _; first | refine WPl.rdX (ReadR.sliceH rfl rfl hasA (by omega)) ?_ | refine WPl.rdX (ReadR.sliceL rfl rfl hasA (by omega)) ?_ | refine WPl.rdX (ReadR.sliceLH rfl rfl rfl hasA (by omega) (by omega)) ?_)
     | (refine WPl.spQ (fun hc => ?_) (fun hc => ?_) <;> try exact prA)
     | fail)
    exact WPq.rnd (i + 1, v60, tx ++ lineE l k) ⟨by dsimp only; omega, hv60, by dsimp only; rw [hte, map_take hk1', List.append_assoc]⟩ (by dsimp only; omega)
  have hie : i = (errsL l).length := by omega
  subst hie
  rw [List.take_length] at hte
  obtain ⟨te, hte2⟩ : ∃ te, te = tx := ⟨_, rfl⟩
  rw [← hte2] at hte htl2 ⊢
  clear hk hte2 hin hi
  repeat' (first
   | refine WPl.nil ?_ | refine WPq.then ?_ | refine WPq.thenR ?_ | refine WPq.thenE ?_ | refine WPq.blockN ?_ | refine WPq.blockR ?_ | refine WPq.blockE ?_ | refine WPq.blockO rfl ?_ | refine WPc.seq ?_ | refine WPc.block ?_ | refine WPc.ret ?_ | refine WPc.exit ?_ | refine WPc.skip ?_ | refine WPc.region ?_
   | (refine isCond ?_; first | refine WPc.cT ?_ | refine WPc.cF ?_ | (refine WPc.cQ (fun hc => ?_) (fun hc => ?_) <;> try exact prA))
   | (refine isD 49 ?_; refine WPl.rdX (ReadR.binE rfl rfl BinR.lss (congrArg Value.bool (decide_eq_false (show ¬ ((errsL l).length : Int) < ((errsL l).length : Int) by omega)))) ?_)
   | (refine isC 63 ?_; refine WPl.cXs (c63) fun v63 Γ1 hR => ?_; (obtain ⟨S, hv63, rfl, hS1, hS2⟩ := hR; obtain rfl := tal_sorted hrep.t hnT hS1 hS2); (try dsimp only [putF, List.cons_append, List.nil_append]))
   | (refine isOp ?_; first | refine WPl.rd ?_ | refine WPl.sk ?_ | refine WPl.rdB ?_)
   | (refine isAl ?_; refine WPl.nw fun g => ?_)
   | (refine isSt ?_; first | refine WPl.st1 ?_ | refine WPl.stA ?_ | refine WPl.stEB ?_ | refine WPl.stRB ?_)
   | (show WPl _ _ _ _ _ _ _ (⟨_, .indexAddr _ _ _, _, _, _, _⟩ :: _) _; refine WPl.rdX (ReadR.indexE rfl rfl hasA (by first | assumption | omega)) ?_)
   | (show WPl _ _ _ _ _ _ _ (⟨_, .fieldAddr _ _ _, _, _, _, _⟩ :: _) _; refine WPl.rdX (ReadR.fieldE rfl hasA (by first | assumption | omega)) ?_)
   | (show WPl _ _ _ _ _ _ _ (⟨_, .load _ _, _, _, _, _⟩ :: _) _; first | refine WPl.rdX (ReadR.loadE rfl hasA (by assumption)) ?_ | refine WPl.rdX (ReadR.loadES (by assumption) (by first | assumption | omega) rfl hasA) ?_)
   | (show WPl _ _ _ _ _ _ _ (⟨_, .slice _ _ _ _ _, _, _, _, _⟩ :: _) _; first | refine WPl.rdX (ReadR.sliceH rfl rfl hasA (by omega)) ?_ | refine WPl.rdX (ReadR.sliceL rfl rfl hasA (by omega)) ?_ | refine WPl.rdX (ReadR.sliceLH rfl rfl rfl hasA (by omega) (by omega)) ?_)
   | (refine WPl.spQ (fun hc => ?_) (fun hc => ?_) <;> try exact prA)
   | fail)
  have htal := talL_len l
  have htls := tls_len (talL l)
  first | refine WPc.loop (σ := Nat × Value × List UInt8) (fun st => st.1 ≤ (talL l).length ∧ st.2.1.oneCell' = true ∧ st.2.2 = te ++ (((talL l).take st.1).map lineT).flatten) (fun st => [bx g3 70 (bdC true g3 st.2.1), ob st.2.1 st.2.2, rowN 31 4 v63 (talL l).length (tls (talL l)), bx gR 52 (rpC mW mE mT), mp whM mW C, mp whM mE E, mp toM mT T, tP, tS]) (fun st => [(0, pB0 gR), (3, pB0 g3), (63, v63), (64, .int .i64 ((talL l).length : Int)), (65, .int .i64 (st.1 : Int))]) (fun st => (talL l).length - st.1) (⟨0, vc, te⟩) ?_ takesA frsA (fun st km hx hk => ?_)
  · exact ⟨Nat.zero_le _, hvc, by simp⟩
  obtain ⟨i, vd, tx⟩ := st
  obtain ⟨hi, hvd, htt⟩ := hx
  dsimp only at hi hvd htt hk ⊢
  have htl3 : tx.length ≤ 2000000 := by
    rw [htt, List.length_append]
    have h1 := lines_len (f := lineT) (n := 200) (L := (talL l).take i) fun x hx => lineT_len (tal_in hln hl hsv (List.mem_of_mem_take hx))
    have h2 : ((talL l).take i).length ≤ 1000 := by rw [List.length_take]; omega
    omega
  by_cases hin : i < (talL l).length
  · obtain ⟨x, hk1'⟩ : ∃ x, (talL l)[i]? = some x := ⟨_, List.getElem?_eq_getElem hin⟩
    have hat := tls_at hk1'
    obtain ⟨x1, x2, x3, x4⟩ := tal_in hln hl hsv (List.mem_of_getElem? hk1')
    have c78 := fun vn => putM_t true g3 vd hvd tx [116, 111] vn [x.1.1, x.1.2, x.2.1, x.2.2] (by intro q hq; simp only [List.mem_cons, List.not_mem_nil, or_false] at hq; rcases hq with rfl | rfl | rfl | rfl; exact x1; exact x2; exact x3; exact x4) (by decide) (by omega) (by simp)
    rw [line_T] at c78
    repeat' (first
     | refine WPl.nil ?_ | refine WPq.then ?_ | refine WPq.thenR ?_ | refine WPq.thenE ?_ | refine WPq.blockN ?_ | refine WPq.blockR ?_ | refine WPq.blockE ?_ | refine WPq.blockO rfl ?_ | refine WPc.seq ?_ | refine WPc.block ?_ | refine WPc.ret ?_ | refine WPc.exit ?_ | refine WPc.skip ?_ | refine WPc.region ?_
     | (refine isCond ?_; first | refine WPc.cT ?_ | refine WPc.cF ?_ | (refine WPc.cQ (fun hc => ?_) (fun hc => ?_) <;> try exact prA))
     | (refine isD 66 ?_; refine WPl.rdX (ReadR.binE rfl rfl BinR.lss (congrArg Value.bool (decide_eq_true (show (i : Int) < ((talL l).length : Int) by omega)))) ?_)
     | (refine isD 67 ?_; refine WPl.rdX (ReadR.indexE (i := i) rfl rfl hasA (by omega)) ?_)
     | (refine isD 68 ?_; refine WPl.rdX (ReadR.loadES (cs := tlC x) hat (by omega) rfl hasA) ?_)
     | (refine isD 77 ?_; refine WPl.row .nil rfl rfl rfl (OpT.buildSlice (m := 4) (vs := [.int .i64 x.1.1, .int .i64 x.1.2, .int .i64 x.2.1, .int .i64 x.2.2]) evpA oneA rfl rfl) fun v77 hv77 => ?_)
     | (refine isC 78 ?_; refine WPl.cM (c78 _) ?_ (fun vq Γ1 hR => ?_) (hΔ := provsR2); exact fpR memA memA; obtain ⟨v78, hv78, rfl, rfl⟩ := hR; (try dsimp only [putF, List.cons_append, List.nil_append]))
     | (refine isOp ?_; first | refine WPl.rd ?_ | refine WPl.sk ?_ | refine WPl.rdB ?_)
     | (refine isAl ?_; refine WPl.nw fun g => ?_)
     | (refine isSt ?_; first | refine WPl.st1 ?_ | refine WPl.stA ?_ | refine WPl.stEB ?_ | refine WPl.stRB ?_)
     | (show WPl _ _ _ _ _ _ _ (⟨_, .indexAddr _ _ _, _, _, _, _⟩ :: _) _; refine WPl.rdX (ReadR.indexE rfl rfl hasA (by first | assumption | omega)) ?_)
     | (show WPl _ _ _ _ _ _ _ (⟨_, .fieldAddr _ _ _, _, _, _, _⟩ :: _) _; refine WPl.rdX (ReadR.fieldE rfl hasA (by first | assumption | omega)) ?_)
     | (show WPl _ _ _ _ _ _ _ (⟨_, .load _ _, _, _, _, _⟩ :: _) _; first | refine WPl.rdX (ReadR.loadE rfl hasA (by assumption)) ?_ | refine WPl.rdX (ReadR.loadES (by assumption) (by first | assumption | omega) rfl hasA) ?_)
     | (show WPl _ _ _ _ _ _ _ (⟨_, .slice _ _ _ _ _, _, _, _, _⟩ :: _) _; first | refine WPl.rdX (ReadR.sliceH rfl rfl hasA (by omega)) ?_ | refine WPl.rdX (ReadR.sliceL rfl rfl hasA (by omega)) ?_ | refine WPl.rdX (ReadR.sliceLH rfl rfl rfl hasA (by omega) (by omega)) ?_)
     | (refine WPl.spQ (fun hc => ?_) (fun hc => ?_) <;> try exact prA)
     | fail)
    exact WPq.rnd (i + 1, v78, tx ++ lineT x) ⟨by dsimp only; omega, hv78, by dsimp only; rw [htt, map_take hk1', List.append_assoc]⟩ (by dsimp only; omega)
  have hie : i = (talL l).length := by omega
  subst hie
  rw [List.take_length] at htt
  have hfin : tx = txtL l := by rw [htt, hte, htx]; rfl
  have c81 : Triple Tryd.prog 34 #[pB0 g3] [bx g3 70 (bdC true g3 vd), ob vd tx] (RTurns (sV (txtL l)) []) := by
    rw [← hfin]
    refine bstr_t g3 vd hvd tx ?_ (by omega)
    rw [hfin]
    unfold txtL
    simp [hP.2]
  repeat' (first
   | refine WPl.nil ?_ | refine WPq.then ?_ | refine WPq.thenR ?_ | refine WPq.thenE ?_ | refine WPq.blockN ?_ | refine WPq.blockR ?_ | refine WPq.blockE ?_ | refine WPq.blockO rfl ?_ | refine WPc.seq ?_ | refine WPc.block ?_ | refine WPc.ret ?_ | refine WPc.exit ?_ | refine WPc.skip ?_ | refine WPc.region ?_
   | (refine isCond ?_; first | refine WPc.cT ?_ | refine WPc.cF ?_ | (refine WPc.cQ (fun hc => ?_) (fun hc => ?_) <;> try exact prA))
   | (refine isD 66 ?_; refine WPl.rdX (ReadR.binE rfl rfl BinR.lss (congrArg Value.bool (decide_eq_false (show ¬ ((talL l).length : Int) < ((talL l).length : Int) by omega)))) ?_)
   | (refine isC 81 ?_; refine WPl.cTs (c81) ?_; (try dsimp only [putF, List.cons_append, List.nil_append]))
   | (refine isOp ?_; first | refine WPl.rd ?_ | refine WPl.sk ?_ | refine WPl.rdB ?_)
   | (refine isAl ?_; refine WPl.nw fun g => ?_)
   | (refine isSt ?_; first | refine WPl.st1 ?_ | refine WPl.stA ?_ | refine WPl.stEB ?_ | refine WPl.stRB ?_)
   | (show WPl _ _ _ _ _ _ _ (⟨_, .indexAddr _ _ _, _, _, _, _⟩ :: _) _; refine WPl.rdX (ReadR.indexE rfl rfl hasA (by first | assumption | omega)) ?_)
   | (show WPl _ _ _ _ _ _ _ (⟨_, .fieldAddr _ _ _, _, _, _, _⟩ :: _) _; refine WPl.rdX (ReadR.fieldE rfl hasA (by first | assumption | omega)) ?_)
   | (show WPl _ _ _ _ _ _ _ (⟨_, .load _ _, _, _, _, _⟩ :: _) _; first | refine WPl.rdX (ReadR.loadE rfl hasA (by assumption)) ?_ | refine WPl.rdX (ReadR.loadES (by assumption) (by first | assumption | omega) rfl hasA) ?_)
   | (show WPl _ _ _ _ _ _ _ (⟨_, .slice _ _ _ _ _, _, _, _, _⟩ :: _) _; first | refine WPl.rdX (ReadR.sliceH rfl rfl hasA (by omega)) ?_ | refine WPl.rdX (ReadR.sliceL rfl rfl hasA (by omega)) ?_ | refine WPl.rdX (ReadR.sliceLH rfl rfl rfl hasA (by omega) (by omega)) ?_)
   | (refine WPl.spQ (fun hc => ?_) (fun hc => ?_) <;> try exact prA)
   | fail)
  all_goals try (first | exact WPq.dTp | exact WPq.dTs | exact WPq.dV | exact WPq.dR | exact WPq.dR2 | exact WPq.dH | exact WPq.dBH | exact WPq.dT)
end Go.Proofs.YtagedgcdonodfaaDoor
/- Report: the document's text: contract. -/
namespace Go.Proofs.YtagedgcdonodfaaDoor
set_option linter.unusedVariables false
def refW : List (List UInt8) := [[], nameL 1, nameL 2, nameL 3, nameL 4, nameL 5, nameL 6, nameL 7]
def wsA (l : List An) : Nat → Int × List UInt8
  | 0 => (0, [])
  | k + 1 => if whyN l ((k + 1 : Nat) : Int) = 0 then wsA l k else ((wsA l k).1 + (whyN l ((k + 1 : Nat) : Int) : Int), (wsA l k).2 ++ lineW l ((k + 1 : Nat) : Int))
def wsK (k : Nat) : List Int := (List.range k).map fun j => ((j + 1 : Nat) : Int)
open Go.RowKit
set_option linter.unusedSimpArgs false
set_option linter.unusedVariables false
set_option maxRecDepth 20000
set_option maxHeartbeats 4000000
attribute [local irreducible] WPc WPl WPq ReadR OpT BinR HasS bx rdN rowN Take Takes Prov Triple ResF BuildP Done ag Int.decLt Int.decLe Int.instDecidableEq
attribute [local irreducible] mp rmp rg rgo mput mget mfind mdel mhas tls whysL errsL talL lineW lineE lineT lineP ars nextE iterE wsA nameL
end Go.Proofs.YtagedgcdonodfaaDoor
/- Report: what the law asks of a report: contracts. -/
namespace Go.Proofs.YtagedgcdonodfaaDoor
set_option linter.unusedVariables false
theorem fpTS {P' Q' : Program} {Γf : List Asn} {n n2 : String} {k k2 : IntKind} {zs zs2 : List Int} (h : tabA P' n k zs ∈ Γf) (h2 : tabA Q' n2 k2 zs2 ∈ Γf) : ∀ A, A ∈ [tabA P' n k zs, tabA Q' n2 k2 zs2] → ∃ B, B ∈ Γf ∧ ∀ g, A.fp g → B.fp g := fun A hA => by
  rcases List.mem_cons.1 hA with rfl | hA
  · exact ⟨_, h, fun g hg => hg⟩
  · rw [List.mem_singleton.1 hA]; exact ⟨_, h2, fun g hg => hg⟩
theorem textM_t (gR mW mE mT : Nat) (C E : LN) (T : LT) (l : List An) (hrep : Rep l C E T) (hl : l.length ≤ 1000) (hln : ∀ a ∈ l, a.ln ≤ 60) (hes : ∀ a ∈ l, in64 a.er) (hsv : ∀ a ∈ l, in64 a.sv ∧ in64 a.bk) :
    Triple Tryd.prog 18 #[pB0 gR] ([tP, tS] ++ rpA gR mW mE mT C E T) (RTurns (sV (txtL l)) (rpA gR mW mE mT C E T)) :=
  (text_t gR mW mE mT C E T l hrep hl hln hes hsv).permT (List.perm_append_comm (l₁ := [tP, tS]) (l₂ := rpA gR mW mE mT C E T))
open Go.RowKit
set_option linter.unusedSimpArgs false
set_option linter.unusedVariables false
set_option maxRecDepth 20000
set_option maxHeartbeats 4000000
attribute [local irreducible] WPc WPl WPq ReadR OpT BinR HasS bx rdN rowN Take Takes Prov Triple ResF BuildP Done ag Int.decLt Int.decLe Int.instDecidableEq
attribute [local irreducible] mp rmp rg rgo mput mget mfind mdel mhas tls whysL errsL talL lineW lineE lineT lineP ars nextE iterE wsA nameL txtL
end Go.Proofs.YtagedgcdonodfaaDoor
/- Report: a packet is counted; a report that is none: contracts. -/
namespace Go.Proofs.YtagedgcdonodfaaDoor
set_option linter.unusedVariables false
abbrev an0 : An := ⟨1, 1, 0, 0, false, 0, 0, 0, 0, false⟩
def txt0 : List UInt8 := [112, 97, 99, 107, 101, 116, 115, 32, 49, 10, 115, 101, 110, 116, 32, 49, 10, 116, 111, 32, 48, 32, 48, 32, 49, 32, 49, 10]
theorem txt0_eq : txtL [an0] = txt0 := by decide +kernel
theorem fpRow {Γf : List Asn} {e : TypeId} {sz m : Nat} {v : Value} {xs : List Value} (h : rowN e sz v m xs ∈ Γf) : ∀ A, A ∈ [rdN v m xs] → ∃ B, B ∈ Γf ∧ ∀ g, A.fp g → B.fp g := fun A hA => by
  rw [List.mem_singleton.1 hA]; exact ⟨_, h, fun g hg => hg.2⟩
theorem ars_one (r : AR) : ars [r] = flat (anC r) := by unfold ars; simp
theorem packetsR_t (gR mW mE mT : Nat) (C E : LN) (T : LT) (l : List An) (hrep : Rep l C E T) (hl : l.length ≤ 1000) : Triple Tryd.prog 12 #[pB0 gR] [bx gR 52 (rpC mW mE mT), mp whM mW C] (RTurns (.int .i64 (l.countP cntA : Nat)) [bx gR 52 (rpC mW mE mT), mp whM mW C]) := fun w hw ha => by
  obtain ⟨es, clock, _, _, _, _, h1, h2⟩ := hw (mp whM mW C) (List.mem_cons_of_mem _ (List.mem_cons_self ..))
  have := packets_t gR mW mE mT C (rep_all hrep h1 hl).1
  rw [hrep.sw] at this
  exact this w hw ha
def RTalR (gR mW mE mT : Nat) (T : LT) (l : List An) : Value → List Asn → Prop := fun v Γ => v.oneCell' = true ∧ Γ = [bx gR 52 (rpC mW mE mT), mp toM mT T, rowN 31 4 v (talL l).length (tls (talL l))] ∧ sumT (talL l) = (whyN l 1 : Nat)
open Go.RowKit
set_option linter.unusedSimpArgs false
set_option linter.unusedVariables false
set_option maxRecDepth 20000
set_option maxHeartbeats 4000000
attribute [local irreducible] WPc WPl WPq ReadR OpT BinR HasS bx rdN rowN Take Takes Prov Triple ResF BuildP Done ag Int.decLt Int.decLe Int.instDecidableEq
attribute [local irreducible] mp rmp rg rgo mput mget mfind mdel mhas tls whysL errsL talL lineW lineE lineT lineP nextE iterE wsA nameL txtL
theorem lives_t : Triple Tryd.prog 13 #[] [tP, tS] (RVal (.bool true)) := by
  refine Triple.enter Tryd.func13 rfl Tryd.ntmps13 rfl (fun W => ?_)
  dsimp only [argsF, Nat.reduceAdd]
  repeat' (first
   | refine WPl.nil ?_ | refine WPq.then ?_ | refine WPq.thenR ?_ | refine WPq.thenE ?_ | refine WPq.blockN ?_ | refine WPq.blockR ?_ | refine WPq.blockE ?_ | refine WPq.blockO rfl ?_ | refine WPc.seq ?_ | refine WPc.block ?_ | refine WPc.ret ?_ | refine WPc.exit ?_ | refine WPc.skip ?_ | refine WPc.region ?_
   | (refine isCond ?_; first | refine WPc.cT ?_ | refine WPc.cF ?_ | (refine WPc.cQ (fun hc => ?_) (fun hc => ?_) <;> try exact prA))
   | (refine isC 3 ?_; refine WPl.cXs (rnew_t) fun v3 Γ1 hR => ?_; (obtain ⟨gR, mW, mE, mT, rfl, rfl⟩ := hR); (try dsimp only [putF, List.cons_append, List.nil_append]))
   | (refine isD 5 ?_; refine WPl.row .nil rfl rfl rfl (OpT.buildSlice (m := 1) (vs := u8s [1]) evpA oneA rfl rfl) fun v5 hv5 => ?_)
   | (refine isOp ?_; first | refine WPl.rd ?_ | refine WPl.sk ?_ | refine WPl.rdB ?_)
   | (show WPl _ _ _ _ _ _ _ (⟨_, .indexAddr _ _ _, _, _, _, _⟩ :: _) _; refine WPl.rdX (ReadR.indexE rfl rfl hasA (by first | assumption | omega)) ?_)
   | (show WPl _ _ _ _ _ _ _ (⟨_, .fieldAddr _ _ _, _, _, _, _⟩ :: _) _; refine WPl.rdX (ReadR.fieldE rfl hasA (by first | assumption | omega)) ?_)
   | (show WPl _ _ _ _ _ _ _ (⟨_, .load _ _, _, _, _, _⟩ :: _) _; first | refine WPl.rdX (ReadR.loadE rfl hasA (by assumption)) ?_ | refine WPl.rdX (ReadR.loadES (by assumption) (by first | assumption | omega) rfl hasA) ?_)
   | (show WPl _ _ _ _ _ _ _ (⟨_, .slice _ _ _ _ _, _, _, _, _⟩ :: _) _; first | refine WPl.rdX (ReadR.sliceH rfl rfl hasA (by omega)) ?_ | refine WPl.rdX (ReadR.sliceL rfl rfl hasA (by omega)) ?_ | refine WPl.rdX (ReadR.sliceLH rfl rfl rfl hasA (by omega) (by omega)) ?_)
   | (refine WPl.spQ (fun hc => ?_) (fun hc => ?_) <;> try exact prA)
   | fail)
  refine WPl.slOf (ty := 5) memA fun ad cp hv => ?_
  subst hv
  have hW0 : ∀ r ∈ [(⟨ad, cp, an0, [1]⟩ : AR)], anW r := fun r hr => by
    rw [List.mem_singleton.1 hr]
    exact ⟨in64_of (show -9000000000000000000 ≤ (1 : Int) by omega) (show (1 : Int) ≤ 9000000000000000000 by omega), in64_of (show -9000000000000000000 ≤ (0 : Int) by omega) (show (0 : Int) ≤ 9000000000000000000 by omega), in64_of (show -9000000000000000000 ≤ (0 : Int) by omega) (show (0 : Int) ≤ 9000000000000000000 by omega), in64_of (show -9000000000000000000 ≤ (0 : Int) by omega) (show (0 : Int) ≤ 9000000000000000000 by omega)⟩
  have hp1 : plL [(⟨ad, cp, an0, [1]⟩ : AR)] = [an0] := rfl
  have c9 := fun v8 => add_t gR mW mE mT v8 [(⟨ad, cp, an0, [1]⟩ : AR)] [] [] [] hW0 [] rep_nil (by simp) (fun r hr => by rw [List.mem_singleton.1 hr]; exact (show 1 ≤ 60 by decide)) (by simp)
  simp only [hp1, ars_one] at c9
  have hcn : [an0].countP cntA = 1 := by decide +kernel
  rw [hcn] at c9
  have c14 := fun C E T (h : Rep [an0] C E T) => packetsR_t gR mW mE mT C E T [an0] h (by simp)
  rw [hcn] at c14
  have c19 := fun C E T (h : Rep [an0] C E T) => textM_t gR mW mE mT C E T [an0] h (by simp) (fun a ha => by rw [List.mem_singleton.1 ha]; exact (show 1 ≤ 60 by decide)) (fun a ha => by rw [List.mem_singleton.1 ha]; exact in64_of (show -9000000000000000000 ≤ (0 : Int) by omega) (show (0 : Int) ≤ 9000000000000000000 by omega)) (fun a ha => by rw [List.mem_singleton.1 ha]; exact ⟨in64_of (show -9000000000000000000 ≤ (0 : Int) by omega) (show (0 : Int) ≤ 9000000000000000000 by omega), in64_of (show -9000000000000000000 ≤ (0 : Int) by omega) (show (0 : Int) ≤ 9000000000000000000 by omega)⟩)
  rw [txt0_eq] at c19
  repeat' (first
   | refine WPl.nil ?_ | refine WPq.then ?_ | refine WPq.thenR ?_ | refine WPq.thenE ?_ | refine WPq.blockN ?_ | refine WPq.blockR ?_ | refine WPq.blockE ?_ | refine WPq.blockO rfl ?_ | refine WPc.seq ?_ | refine WPc.block ?_ | refine WPc.ret ?_ | refine WPc.exit ?_ | refine WPc.skip ?_ | refine WPc.region ?_
   | (refine isCond ?_; first | refine WPc.cT ?_ | refine WPc.cF ?_ | (refine WPc.cQ (fun hc => ?_) (fun hc => ?_) <;> try exact prA))
   | (refine isD 8 ?_; refine WPl.litS1 (ds := anC ⟨ad, cp, an0, [1]⟩) fun v8 hv8 => ?_)
   | (refine isC 9 ?_; refine WPl.cM (c9 _) ?_ (fun vq Γ1 hR => ?_) (hΔ := provsR2); exact fpRow memA; obtain ⟨C, E, T, rfl, rfl, hrep⟩ := hR; (try dsimp only [putF, List.cons_append, List.nil_append]))
   | (refine isD 11 ?_; refine WPl.rdX (ReadR.binE rfl rfl BinR.eql (congrArg Value.bool (decide_eq_true rfl))) ?_)
   | (refine isC 14 ?_; refine WPl.cTs ((c14 _ _ _ hrep)) ?_; (try dsimp only [putF, List.cons_append, List.nil_append]))
   | (refine isD 15 ?_; refine WPl.rdX (ReadR.binE rfl rfl BinR.eql (congrArg Value.bool (decide_eq_true rfl))) ?_)
   | (refine isC 19 ?_; refine WPl.cM (c19 _ _ _ hrep) ?_ (fun vq Γ1 hR => ?_) (hΔ := provsR2); exact fpTS memA memA; obtain ⟨rfl, rfl⟩ := hR; (try dsimp only [putF, List.cons_append, List.nil_append]))
   | (refine isD 20 ?_; refine WPl.rdX (ReadR.binE rfl rfl (BinR.sEql (a := txt0) (b := txt0)) (congrArg Value.bool (decide_eq_true rfl))) ?_)
   | (refine isOp ?_; first | refine WPl.rd ?_ | refine WPl.sk ?_ | refine WPl.rdB ?_)
   | (show WPl _ _ _ _ _ _ _ (⟨_, .indexAddr _ _ _, _, _, _, _⟩ :: _) _; refine WPl.rdX (ReadR.indexE rfl rfl hasA (by first | assumption | omega)) ?_)
   | (show WPl _ _ _ _ _ _ _ (⟨_, .fieldAddr _ _ _, _, _, _, _⟩ :: _) _; refine WPl.rdX (ReadR.fieldE rfl hasA (by first | assumption | omega)) ?_)
   | (show WPl _ _ _ _ _ _ _ (⟨_, .load _ _, _, _, _, _⟩ :: _) _; first | refine WPl.rdX (ReadR.loadE rfl hasA (by assumption)) ?_ | refine WPl.rdX (ReadR.loadES (by assumption) (by first | assumption | omega) rfl hasA) ?_)
   | (show WPl _ _ _ _ _ _ _ (⟨_, .slice _ _ _ _ _, _, _, _, _⟩ :: _) _; first | refine WPl.rdX (ReadR.sliceH rfl rfl hasA (by omega)) ?_ | refine WPl.rdX (ReadR.sliceL rfl rfl hasA (by omega)) ?_ | refine WPl.rdX (ReadR.sliceLH rfl rfl rfl hasA (by omega) (by omega)) ?_)
   | (refine WPl.spQ (fun hc => ?_) (fun hc => ?_) <;> try exact prA)
   | fail)
  all_goals try (first | exact WPq.dTp | exact WPq.dTs | exact WPq.dV | exact WPq.dR | exact WPq.dR2 | exact WPq.dH | exact WPq.dBH | exact WPq.dT)
end Go.Proofs.YtagedgcdonodfaaDoor
/- Report: a report that is none: contract. -/
namespace Go.Proofs.YtagedgcdonodfaaDoor
set_option linter.unusedVariables false
open Go.RowKit
set_option linter.unusedSimpArgs false
set_option linter.unusedVariables false
set_option maxRecDepth 20000
set_option maxHeartbeats 4000000
attribute [local irreducible] WPc WPl WPq ReadR OpT BinR HasS bx rdN rowN Take Takes Prov Triple ResF BuildP Done ag Int.decLt Int.decLe Int.instDecidableEq
attribute [local irreducible] mp rmp rg rgo mput mget mfind mdel mhas tls whysL errsL talL lineW lineE lineT lineP nextE iterE wsA nameL txtL ars gbag rdA
theorem none_t (vl : Value) (R : List AR) (hRW : ∀ r ∈ R, anW r) (hRd : ∀ r ∈ R, r.d.length = r.a.ln) : Triple Tryd.prog 6 #[vl] [rdN vl R.length (ars R), rdA R, tP, tS] (RVal (.bool true)) := by
  have c9 := few_t vl R hRW hRd
  have c39 := lives_t
  refine Triple.enter Tryd.func6 rfl Tryd.ntmps6 rfl (fun W => ?_)
  dsimp only [argsF, Nat.reduceAdd]
  repeat' (first
   | refine WPl.nil ?_ | refine WPq.then ?_ | refine WPq.thenR ?_ | refine WPq.thenE ?_ | refine WPq.blockN ?_ | refine WPq.blockR ?_ | refine WPq.blockE ?_ | refine WPq.blockO rfl ?_ | refine WPc.seq ?_ | refine WPc.block ?_ | refine WPc.ret ?_ | refine WPc.exit ?_ | refine WPc.skip ?_ | refine WPc.region ?_
   | (refine isCond ?_; first | refine WPc.cT ?_ | refine WPc.cF ?_ | (refine WPc.cQ (fun hc => ?_) (fun hc => ?_) <;> try exact prA))
   | (refine isC 5 ?_; refine WPl.cXs (rnew_t) fun v5 Γ1 hR => ?_; (obtain ⟨gR, mW, mE, mT, rfl, rfl⟩ := hR); (try dsimp only [putF, List.cons_append, List.nil_append]))
   | (refine isC 6 ?_; refine WPl.cV ((merge0_t _)) ?_)
   | (refine isC 9 ?_; refine WPl.cX c9 (fun v9 Γ1 hR => ?_) (hΔ := provsK); obtain ⟨S, hv9, rfl, hS1, hS2, hS3⟩ := hR; (try dsimp only [putF, List.cons_append, List.nil_append]))
   | (refine isC 10 ?_; refine WPl.cV ((add0_t _)) ?_)
   | (refine isD 11 ?_; refine WPl.rdX (ReadR.binE rfl rfl BinR.eql (congrArg Value.bool (decide_eq_true rfl))) ?_)
   | (refine isC 14 ?_; refine WPl.cV (packets0_t) ?_)
   | (refine isD 15 ?_; refine WPl.rdX (ReadR.binE rfl rfl BinR.eql (congrArg Value.bool (decide_eq_true rfl))) ?_)
   | (refine isC 19 ?_; refine WPl.cV ((why0_t _)) ?_)
   | (refine isD 20 ?_; refine WPl.rdX (ReadR.binE rfl rfl BinR.eql (congrArg Value.bool (decide_eq_true rfl))) ?_)
   | (refine isC 24 ?_; refine WPl.cV ((errs0_t _)) ?_)
   | (refine isD 25 ?_; refine WPl.rdX (ReadR.binE rfl rfl BinR.eql (congrArg Value.bool (decide_eq_true rfl))) ?_)
   | (refine isC 29 ?_; refine WPl.cV (tallies0_t) ?_)
   | (refine isD 30 ?_; refine WPl.rdX (ReadR.lenLit rfl) ?_)
   | (refine isD 31 ?_; refine WPl.rdX (ReadR.binE rfl rfl BinR.eql (congrArg Value.bool (decide_eq_true (show ((0 : Nat) : Int) = 0 from rfl)))) ?_)
   | (refine isC 35 ?_; refine WPl.cV (text0_t) ?_)
   | (refine isD 36 ?_; refine WPl.rdX (ReadR.binE rfl rfl (BinR.sEql (a := []) (b := [])) (congrArg Value.bool (decide_eq_true rfl))) ?_)
   | (refine isC 39 ?_; refine WPl.cV c39 ?_ (hΔ := provsR2))
   | (refine isOp ?_; first | refine WPl.rd ?_ | refine WPl.sk ?_ | refine WPl.rdB ?_)
   | (show WPl _ _ _ _ _ _ _ (⟨_, .indexAddr _ _ _, _, _, _, _⟩ :: _) _; refine WPl.rdX (ReadR.indexE rfl rfl hasA (by first | assumption | omega)) ?_)
   | (show WPl _ _ _ _ _ _ _ (⟨_, .fieldAddr _ _ _, _, _, _, _⟩ :: _) _; refine WPl.rdX (ReadR.fieldE rfl hasA (by first | assumption | omega)) ?_)
   | (show WPl _ _ _ _ _ _ _ (⟨_, .load _ _, _, _, _, _⟩ :: _) _; first | refine WPl.rdX (ReadR.loadE rfl hasA (by assumption)) ?_ | refine WPl.rdX (ReadR.loadES (by assumption) (by first | assumption | omega) rfl hasA) ?_)
   | (show WPl _ _ _ _ _ _ _ (⟨_, .slice _ _ _ _ _, _, _, _, _⟩ :: _) _; first | refine WPl.rdX (ReadR.sliceH rfl rfl hasA (by omega)) ?_ | refine WPl.rdX (ReadR.sliceL rfl rfl hasA (by omega)) ?_ | refine WPl.rdX (ReadR.sliceLH rfl rfl rfl hasA (by omega) (by omega)) ?_)
   | (refine WPl.spQ (fun hc => ?_) (fun hc => ?_) <;> try exact prA)
   | fail)
  all_goals try (first | exact WPq.dTp | exact WPq.dTs | exact WPq.dV | exact WPq.dR | exact WPq.dR2 | exact WPq.dH | exact WPq.dBH | exact WPq.dT)
end Go.Proofs.YtagedgcdonodfaaDoor
/- A list of answers (law 30), opened; the tables, as they are laid. -/
namespace Go.Proofs.YtagedgcdonodfaaDoor
open Go.ChangeShapes Go.WideShapes Go.ChangeAt Go.RowKit
set_option linter.unusedSimpArgs false
set_option linter.unusedVariables false
section
variable {H : Type} {enc : TypeId × Value → H} {P : Program} {W : World}
theorem fitsR_bool {ks : List KV} : ∀ {vs : List Value}, FitsV W (.k none :: ks) vs → ∃ (b : Bool) (r : List Value), vs = .bool b :: r ∧ FitsV W ks r
  | v :: r, h => by obtain ⟨⟨b, hb⟩, h⟩ := h; exact ⟨b, r, by rw [hb], h⟩
theorem fitsR_i64 {ks : List KV} : ∀ {vs : List Value}, FitsV W (.k (some .i64) :: ks) vs → ∃ (n : Int) (r : List Value), vs = .int .i64 n :: r ∧ in64 n ∧ FitsV W ks r
  | v :: r, h => by
    obtain ⟨⟨n, rfl, hw⟩, h⟩ := h
    have := bounds_i64 hw
    exact ⟨n, r, rfl, ⟨by omega, by omega⟩, h⟩
theorem fitsR_s {k : IntKind} {ks : List KV} : ∀ {vs : List Value}, FitsV W (.s k :: ks) vs → ∃ (v : Value) (r : List Value), vs = v :: r ∧ ∃ xs : List Int, (rdN v xs.length (xs.map (Value.int k))).holds W ∧ (∀ n ∈ xs, (Lit.int k n).wf = true) ∧ FitsV W ks r
  | v :: r, h => by
    obtain ⟨⟨xs, h1, h2⟩, h⟩ := h
    exact ⟨v, r, rfl, xs, h1, h2, h⟩
theorem fitsR_nil : ∀ {vs : List Value}, FitsV W [] vs → vs = []
  | [], _ => rfl
abbrev ansKs : List KV := [.k (some .i64), .s .u8, .k (some .i64), .k (some .i64), .k none, .k (some .i64), .k (some .i64), .k (some .i64), .k (some .i64), .k none]
theorem fits_an {es : List Value} (h : FitsV W ansKs es) : ∃ r : AR, es = flat (anC r) ∧ anW r ∧ r.d.length = r.a.ln ∧ (rb (vA r) r.d).holds W := by
  obtain ⟨why, r1, rfl, b1, i1⟩ := fitsR_i64 h
  obtain ⟨v, r2, rfl, xs, h3, h4, i2⟩ := fitsR_s i1
  obtain ⟨sv, r3, rfl, b3, i3⟩ := fitsR_i64 i2
  obtain ⟨bk, r4, rfl, b4, i4⟩ := fitsR_i64 i3
  obtain ⟨nw, r5, rfl, i5⟩ := fitsR_bool i4
  obtain ⟨er, r6, rfl, b6, i6⟩ := fitsR_i64 i5
  obtain ⟨e2, r7, rfl, b7, i7⟩ := fitsR_i64 i6
  obtain ⟨n, r8, rfl, b8, i8⟩ := fitsR_i64 i7
  obtain ⟨m, r9, rfl, b9, i9⟩ := fitsR_i64 i8
  obtain ⟨on, r10, rfl, i10⟩ := fitsR_bool i9
  obtain rfl := fitsR_nil i10
  obtain ⟨ad, cp, rfl⟩ : ∃ ad cp, v = .slice ad xs.length cp := by
    rcases h3 with ⟨hv, hn, _⟩ | ⟨a, c, hv, _⟩
    · exact ⟨none, 0, by rw [hv, hn]⟩
    · exact ⟨some a, c, hv⟩
  have e : xs.map (Value.int .u8) = u8s (xs.map fun n => UInt8.ofNat n.toNat) := by
    unfold u8s
    rw [List.map_map]
    apply List.map_congr_left
    intro n hn
    have hb := bounds_u8 (h4 n hn)
    show Value.int .u8 n = Value.int .u8 (((UInt8.ofNat n.toNat).toNat : Nat) : Int)
    have h3 : (UInt8.ofNat n.toNat).toNat = n.toNat % 256 := by simp
    rw [h3, show ((n.toNat % 256 : Nat) : Int) = n by omega]
  refine ⟨⟨ad, cp, ⟨why, xs.length, sv, bk, nw, er, e2, n, m, on⟩, xs.map fun n => UInt8.ofNat n.toNat⟩, rfl, ⟨b1, b3, b4, b6⟩, by rw [List.length_map], ?_⟩
  show (rdN (.slice ad xs.length cp) (xs.map fun n => UInt8.ofNat n.toNat).length (u8s (xs.map fun n => UInt8.ofNat n.toNat))).holds W
  rw [← e, List.length_map]
  exact h3
theorem open_ans {v : Value} {d : DataW H} {p : List MemPlace} {base : Nat} {t e : TypeId} (ht : P.underlying t = some (.slice e)) (hk : flatV P 8 e = some ansKs) (hc : P.cellsOf e = 10) (hval : Value.okWide P W .any base t v)
    (h : DataW.Trod enc P W 0 (fun _ => true) true t v d p) : ∃ R : List AR, (rdN v R.length (ars R)).holds W ∧ (rdA R).holds W ∧ (∀ r ∈ R, anW r) ∧ ∀ r ∈ R, r.d.length = r.a.ln := by
  obtain ⟨l, h1, h2⟩ := open_listV (q := fun r : AR => anW r ∧ r.d.length = r.a.ln ∧ (rb (vA r) r.d).holds W) anC (fun es he => fits_an he) 8 ht hk hc (by decide) hval h
  exact ⟨l, h1, fun r hr => (h2 r hr).2.2, fun r hr => (h2 r hr).1, fun r hr => (h2 r hr).2.1⟩
theorem tab_of_reads {name : String} {k : IntKind} {zs : List Int} {t e : TypeId} {n : Nat}
    (hgt : ((P.globalNamed name).bind fun g => (P.globals[g]?).map (·.type)) = some t) (ht : P.underlying t = some (.array n e)) (he : P.underlying e = some (.int k)) (hce : P.cellsOf e = 1) (hct : P.cellsOf t = n)
    {l : List (String × DataW Unit)} (h : laidMet P l W) (hm : (name, Lib.tabData k zs) ∈ l) : Lib.TabIs P W name k zs := by
  obtain ⟨g', t', cs, fuel, p, hg', ht', hvar, hd⟩ := Lib.laidMet.reads h hm
  rw [hg', Option.bind_some, ht'] at hgt
  obtain rfl := Option.some.inj hgt
  unfold Lib.TabIs
  rw [hvar, ← Lib.cells_of_tab ht he hce hct hd]
end
end Go.Proofs.YtagedgcdonodfaaDoor
/- Closed facts of the program, each once. -/
namespace Go.Proofs.YtagedgcdonodfaaDoor
open Go.ChangeShapes Go.WideShapes Go.ChangeAt Go.RowKit
theorem Tryd.enters : Tryd.prog.mayEnter = true := by kernel_rfl
end Go.Proofs.YtagedgcdonodfaaDoor
/- ReportNone, lifted: for every input, and the tables as they are laid, the law returns true. -/
namespace Go.Proofs.YtagedgcdonodfaaDoor
open Go.ChangeShapes Go.WideShapes Go.ChangeAt Go.RowKit
set_option linter.unusedVariables false
/-- The tables are laid in the heap that the door's own run leaves. -/
theorem door30 (os : Os) (args : Array Value) : laidMetH Tryd.prog Rows.reportNoneRow.laid ((World.doorLaid Tryd.prog 4000 os).forCall (fun _ _ => 0) ⟨#[], args, []⟩).memory :=
  laidMetH_of_parts3 (fuel := 400) (laidMet_of_run' 400 (by kernel_rfl) (by kernel_rfl)) (by kernel_rfl) (by kernel_rfl)
theorem mem_pow : ("internal/strconv.uint64pow10", (Lib.tabData .u64 Lib.pow10Tab : DataW Unit)) ∈ Rows.reportNoneRow.laid := by
  rw [← show Rows.laid_internal_strconv_uint64pow10 (H := Unit) = Lib.tabData .u64 Lib.pow10Tab from by kernel_rfl]
  exact .tail _ (.tail _ (.head _))
theorem mem_asc : ("strings.asciiSpace", (Lib.tabData .u8 Lib.asciiSpaceTab : DataW Unit)) ∈ Rows.reportNoneRow.laid := by
  rw [← show Rows.laid_strings_asciiSpace (H := Unit) = Lib.tabData .u8 Lib.asciiSpaceTab from by kernel_rfl]
  exact .tail _ (.tail _ (.tail _ (.tail _ (.head _))))
theorem tabs_of {W : World} (h : laidMetH Tryd.prog Rows.reportNoneRow.laid W) : tP.holds W ∧ tS.holds W := by
  rw [MakeChecks.laidMetH_plain _ _ _ (by kernel_rfl)] at h
  exact ⟨tab_of_reads (P := Tryd.prog) (t := 156) (e := 99) (n := 20) (by kernel_rfl) (by kernel_rfl) (by kernel_rfl) (by kernel_rfl) (by kernel_rfl) h mem_pow,
    tab_of_reads (P := Tryd.prog) (t := 101) (e := 5) (n := 256) (by kernel_rfl) (by kernel_rfl) (by kernel_rfl) (by kernel_rfl) (by kernel_rfl) h mem_asc⟩
set_option maxRecDepth 100000 in
theorem reportNone_lifted (os : Os) (started : os.Started) (H : Type) (enc : TypeId × Value → H) :
    ReturnsInHanded {} Tryd.checked os 6 .any (fun w args => (Rows.reportNoneSpec.pre enc Tryd.prog Tryd.f6 Rows.reportNoneRow.domain false w args ∧ laidMetH Tryd.prog Rows.reportNoneRow.laid w) ∧ sizedMet enc Tryd.prog Tryd.f6 (OpenSpec.ofChange Rows.reportNoneSpec) false w args)
      (Rows.reportNoneSpec.post enc Tryd.prog Tryd.f6 false true false false) := by
  refine returnsInHanded_of_change_and (C := Tryd.checked) (X := fun w _ => laidMetH Tryd.prog Rows.reportNoneRow.laid w) (fun _ _ _ hh h => h.of_heap hh) Tryd.own started (by kernel_rfl) Tryd.func6
    (ChangeSpec.witness_shaped (enc := enc) (C := Tryd.checked) (os := os) (X := fun w _ => laidMetH Tryd.prog Rows.reportNoneRow.laid w) false (World.doorLaid Tryd.prog 4000 os) #[.slice none 0 0] 8 rfl (World.shaped_of_RefB (by kernel_rfl) (by kernel_rfl)) (by kernel_rfl) (by kernel_rfl) (by kernel_rfl) (door30 os _)) ?_
  intro W base args ds gs before hval0 hW _ _ hL _
  have hval : ∀ (j : Nat) t v, Tryd.f6.params[j]? = some t → args[j]? = some v → Value.okWide Tryd.prog W .any base t v := hval0
  have hW' := hW
  obtain ⟨p, q, hA0, hV, rfl, hfz, hnd⟩ := hW
  have hA : DataW.TrodAll enc Tryd.prog W 0 (fun _ => true) true Tryd.f6.params.toList args.toList ds p := hA0
  rw [Tryd.params6] at hA hval
  obtain ⟨v0, vs0, d0, ds0, p0, q0, hargs, rfl, rfl, h0, r0⟩ := trodAll_cons hA
  obtain ⟨rfl, rfl, rfl⟩ := trodAll_nil r0
  obtain rfl : args = #[v0] := by cases args; simp_all
  obtain ⟨rfl, rfl⟩ := trodVars_none hV
  have k0 := h0
  have lt0 : ∀ x ∈ p0, x.block < W.heap.size := by obtain ⟨m, hm⟩ := k0; exact DataW.trod_lt m _ _ _ hm
  obtain ⟨R0, hr0, hb0, hw0, hl0⟩ := open_ans Tryd.underlying22 (by kernel_rfl) (by kernel_rfl) (hval 0 22 v0 rfl rfl) h0
  obtain ⟨htP, htS⟩ := tabs_of hL
  clear hA0 hval0
  refine (law_of (W := W) (none_t v0 R0 hw0 hl0) (by simp [rdN_own, rdA, tabA]) (hold1 hr0 (hold1 hb0 (hold1 htP (hold1 htS hold0))))).mono fun e W' ⟨he, bel⟩ => ?_
  subst he
  exact ⟨_, rfl, _, _, _, [], _, [], hW', trodAll_mk1 (shut_bool Tryd.underlying4 _), (trodAll_cons_mk (Below.trod Tryd.laidOut (by kernel_rfl) (of_decide_eq_true (by kernel_rfl)) k0 bel lt0) trodAll_mk0), rfl, bel.frame _, fun h => by cases h⟩
end Go.Proofs.YtagedgcdonodfaaDoor
