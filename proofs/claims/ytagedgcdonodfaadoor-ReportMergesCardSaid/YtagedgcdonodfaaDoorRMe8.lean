/- What the row of reportMerges_card_holds needs: part 8. -/
import Derived.Test.YtagedgcdonodfaaDoorRMe7
import Derived.Test.YtagedgcdonodfaaDoorRMe6
import Derived.Test.YtagedgcdonodfaaDoorRMe3
import Derived.Lib.LaidU8
import Derived.Test.YtagedgcdonodfaaDoorRows
import Derived.ProofKit
import Derived.OpenShut
import Derived.ChangeSame
import Derived.ChangeVars
import Derived.JoinedOf
import Derived.RowKit
import Derived.RowKitTokens
import Derived.LaidLaws
import Derived.LaidHandle
import Derived.LaidMore
import Derived.MakeChecks
import Derived.Stop.Joined
/- Report: the document's text: contract. -/
namespace Go.Proofs.YtagedgcdonodfaaDoor
set_option linter.unusedVariables false
def refW : List (List UInt8) := [[], nameL 1, nameL 2, nameL 3, nameL 4, nameL 5, nameL 6, nameL 7]
theorem refW_at {k : Nat} (h : k < 7) : (refW.map sV)[k + 1]? = some (sV (nameL ((k + 1 : Nat) : Int))) := by
  have : k = 0 ∨ k = 1 ∨ k = 2 ∨ k = 3 ∨ k = 4 ∨ k = 5 ∨ k = 6 := by omega
  rcases this with rfl | rfl | rfl | rfl | rfl | rfl | rfl <;> rfl
theorem refW_row (v : Value) : rowN 9 1 v 8 [.string { data := #[] }, .string { data := #[115, 101, 110, 116] }, .string { data := #[114, 101, 112, 108, 121] }, .string { data := #[98, 97, 100] }, .string { data := #[117, 110, 107, 110, 111, 119, 110] }, .string { data := #[110, 111, 119, 104, 101, 114, 101] }, .string { data := #[102, 117, 108, 108] }, .string { data := #[116, 97, 107, 101, 110] }] = rowN 9 1 v 8 (refW.map sV) := rfl
def wsA (l : List An) : Nat → Int × List UInt8
  | 0 => (0, [])
  | k + 1 => if whyN l ((k + 1 : Nat) : Int) = 0 then wsA l k else ((wsA l k).1 + (whyN l ((k + 1 : Nat) : Int) : Int), (wsA l k).2 ++ lineW l ((k + 1 : Nat) : Int))
def wsK (k : Nat) : List Int := (List.range k).map fun j => ((j + 1 : Nat) : Int)
theorem wsA_txt (l : List An) : ∀ k, (wsA l k).2 = (((wsK k).filter fun q => decide (whyN l q ≠ 0)).map (lineW l)).flatten
  | 0 => rfl
  | k + 1 => by
    have e : wsK (k + 1) = wsK k ++ [((k + 1 : Nat) : Int)] := by unfold wsK; rw [List.range_succ, List.map_append]; rfl
    rw [e, List.filter_append, List.map_append, List.flatten_append, ← wsA_txt l k, wsA]
    by_cases h : whyN l ((k + 1 : Nat) : Int) = 0
    · rw [if_pos h, List.filter_cons_of_neg (by simpa using h)]; simp
    · rw [if_neg h, List.filter_cons_of_pos (by simpa using h)]; simp
theorem wsA_sum (l : List An) : ∀ k, (wsA l (k + 1)).1 = (wsA l k).1 + (whyN l ((k + 1 : Nat) : Int) : Int) := fun k => by
  rw [wsA]
  by_cases h : whyN l ((k + 1 : Nat) : Int) = 0
  · rw [if_pos h, h]; simp
  · rw [if_neg h]
theorem wsA_all (l : List An) : wsA l 7 = ((l.countP cntA : Int), ((whysL l).map (lineW l)).flatten) := by
  have h1 : (wsA l 7).1 = (l.countP cntA : Int) := by
    rw [wsA_sum, wsA_sum, wsA_sum, wsA_sum, wsA_sum, wsA_sum, wsA_sum, cnt_sum]
    show (0 : Int) + _ + _ + _ + _ + _ + _ + _ = _
    rw [Int.zero_add]
    rfl
  have h2 : (wsA l 7).2 = ((whysL l).map (lineW l)).flatten := by rw [wsA_txt]; rfl
  rw [← h1, ← h2]
theorem wsA_len (l : List An) (hl : l.length ≤ 1000) : ∀ k, 0 ≤ (wsA l k).1 ∧ (wsA l k).1 ≤ 1000 * k ∧ (wsA l k).2.length ≤ 200 * k
  | 0 => by simp [wsA]
  | k + 1 => by
    obtain ⟨a, b, c⟩ := wsA_len l hl k
    have h1 := why_len (l := l) (k := ((k + 1 : Nat) : Int))
    have h2 := lineW_len l ((k + 1 : Nat) : Int) hl
    rw [wsA]
    split
    · omega
    · refine ⟨by dsimp only; omega, by dsimp only; omega, by rw [List.length_append]; omega⟩
theorem lineW_eq (tx : List UInt8) (l : List An) (k : Int) : tx ++ nameL k ++ [32] ++ Lib.itoa (whyN l k : Int) ++ [10] = tx ++ lineW l k := by simp [lineW, spc]
theorem lineE_eq (tx : List UInt8) (l : List An) (k : Int) : tx ++ [101, 114, 114, 111, 114, 32] ++ Lib.itoa k ++ [32] ++ Lib.itoa (errN l k : Int) ++ [10] = tx ++ lineE l k := by simp [lineE, spc]
theorem lineT_eq (tx : List UInt8) (x : TE) : tx ++ [116, 111, 32] ++ Lib.itoa x.1.1 ++ [32] ++ Lib.itoa x.1.2 ++ [32] ++ Lib.itoa x.2.1 ++ [32] ++ Lib.itoa x.2.2 ++ [10] = tx ++ lineT x := by simp [lineT, spc]
theorem lineP_eq (l : List An) : [112, 97, 99, 107, 101, 116, 115, 32] ++ Lib.itoa (l.countP cntA : Int) ++ [10] = lineP l := by simp [lineP, spc]
theorem itoa_len {n : Int} (h : in64 n) : (Lib.itoa n).length ≤ 21 := by
  have := spc_len h
  unfold spc at this
  rw [List.length_cons] at this
  omega
theorem nextE_snoc (l : List An) (a : An) (fst : Bool) (last : Int) : nextE (l ++ [a]) fst last = if okE fst last a then (match nextE l fst last with | none => some a.er | some x => if a.er < x then some a.er else some x) else nextE l fst last := by
  unfold nextE
  rw [List.foldl_append]
  rfl
theorem nextE_err {l : List An} {fst : Bool} {last b : Int} (h : nextE l fst last = some b) : b ∈ errsL l := by
  rcases nextE_spec (l := l) (fst := fst) (last := last) with ⟨h1, _⟩ | ⟨q, h1, ⟨a, ha, hok, hq⟩, _⟩
  · rw [h1] at h; cases h
  · rw [h1] at h
    cases h
    unfold okE at hok
    simp only [Bool.and_eq_true, Bool.not_eq_true', decide_eq_false_iff_not] at hok
    exact errsL_mem.2 ⟨by rw [← hq]; exact hok.2.1, a, ha, hok.1, hq⟩
open Go.RowKit
set_option linter.unusedSimpArgs false
set_option linter.unusedVariables false
set_option maxRecDepth 20000
set_option maxHeartbeats 4000000
attribute [local irreducible] WPc WPl WPq ReadR OpT BinR HasS bx rdN rowN Take Takes Prov Triple ResF BuildP Done ag Int.decLt Int.decLe Int.instDecidableEq
attribute [local irreducible] mp rmp rg rgo mput mget mfind mdel mhas tls whysL errsL talL lineW lineE lineT lineP ars nextE iterE wsA nameL
theorem refText_t (vl : Value) (R : List AR) (hR : ∀ r ∈ R, anW r) (hl : R.length ≤ 1000) (hln : ∀ r ∈ R, r.a.ln ≤ 60) :
    Triple Tryd.prog 28 #[vl] [rdN vl R.length (ars R)] (RVal (sV (txtL (plL R)))) := by
  have hlen2 := ars_len R
  obtain ⟨l, hlL⟩ : ∃ l, l = plL R := ⟨_, rfl⟩
  have hll : l.length = R.length := by rw [hlL]; unfold plL; rw [List.length_map]
  have hln' : ∀ a ∈ l, a.ln ≤ 60 := fun a ha => by
    rw [hlL] at ha
    obtain ⟨r, hr, rfl⟩ := List.mem_map.1 ha
    exact hln r hr
  have hw' : ∀ a ∈ l, (in64 a.sv ∧ in64 a.bk) ∧ in64 a.er := fun a ha => by
    rw [hlL] at ha
    obtain ⟨r, hr, rfl⟩ := List.mem_map.1 ha
    exact ⟨⟨(hR r hr).2.1, (hR r hr).2.2.1⟩, (hR r hr).2.2.2⟩
  rw [← hlL]
  have hwl8 : (refW.map sV).length = 8 := rfl
  refine Triple.enter Tryd.func28 rfl Tryd.ntmps28 rfl (fun W => ?_)
  dsimp only [argsF, Nat.reduceAdd]
  repeat' (first
   | refine WPl.nil ?_ | refine WPq.then ?_ | refine WPq.thenR ?_ | refine WPq.thenE ?_ | refine WPq.blockN ?_ | refine WPq.blockR ?_ | refine WPq.blockE ?_ | refine WPq.blockO rfl ?_ | refine WPc.seq ?_ | refine WPc.block ?_ | refine WPc.ret ?_ | refine WPc.exit ?_ | refine WPc.skip ?_ | refine WPc.region ?_
   | (refine isCond ?_; first | refine WPc.cT ?_ | refine WPc.cF ?_ | (refine WPc.cQ (fun hc => ?_) (fun hc => ?_) <;> try exact prA))
   | (refine isLit ?_; refine WPl.lits fun v17 hv17 => ?_)
   | (refine isOp ?_; first | refine WPl.rd ?_ | refine WPl.sk ?_ | refine WPl.rdB ?_)
   | (show WPl _ _ _ _ _ _ _ (⟨_, .indexAddr _ _ _, _, _, _, _⟩ :: _) _; refine WPl.rdX (ReadR.indexE rfl rfl hasA (by first | assumption | omega)) ?_)
   | (show WPl _ _ _ _ _ _ _ (⟨_, .fieldAddr _ _ _, _, _, _, _⟩ :: _) _; refine WPl.rdX (ReadR.fieldE rfl hasA (by first | assumption | omega)) ?_)
   | (show WPl _ _ _ _ _ _ _ (⟨_, .load _ _, _, _, _, _⟩ :: _) _; first | refine WPl.rdX (ReadR.loadE rfl hasA (by assumption)) ?_ | refine WPl.rdX (ReadR.loadES (by assumption) (by first | assumption | omega) rfl hasA) ?_)
   | (show WPl _ _ _ _ _ _ _ (⟨_, .slice _ _ _ _ _, _, _, _, _⟩ :: _) _; first | refine WPl.rdX (ReadR.sliceH rfl rfl hasA (by omega)) ?_ | refine WPl.rdX (ReadR.sliceL rfl rfl hasA (by omega)) ?_ | refine WPl.rdX (ReadR.sliceLH rfl rfl rfl hasA (by omega) (by omega)) ?_)
   | (refine WPl.spQ (fun hc => ?_) (fun hc => ?_) <;> try exact prA)
   | fail)
  rw [refW_row]
  first | refine WPc.loop (σ := Nat × Int × List UInt8) (fun st => st.1 ≤ 7 ∧ st.2 = wsA l st.1) (fun st => [rdN vl R.length (ars R), rowN 9 1 v17 8 (refW.map sV)]) (fun st => [(0, vl), (3, .int .i64 st.2.1), (4, sV st.2.2), (5, v17), (6, .int .i64 ((st.1 + 1 : Nat) : Int))]) (fun st => 7 - st.1) (⟨0, 0, []⟩) ?_ takesA frsA (fun st km hx hk => ?_)
  · exact ⟨Nat.zero_le _, by with_unfolding_all rfl⟩
  obtain ⟨i, al, tx⟩ := st
  obtain ⟨hi, hst⟩ := hx
  dsimp only at hi hst hk ⊢
  obtain ⟨b1, b2, b3⟩ := wsA_len l (by omega) i
  rw [← hst] at b1 b2 b3
  dsimp only at b1 b2 b3
  by_cases hin : i < 7
  · have c24 := whyR_t vl R ((i + 1 : Nat) : Int) (by omega)
    rw [← hlL] at c24
    have hwl := why_len (l := l) (k := ((i + 1 : Nat) : Int))
    have hsucc : wsA l (i + 1) = if whyN l ((i + 1 : Nat) : Int) = 0 then wsA l i else ((wsA l i).1 + (whyN l ((i + 1 : Nat) : Int) : Int), (wsA l i).2 ++ lineW l ((i + 1 : Nat) : Int)) := by with_unfolding_all rfl
    rw [← hst] at hsucc
    dsimp only at hsucc
    by_cases h0 : whyN l ((i + 1 : Nat) : Int) = 0
    · rw [if_pos h0] at hsucc
      rw [h0] at c24
      repeat' (first
       | refine WPl.nil ?_ | refine WPq.then ?_ | refine WPq.thenR ?_ | refine WPq.thenE ?_ | refine WPq.blockN ?_ | refine WPq.blockR ?_ | refine WPq.blockE ?_ | refine WPq.blockO rfl ?_ | refine WPc.seq ?_ | refine WPc.block ?_ | refine WPc.ret ?_ | refine WPc.exit ?_ | refine WPc.skip ?_ | refine WPc.region ?_
       | (refine isCond ?_; first | refine WPc.cT ?_ | refine WPc.cF ?_ | (refine WPc.cQ (fun hc => ?_) (fun hc => ?_) <;> try exact prA))
       | (refine isD 19 ?_; refine WPl.rdX (ReadR.binE rfl rfl BinR.leq (congrArg Value.bool (decide_eq_true (show ((i + 1 : Nat) : Int) ≤ 7 by omega)))) ?_)
       | (refine isC 24 ?_; refine WPl.cV (c24) ?_)
       | (refine isOp ?_; first | refine WPl.rd ?_ | refine WPl.sk ?_ | refine WPl.rdB ?_)
       | (show WPl _ _ _ _ _ _ _ (⟨_, .indexAddr _ _ _, _, _, _, _⟩ :: _) _; refine WPl.rdX (ReadR.indexE rfl rfl hasA (by first | assumption | omega)) ?_)
       | (show WPl _ _ _ _ _ _ _ (⟨_, .fieldAddr _ _ _, _, _, _, _⟩ :: _) _; refine WPl.rdX (ReadR.fieldE rfl hasA (by first | assumption | omega)) ?_)
       | (show WPl _ _ _ _ _ _ _ (⟨_, .load _ _, _, _, _, _⟩ :: _) _; first | refine WPl.rdX (ReadR.loadE rfl hasA (by assumption)) ?_ | refine WPl.rdX (ReadR.loadES (by assumption) (by first | assumption | omega) rfl hasA) ?_)
       | (show WPl _ _ _ _ _ _ _ (⟨_, .slice _ _ _ _ _, _, _, _, _⟩ :: _) _; first | refine WPl.rdX (ReadR.sliceH rfl rfl hasA (by omega)) ?_ | refine WPl.rdX (ReadR.sliceL rfl rfl hasA (by omega)) ?_ | refine WPl.rdX (ReadR.sliceLH rfl rfl rfl hasA (by omega) (by omega)) ?_)
       | (refine WPl.spQ (fun hc => ?_) (fun hc => ?_) <;> try exact prA)
       | fail)
      exact WPq.rnd (i + 1, al, tx) ⟨by dsimp only; omega, hsucc.symm⟩ (by dsimp only; omega)
    · rw [if_neg h0] at hsucc
      obtain ⟨n, hn⟩ : ∃ n : Int, n = (whyN l ((i + 1 : Nat) : Int) : Int) := ⟨_, rfl⟩
      have hE := lineW_eq tx l ((i + 1 : Nat) : Int)
      rw [← hn] at c24 hsucc hE
      have hn0 : 0 < n ∧ n ≤ 1000 := by omega
      have hn64 : in64 n := in64_of (by omega) (by omega)
      have c38 := num_t n hn64
      have hil := itoa_len hn64
      have hwj := refW_at hin
      have hnl := nameL_len ((i + 1 : Nat) : Int)
      obtain ⟨nm, hnm⟩ : ∃ nm, nm = nameL ((i + 1 : Nat) : Int) := ⟨_, rfl⟩
      rw [← hnm] at hwj hE hnl
      repeat' (first
       | refine WPl.nil ?_ | refine WPq.then ?_ | refine WPq.thenR ?_ | refine WPq.thenE ?_ | refine WPq.blockN ?_ | refine WPq.blockR ?_ | refine WPq.blockE ?_ | refine WPq.blockO rfl ?_ | refine WPc.seq ?_ | refine WPc.block ?_ | refine WPc.ret ?_ | refine WPc.exit ?_ | refine WPc.skip ?_ | refine WPc.region ?_
       | (refine isReg 8 ?_; refine WPc.drA [([], [28, 30, 31, 32, 33, 34, 35, 36, 37, 38, 39, 40]), ([], [27, 30, 31, 32, 33, 34, 35, 36, 37, 38, 39, 40]), ([0, 1], [27, 28, 30, 31, 32, 33, 34, 35, 36, 37, 38, 39, 40]), ([], [3, 27, 28, 29, 31, 32, 33, 34, 37, 38]), ([], [3, 27, 28, 29, 30, 32, 37, 38]), ([], [3, 27, 28, 29, 30, 31, 37, 38]), ([4, 5], [3, 27, 28, 29, 30, 31, 32, 37, 38]), ([4, 5, 6], [3, 27, 28, 29, 30, 31, 32, 33, 37, 38]), ([3, 4, 5, 6, 7], [3, 27, 28, 29, 30, 31, 32, 33, 34, 37, 38]), ([3, 4, 5, 6, 7, 8], [3, 27, 28, 29, 30, 31, 32, 33, 34, 35, 37, 38]), ([], [27, 28, 29, 30, 31, 32, 33, 34, 35, 36]), ([10], [27, 28, 29, 30, 31, 32, 33, 34, 35, 36, 37]), ([3, 4, 5, 6, 7, 8, 9, 10, 11], [3, 27, 28, 29, 30, 31, 32, 33, 34, 35, 36, 37, 38]), ([3, 4, 5, 6, 7, 8, 9, 10, 11, 12], [3, 27, 28, 29, 30, 31, 32, 33, 34, 35, 36, 37, 38, 39]), ([0, 1, 2, 10, 11], [27, 28, 29, 30, 31, 32, 33, 34, 35, 36, 37, 38, 39, 40]), ([0, 1, 2, 3, 4, 5, 6, 7, 8, 9, 10, 11, 12, 13, 14], [3, 27, 28, 29, 30, 31, 32, 33, 34, 35, 36, 37, 38, 39, 40])] [] (Γx := []) ?_; dsimp only [prev0, List.length_nil, List.length_cons])
       | (refine gAny ?_; first | (refine gC 24 ?_; refine RGl.vl (fun e hk => OpT.callN (c24)) ?_) | (refine gC 38 ?_; refine RGl.vl (fun e hk => OpT.callN (c38)) ?_) | (refine gD 19 ?_; refine RGl.rdX (fun e hk => by (try dsimp only [bndR, ensR, oksR, fcutR, List.append_nil, List.nil_append, List.cons_append, List.append_assoc] at hk ⊢); exact ReadR.binE rfl rfl BinR.leq (congrArg Value.bool (decide_eq_true (show ((i + 1 : Nat) : Int) ≤ 7 by omega)))) ?_) | (refine gD 26 ?_; refine RGl.rdX (fun e hk => by (try dsimp only [bndR, ensR, oksR, fcutR, List.append_nil, List.nil_append, List.cons_append, List.append_assoc] at hk ⊢); exact ReadR.binE rfl rfl BinR.gtr (congrArg Value.bool (decide_eq_true (show (0 : Int) < n from hn0.1)))) ?_) | (refine gD 29 ?_; refine RGl.rdX (fun e hk => by (try dsimp only [bndR, ensR, oksR, fcutR, List.append_nil, List.nil_append, List.cons_append, List.append_assoc] at hk ⊢); exact ReadR.binE rfl rfl (BinR.addI (by omega) (by omega)) rfl) ?_) | (refine gD 33 ?_; refine RGl.rdX (fun e hk => by (try dsimp only [bndR, ensR, oksR, fcutR, List.append_nil, List.nil_append, List.cons_append, List.append_assoc] at hk ⊢); exact ReadR.indexE1 (i := i + 1) rfl rfl hasA (by omega)) ?_) | (refine gD 34 ?_; refine RGl.rdX (fun e hk => by (try dsimp only [bndR, ensR, oksR, fcutR, List.append_nil, List.nil_append, List.cons_append, List.append_assoc] at hk ⊢); exact ReadR.loadE rfl hasA hwj) ?_) | (refine gD 35 ?_; refine RGl.rdX (fun e hk => by (try dsimp only [bndR, ensR, oksR, fcutR, List.append_nil, List.nil_append, List.cons_append, List.append_assoc] at hk ⊢); exact ReadR.binE rfl rfl (BinR.sAdd (by (try simp only [List.length_append, List.length_cons, List.length_nil]); omega)) rfl) ?_) | (refine gD 36 ?_; refine RGl.rdX (fun e hk => by (try dsimp only [bndR, ensR, oksR, fcutR, List.append_nil, List.nil_append, List.cons_append, List.append_assoc] at hk ⊢); exact ReadR.binE rfl rfl (BinR.sAdd (b := [32]) (by (try simp only [List.length_append, List.length_cons, List.length_nil]); omega)) rfl) ?_) | (refine gD 39 ?_; refine RGl.rdX (fun e hk => by (try dsimp only [bndR, ensR, oksR, fcutR, List.append_nil, List.nil_append, List.cons_append, List.append_assoc] at hk ⊢); exact ReadR.binE rfl rfl (BinR.sAdd (by (try simp only [List.length_append, List.length_cons, List.length_nil]); omega)) rfl) ?_) | (refine gD 40 ?_; refine RGl.rdX (fun e hk => by (try dsimp only [bndR, ensR, oksR, fcutR, List.append_nil, List.nil_append, List.cons_append, List.append_assoc] at hk ⊢); exact ReadR.binE rfl rfl (BinR.sAdd (b := [10]) (by (try simp only [List.length_append, List.length_cons, List.length_nil]); omega)) rfl) ?_) | (refine gOp ?_; first | refine RGl.rdA ?_ | refine RGl.rdX (fun e hk => by (try dsimp only [bndR, ensR, oksR, fcutR, List.append_nil, List.nil_append, List.cons_append, List.append_assoc] at hk ⊢); exact readB) ?_) | (refine RGl.fin (fun e hk => ?_); (try dsimp only [bndA, ensAR, oksA, List.append_nil, List.nil_append, List.cons_append, List.append_assoc] at hk ⊢); (repeat (obtain ⟨hk1, hk⟩ := hk))) | fail)
       | (refine isCond ?_; first | refine WPc.cT ?_ | refine WPc.cF ?_ | (refine WPc.cQ (fun hc => ?_) (fun hc => ?_) <;> try exact prA))
       | (refine isD 19 ?_; refine WPl.rdX (ReadR.binE rfl rfl BinR.leq (congrArg Value.bool (decide_eq_true (show ((i + 1 : Nat) : Int) ≤ 7 by omega)))) ?_)
       | (refine isC 24 ?_; refine WPl.cV (c24) ?_)
       | (refine isD 26 ?_; refine WPl.rdX (ReadR.binE rfl rfl BinR.gtr (congrArg Value.bool (decide_eq_true (show (0 : Int) < n from hn0.1)))) ?_)
       | (refine isC 38 ?_; refine WPl.cV (c38) ?_)
       | (refine isOp ?_; first | refine WPl.rd ?_ | refine WPl.sk ?_ | refine WPl.rdB ?_)
       | (show WPl _ _ _ _ _ _ _ (⟨_, .indexAddr _ _ _, _, _, _, _⟩ :: _) _; refine WPl.rdX (ReadR.indexE rfl rfl hasA (by first | assumption | omega)) ?_)
       | (show WPl _ _ _ _ _ _ _ (⟨_, .fieldAddr _ _ _, _, _, _, _⟩ :: _) _; refine WPl.rdX (ReadR.fieldE rfl hasA (by first | assumption | omega)) ?_)
       | (show WPl _ _ _ _ _ _ _ (⟨_, .load _ _, _, _, _, _⟩ :: _) _; first | refine WPl.rdX (ReadR.loadE rfl hasA (by assumption)) ?_ | refine WPl.rdX (ReadR.loadES (by assumption) (by first | assumption | omega) rfl hasA) ?_)
       | (show WPl _ _ _ _ _ _ _ (⟨_, .slice _ _ _ _ _, _, _, _, _⟩ :: _) _; first | refine WPl.rdX (ReadR.sliceH rfl rfl hasA (by omega)) ?_ | refine WPl.rdX (ReadR.sliceL rfl rfl hasA (by omega)) ?_ | refine WPl.rdX (ReadR.sliceLH rfl rfl rfl hasA (by omega) (by omega)) ?_)
       | (refine WPl.spQ (fun hc => ?_) (fun hc => ?_) <;> try exact prA)
       | fail)
      rw [hE]
      exact WPq.rnd (i + 1, al + n, tx ++ lineW l ((i + 1 : Nat) : Int)) ⟨by dsimp only; omega, hsucc.symm⟩ (by dsimp only; omega)
  have hie : i = 7 := by omega
  subst hie
  rw [wsA_all] at hst
  obtain ⟨hal, htw⟩ : al = (l.countP cntA : Int) ∧ tx = ((whysL l).map (lineW l)).flatten := ⟨congrArg (·.1) hst, congrArg (·.2) hst⟩
  obtain ⟨tw, htw2⟩ : ∃ tw, tw = tx := ⟨_, rfl⟩
  rw [← htw2] at htw b3 ⊢
  clear hk htw2 hin hi hst
  repeat' (first
   | refine WPl.nil ?_ | refine WPq.then ?_ | refine WPq.thenR ?_ | refine WPq.thenE ?_ | refine WPq.blockN ?_ | refine WPq.blockR ?_ | refine WPq.blockE ?_ | refine WPq.blockO rfl ?_ | refine WPc.seq ?_ | refine WPc.block ?_ | refine WPc.ret ?_ | refine WPc.exit ?_ | refine WPc.skip ?_ | refine WPc.region ?_
   | (refine isCond ?_; first | refine WPc.cT ?_ | refine WPc.cF ?_ | (refine WPc.cQ (fun hc => ?_) (fun hc => ?_) <;> try exact prA))
   | (refine isD 19 ?_; refine WPl.rdX (ReadR.binE rfl rfl BinR.leq (congrArg Value.bool (decide_eq_false (show ¬ ((7 + 1 : Nat) : Int) ≤ 7 by omega)))) ?_)
   | (refine isOp ?_; first | refine WPl.rd ?_ | refine WPl.sk ?_ | refine WPl.rdB ?_)
   | (show WPl _ _ _ _ _ _ _ (⟨_, .indexAddr _ _ _, _, _, _, _⟩ :: _) _; refine WPl.rdX (ReadR.indexE rfl rfl hasA (by first | assumption | omega)) ?_)
   | (show WPl _ _ _ _ _ _ _ (⟨_, .fieldAddr _ _ _, _, _, _, _⟩ :: _) _; refine WPl.rdX (ReadR.fieldE rfl hasA (by first | assumption | omega)) ?_)
   | (show WPl _ _ _ _ _ _ _ (⟨_, .load _ _, _, _, _, _⟩ :: _) _; first | refine WPl.rdX (ReadR.loadE rfl hasA (by assumption)) ?_ | refine WPl.rdX (ReadR.loadES (by assumption) (by first | assumption | omega) rfl hasA) ?_)
   | (show WPl _ _ _ _ _ _ _ (⟨_, .slice _ _ _ _ _, _, _, _, _⟩ :: _) _; first | refine WPl.rdX (ReadR.sliceH rfl rfl hasA (by omega)) ?_ | refine WPl.rdX (ReadR.sliceL rfl rfl hasA (by omega)) ?_ | refine WPl.rdX (ReadR.sliceLH rfl rfl rfl hasA (by omega) (by omega)) ?_)
   | (refine WPl.spQ (fun hc => ?_) (fun hc => ?_) <;> try exact prA)
   | fail)
  skip
  first | refine WPc.loop (σ := Nat × Int × Bool × List UInt8) (fun st => st.1 ≤ l.length + 1 ∧ st.2.2.2.length ≤ 2000 + 200 * st.1 ∧ st.2.2.2 ++ ((iterE l (l.length + 1 - st.1) st.2.2.1 st.2.1).map (lineE l)).flatten = tw ++ ((errsL l).map (lineE l)).flatten) (fun st => [rdN vl R.length (ars R)]) (fun st => [(0, vl), (3, .int .i64 al), (4, sV st.2.2.2), (8, .int .i64 st.2.1), (9, .bool st.2.2.1), (10, .int .i64 (st.1 : Int))]) (fun st => l.length + 1 - st.1) (⟨0, 0, true, tw⟩) ?_ takesA frsA (fun st km hx hk => ?_)
  · exact ⟨Nat.zero_le _, by dsimp only; omega, by dsimp only; rw [Nat.sub_zero, iterE_errs]⟩
  obtain ⟨k, last, fst, tx⟩ := st
  obtain ⟨hk0, hkl, hkt⟩ := hx
  dsimp only at hk0 hkl hkt hk ⊢
  by_cases hkn : k ≤ l.length
  · have hit : iterE l (l.length + 1 - k) fst last = match nextE l fst last with | none => iterE l (l.length + 1 - (k + 1)) fst last | some b => b :: iterE l (l.length + 1 - (k + 1)) false b := by
      rw [show l.length + 1 - k = (l.length + 1 - (k + 1)) + 1 by omega]
      with_unfolding_all rfl
    repeat' (first
     | refine WPl.nil ?_ | refine WPq.then ?_ | refine WPq.thenR ?_ | refine WPq.thenE ?_ | refine WPq.blockN ?_ | refine WPq.blockR ?_ | refine WPq.blockE ?_ | refine WPq.blockO rfl ?_ | refine WPc.seq ?_ | refine WPc.block ?_ | refine WPc.ret ?_ | refine WPc.exit ?_ | refine WPc.skip ?_ | refine WPc.region ?_
     | (refine isCond ?_; first | refine WPc.cT ?_ | refine WPc.cF ?_ | (refine WPc.cQ (fun hc => ?_) (fun hc => ?_) <;> try exact prA))
     | (refine isD 44 ?_; refine WPl.rdX (ReadR.binE rfl rfl BinR.leq (congrArg Value.bool (decide_eq_true (show (k : Int) ≤ (R.length : Int) by omega)))) ?_)
     | (refine isOp ?_; first | refine WPl.rd ?_ | refine WPl.sk ?_ | refine WPl.rdB ?_)
     | (show WPl _ _ _ _ _ _ _ (⟨_, .indexAddr _ _ _, _, _, _, _⟩ :: _) _; refine WPl.rdX (ReadR.indexE rfl rfl hasA (by first | assumption | omega)) ?_)
     | (show WPl _ _ _ _ _ _ _ (⟨_, .fieldAddr _ _ _, _, _, _, _⟩ :: _) _; refine WPl.rdX (ReadR.fieldE rfl hasA (by first | assumption | omega)) ?_)
     | (show WPl _ _ _ _ _ _ _ (⟨_, .load _ _, _, _, _, _⟩ :: _) _; first | refine WPl.rdX (ReadR.loadE rfl hasA (by assumption)) ?_ | refine WPl.rdX (ReadR.loadES (by assumption) (by first | assumption | omega) rfl hasA) ?_)
     | (show WPl _ _ _ _ _ _ _ (⟨_, .slice _ _ _ _ _, _, _, _, _⟩ :: _) _; first | refine WPl.rdX (ReadR.sliceH rfl rfl hasA (by omega)) ?_ | refine WPl.rdX (ReadR.sliceL rfl rfl hasA (by omega)) ?_ | refine WPl.rdX (ReadR.sliceLH rfl rfl rfl hasA (by omega) (by omega)) ?_)
     | (refine WPl.spQ (fun hc => ?_) (fun hc => ?_) <;> try exact prA)
     | fail)
    first | refine WPc.loop (σ := Nat × Option Int) (fun st => st.1 ≤ R.length ∧ st.2 = nextE (plL (R.take st.1)) fst last) (fun st => [rdN vl R.length (ars R)]) (fun st => [(0, vl), (3, .int .i64 al), (4, sV tx), (8, .int .i64 last), (9, .bool fst), (10, .int .i64 (k : Int)), (11, .int .i64 (st.2.getD 0)), (12, .bool st.2.isSome), (13, .int .i64 (st.1 : Int))]) (fun st => R.length - st.1) (⟨0, none⟩) ?_ takesA frsA (fun st km hx hk => ?_)
    · exact ⟨Nat.zero_le _, by with_unfolding_all rfl⟩
    obtain ⟨i, ob⟩ := st
    obtain ⟨hi, hob⟩ := hx
    dsimp only at hi hob ⊢
    by_cases hin : i < R.length
    · obtain ⟨r, hr⟩ : ∃ r, R[i]? = some r := ⟨_, List.getElem?_eq_getElem hin⟩
      have hat := ars_at hr
      have hw0 := ars_in (o := 5) hr (by omega) rfl
      have htk := plL_take hr
      have c63 := counted_t r
      have hsn := nextE_snoc (plL (R.take i)) r.a fst last
      rw [← htk, ← hob] at hsn
      by_cases hc : cntA r.a = true
      · rw [hc] at c63
        by_cases he0 : r.a.er = 0
        · skip
          have hq2 : ob = nextE (plL (R.take (i + 1))) fst last := by rw [hsn]; simp [okE, hc, he0]
          repeat' (first
           | refine WPl.nil ?_ | refine WPq.then ?_ | refine WPq.thenR ?_ | refine WPq.thenE ?_ | refine WPq.blockN ?_ | refine WPq.blockR ?_ | refine WPq.blockE ?_ | refine WPq.blockO rfl ?_ | refine WPc.seq ?_ | refine WPc.block ?_ | refine WPc.ret ?_ | refine WPc.exit ?_ | refine WPc.skip ?_ | refine WPc.region ?_
           | (refine isCond ?_; first | refine WPc.cT ?_ | refine WPc.cF ?_ | (refine WPc.cQ (fun hc => ?_) (fun hc => ?_) <;> try exact prA))
           | (refine isD 50 ?_; refine WPl.rdX (ReadR.binE rfl rfl BinR.lss (congrArg Value.bool (decide_eq_true (show (i : Int) < (R.length : Int) by omega)))) ?_)
           | (refine isD 55 ?_; refine WPl.rdX (ReadR.indexE (i := i) rfl rfl hasA (by omega)) ?_)
           | (refine isD 58 ?_; refine WPl.rdX (ReadR.loadE rfl hasA hw0) ?_)
           | (refine isD 61 ?_; refine WPl.rdX (ReadR.indexE (i := i) rfl rfl hasA (by omega)) ?_)
           | (refine isD 62 ?_; refine WPl.rdX (ReadR.loadES (cs := anC r) hat (by omega) rfl hasA) ?_)
           | (refine isC 63 ?_; refine WPl.cV (c63) ?_)
           | (refine isD 66 ?_; refine WPl.rdX (ReadR.binE rfl rfl BinR.neq (congrArg (fun q => Value.bool (!q)) (decide_eq_true he0))) ?_)
           | (refine isOp ?_; first | refine WPl.rd ?_ | refine WPl.sk ?_ | refine WPl.rdB ?_)
           | (show WPl _ _ _ _ _ _ _ (⟨_, .indexAddr _ _ _, _, _, _, _⟩ :: _) _; refine WPl.rdX (ReadR.indexE rfl rfl hasA (by first | assumption | omega)) ?_)
           | (show WPl _ _ _ _ _ _ _ (⟨_, .fieldAddr _ _ _, _, _, _, _⟩ :: _) _; refine WPl.rdX (ReadR.fieldE rfl hasA (by first | assumption | omega)) ?_)
           | (show WPl _ _ _ _ _ _ _ (⟨_, .load _ _, _, _, _, _⟩ :: _) _; first | refine WPl.rdX (ReadR.loadE rfl hasA (by assumption)) ?_ | refine WPl.rdX (ReadR.loadES (by assumption) (by first | assumption | omega) rfl hasA) ?_)
           | (show WPl _ _ _ _ _ _ _ (⟨_, .slice _ _ _ _ _, _, _, _, _⟩ :: _) _; first | refine WPl.rdX (ReadR.sliceH rfl rfl hasA (by omega)) ?_ | refine WPl.rdX (ReadR.sliceL rfl rfl hasA (by omega)) ?_ | refine WPl.rdX (ReadR.sliceLH rfl rfl rfl hasA (by omega) (by omega)) ?_)
           | (refine WPl.spQ (fun hc => ?_) (fun hc => ?_) <;> try exact prA)
           | fail)
          exact WPq.rnd (i + 1, ob) ⟨by dsimp only; omega, hq2⟩ (by dsimp only; omega)
        cases fst with
        | true =>
          cases ob with
          | none =>
            have hq2 : some r.a.er = nextE (plL (R.take (i + 1))) true last := by rw [hsn]; simp [okE, hc, he0]
            repeat' (first
             | refine WPl.nil ?_ | refine WPq.then ?_ | refine WPq.thenR ?_ | refine WPq.thenE ?_ | refine WPq.blockN ?_ | refine WPq.blockR ?_ | refine WPq.blockE ?_ | refine WPq.blockO rfl ?_ | refine WPc.seq ?_ | refine WPc.block ?_ | refine WPc.ret ?_ | refine WPc.exit ?_ | refine WPc.skip ?_ | refine WPc.region ?_
             | (refine isCond ?_; first | refine WPc.cT ?_ | refine WPc.cF ?_ | (refine WPc.cQ (fun hc => ?_) (fun hc => ?_) <;> try exact prA))
             | (refine isD 50 ?_; refine WPl.rdX (ReadR.binE rfl rfl BinR.lss (congrArg Value.bool (decide_eq_true (show (i : Int) < (R.length : Int) by omega)))) ?_)
             | (refine isD 55 ?_; refine WPl.rdX (ReadR.indexE (i := i) rfl rfl hasA (by omega)) ?_)
             | (refine isD 58 ?_; refine WPl.rdX (ReadR.loadE rfl hasA hw0) ?_)
             | (refine isD 61 ?_; refine WPl.rdX (ReadR.indexE (i := i) rfl rfl hasA (by omega)) ?_)
             | (refine isD 62 ?_; refine WPl.rdX (ReadR.loadES (cs := anC r) hat (by omega) rfl hasA) ?_)
             | (refine isC 63 ?_; refine WPl.cV (c63) ?_)
             | (refine isD 66 ?_; refine WPl.rdX (ReadR.binE rfl rfl BinR.neq (congrArg (fun q => Value.bool (!q)) (decide_eq_false he0))) ?_)
             | (refine isOp ?_; first | refine WPl.rd ?_ | refine WPl.sk ?_ | refine WPl.rdB ?_)
             | (show WPl _ _ _ _ _ _ _ (⟨_, .indexAddr _ _ _, _, _, _, _⟩ :: _) _; refine WPl.rdX (ReadR.indexE rfl rfl hasA (by first | assumption | omega)) ?_)
             | (show WPl _ _ _ _ _ _ _ (⟨_, .fieldAddr _ _ _, _, _, _, _⟩ :: _) _; refine WPl.rdX (ReadR.fieldE rfl hasA (by first | assumption | omega)) ?_)
             | (show WPl _ _ _ _ _ _ _ (⟨_, .load _ _, _, _, _, _⟩ :: _) _; first | refine WPl.rdX (ReadR.loadE rfl hasA (by assumption)) ?_ | refine WPl.rdX (ReadR.loadES (by assumption) (by first | assumption | omega) rfl hasA) ?_)
             | (show WPl _ _ _ _ _ _ _ (⟨_, .slice _ _ _ _ _, _, _, _, _⟩ :: _) _; first | refine WPl.rdX (ReadR.sliceH rfl rfl hasA (by omega)) ?_ | refine WPl.rdX (ReadR.sliceL rfl rfl hasA (by omega)) ?_ | refine WPl.rdX (ReadR.sliceLH rfl rfl rfl hasA (by omega) (by omega)) ?_)
             | (refine WPl.spQ (fun hc => ?_) (fun hc => ?_) <;> try exact prA)
             | fail)
            exact WPq.rnd (i + 1, some r.a.er) ⟨by dsimp only; omega, hq2⟩ (by dsimp only; omega)
          | some b =>
            by_cases hlt : r.a.er < b
            · skip
              have hq2 : some r.a.er = nextE (plL (R.take (i + 1))) true last := by rw [hsn]; simp [okE, hc, he0, hlt]
              repeat' (first
               | refine WPl.nil ?_ | refine WPq.then ?_ | refine WPq.thenR ?_ | refine WPq.thenE ?_ | refine WPq.blockN ?_ | refine WPq.blockR ?_ | refine WPq.blockE ?_ | refine WPq.blockO rfl ?_ | refine WPc.seq ?_ | refine WPc.block ?_ | refine WPc.ret ?_ | refine WPc.exit ?_ | refine WPc.skip ?_ | refine WPc.region ?_
               | (refine isCond ?_; first | refine WPc.cT ?_ | refine WPc.cF ?_ | (refine WPc.cQ (fun hc => ?_) (fun hc => ?_) <;> try exact prA))
               | (refine isD 50 ?_; refine WPl.rdX (ReadR.binE rfl rfl BinR.lss (congrArg Value.bool (decide_eq_true (show (i : Int) < (R.length : Int) by omega)))) ?_)
               | (refine isD 55 ?_; refine WPl.rdX (ReadR.indexE (i := i) rfl rfl hasA (by omega)) ?_)
               | (refine isD 58 ?_; refine WPl.rdX (ReadR.loadE rfl hasA hw0) ?_)
               | (refine isD 61 ?_; refine WPl.rdX (ReadR.indexE (i := i) rfl rfl hasA (by omega)) ?_)
               | (refine isD 62 ?_; refine WPl.rdX (ReadR.loadES (cs := anC r) hat (by omega) rfl hasA) ?_)
               | (refine isC 63 ?_; refine WPl.cV (c63) ?_)
               | (refine isD 66 ?_; refine WPl.rdX (ReadR.binE rfl rfl BinR.neq (congrArg (fun q => Value.bool (!q)) (decide_eq_false he0))) ?_)
               | (refine isD 82 ?_; refine WPl.rdX (ReadR.binE rfl rfl BinR.lss (congrArg Value.bool (decide_eq_true hlt))) ?_)
               | (refine isOp ?_; first | refine WPl.rd ?_ | refine WPl.sk ?_ | refine WPl.rdB ?_)
               | (show WPl _ _ _ _ _ _ _ (⟨_, .indexAddr _ _ _, _, _, _, _⟩ :: _) _; refine WPl.rdX (ReadR.indexE rfl rfl hasA (by first | assumption | omega)) ?_)
               | (show WPl _ _ _ _ _ _ _ (⟨_, .fieldAddr _ _ _, _, _, _, _⟩ :: _) _; refine WPl.rdX (ReadR.fieldE rfl hasA (by first | assumption | omega)) ?_)
               | (show WPl _ _ _ _ _ _ _ (⟨_, .load _ _, _, _, _, _⟩ :: _) _; first | refine WPl.rdX (ReadR.loadE rfl hasA (by assumption)) ?_ | refine WPl.rdX (ReadR.loadES (by assumption) (by first | assumption | omega) rfl hasA) ?_)
               | (show WPl _ _ _ _ _ _ _ (⟨_, .slice _ _ _ _ _, _, _, _, _⟩ :: _) _; first | refine WPl.rdX (ReadR.sliceH rfl rfl hasA (by omega)) ?_ | refine WPl.rdX (ReadR.sliceL rfl rfl hasA (by omega)) ?_ | refine WPl.rdX (ReadR.sliceLH rfl rfl rfl hasA (by omega) (by omega)) ?_)
               | (refine WPl.spQ (fun hc => ?_) (fun hc => ?_) <;> try exact prA)
               | fail)
              exact WPq.rnd (i + 1, some r.a.er) ⟨by dsimp only; omega, hq2⟩ (by dsimp only; omega)
            · skip
              have hq2 : some b = nextE (plL (R.take (i + 1))) true last := by rw [hsn]; simp [okE, hc, he0, hlt]
              repeat' (first
               | refine WPl.nil ?_ | refine WPq.then ?_ | refine WPq.thenR ?_ | refine WPq.thenE ?_ | refine WPq.blockN ?_ | refine WPq.blockR ?_ | refine WPq.blockE ?_ | refine WPq.blockO rfl ?_ | refine WPc.seq ?_ | refine WPc.block ?_ | refine WPc.ret ?_ | refine WPc.exit ?_ | refine WPc.skip ?_ | refine WPc.region ?_
               | (refine isCond ?_; first | refine WPc.cT ?_ | refine WPc.cF ?_ | (refine WPc.cQ (fun hc => ?_) (fun hc => ?_) <;> try exact prA))
               | (refine isD 50 ?_; refine WPl.rdX (ReadR.binE rfl rfl BinR.lss (congrArg Value.bool (decide_eq_true (show (i : Int) < (R.length : Int) by omega)))) ?_)
               | (refine isD 55 ?_; refine WPl.rdX (ReadR.indexE (i := i) rfl rfl hasA (by omega)) ?_)
               | (refine isD 58 ?_; refine WPl.rdX (ReadR.loadE rfl hasA hw0) ?_)
               | (refine isD 61 ?_; refine WPl.rdX (ReadR.indexE (i := i) rfl rfl hasA (by omega)) ?_)
               | (refine isD 62 ?_; refine WPl.rdX (ReadR.loadES (cs := anC r) hat (by omega) rfl hasA) ?_)
               | (refine isC 63 ?_; refine WPl.cV (c63) ?_)
               | (refine isD 66 ?_; refine WPl.rdX (ReadR.binE rfl rfl BinR.neq (congrArg (fun q => Value.bool (!q)) (decide_eq_false he0))) ?_)
               | (refine isD 82 ?_; refine WPl.rdX (ReadR.binE rfl rfl BinR.lss (congrArg Value.bool (decide_eq_false hlt))) ?_)
               | (refine isOp ?_; first | refine WPl.rd ?_ | refine WPl.sk ?_ | refine WPl.rdB ?_)
               | (show WPl _ _ _ _ _ _ _ (⟨_, .indexAddr _ _ _, _, _, _, _⟩ :: _) _; refine WPl.rdX (ReadR.indexE rfl rfl hasA (by first | assumption | omega)) ?_)
               | (show WPl _ _ _ _ _ _ _ (⟨_, .fieldAddr _ _ _, _, _, _, _⟩ :: _) _; refine WPl.rdX (ReadR.fieldE rfl hasA (by first | assumption | omega)) ?_)
               | (show WPl _ _ _ _ _ _ _ (⟨_, .load _ _, _, _, _, _⟩ :: _) _; first | refine WPl.rdX (ReadR.loadE rfl hasA (by assumption)) ?_ | refine WPl.rdX (ReadR.loadES (by assumption) (by first | assumption | omega) rfl hasA) ?_)
               | (show WPl _ _ _ _ _ _ _ (⟨_, .slice _ _ _ _ _, _, _, _, _⟩ :: _) _; first | refine WPl.rdX (ReadR.sliceH rfl rfl hasA (by omega)) ?_ | refine WPl.rdX (ReadR.sliceL rfl rfl hasA (by omega)) ?_ | refine WPl.rdX (ReadR.sliceLH rfl rfl rfl hasA (by omega) (by omega)) ?_)
               | (refine WPl.spQ (fun hc => ?_) (fun hc => ?_) <;> try exact prA)
               | fail)
              exact WPq.rnd (i + 1, some b) ⟨by dsimp only; omega, hq2⟩ (by dsimp only; omega)
        | false =>
          by_cases hgt : last < r.a.er
          · skip
            cases ob with
            | none =>
              have hq2 : some r.a.er = nextE (plL (R.take (i + 1))) false last := by rw [hsn]; simp [okE, hc, he0, hgt]
              repeat' (first
               | refine WPl.nil ?_ | refine WPq.then ?_ | refine WPq.thenR ?_ | refine WPq.thenE ?_ | refine WPq.blockN ?_ | refine WPq.blockR ?_ | refine WPq.blockE ?_ | refine WPq.blockO rfl ?_ | refine WPc.seq ?_ | refine WPc.block ?_ | refine WPc.ret ?_ | refine WPc.exit ?_ | refine WPc.skip ?_ | refine WPc.region ?_
               | (refine isCond ?_; first | refine WPc.cT ?_ | refine WPc.cF ?_ | (refine WPc.cQ (fun hc => ?_) (fun hc => ?_) <;> try exact prA))
               | (refine isD 50 ?_; refine WPl.rdX (ReadR.binE rfl rfl BinR.lss (congrArg Value.bool (decide_eq_true (show (i : Int) < (R.length : Int) by omega)))) ?_)
               | (refine isD 55 ?_; refine WPl.rdX (ReadR.indexE (i := i) rfl rfl hasA (by omega)) ?_)
               | (refine isD 58 ?_; refine WPl.rdX (ReadR.loadE rfl hasA hw0) ?_)
               | (refine isD 61 ?_; refine WPl.rdX (ReadR.indexE (i := i) rfl rfl hasA (by omega)) ?_)
               | (refine isD 62 ?_; refine WPl.rdX (ReadR.loadES (cs := anC r) hat (by omega) rfl hasA) ?_)
               | (refine isC 63 ?_; refine WPl.cV (c63) ?_)
               | (refine isD 66 ?_; refine WPl.rdX (ReadR.binE rfl rfl BinR.neq (congrArg (fun q => Value.bool (!q)) (decide_eq_false he0))) ?_)
               | (refine isD 73 ?_; refine WPl.rdX (ReadR.binE rfl rfl BinR.gtr (congrArg Value.bool (decide_eq_true hgt))) ?_)
               | (refine isOp ?_; first | refine WPl.rd ?_ | refine WPl.sk ?_ | refine WPl.rdB ?_)
               | (show WPl _ _ _ _ _ _ _ (⟨_, .indexAddr _ _ _, _, _, _, _⟩ :: _) _; refine WPl.rdX (ReadR.indexE rfl rfl hasA (by first | assumption | omega)) ?_)
               | (show WPl _ _ _ _ _ _ _ (⟨_, .fieldAddr _ _ _, _, _, _, _⟩ :: _) _; refine WPl.rdX (ReadR.fieldE rfl hasA (by first | assumption | omega)) ?_)
               | (show WPl _ _ _ _ _ _ _ (⟨_, .load _ _, _, _, _, _⟩ :: _) _; first | refine WPl.rdX (ReadR.loadE rfl hasA (by assumption)) ?_ | refine WPl.rdX (ReadR.loadES (by assumption) (by first | assumption | omega) rfl hasA) ?_)
               | (show WPl _ _ _ _ _ _ _ (⟨_, .slice _ _ _ _ _, _, _, _, _⟩ :: _) _; first | refine WPl.rdX (ReadR.sliceH rfl rfl hasA (by omega)) ?_ | refine WPl.rdX (ReadR.sliceL rfl rfl hasA (by omega)) ?_ | refine WPl.rdX (ReadR.sliceLH rfl rfl rfl hasA (by omega) (by omega)) ?_)
               | (refine WPl.spQ (fun hc => ?_) (fun hc => ?_) <;> try exact prA)
               | fail)
              exact WPq.rnd (i + 1, some r.a.er) ⟨by dsimp only; omega, hq2⟩ (by dsimp only; omega)
            | some b =>
              by_cases hlt : r.a.er < b
              · skip
                have hq2 : some r.a.er = nextE (plL (R.take (i + 1))) false last := by rw [hsn]; simp [okE, hc, he0, hgt, hlt]
                repeat' (first
                 | refine WPl.nil ?_ | refine WPq.then ?_ | refine WPq.thenR ?_ | refine WPq.thenE ?_ | refine WPq.blockN ?_ | refine WPq.blockR ?_ | refine WPq.blockE ?_ | refine WPq.blockO rfl ?_ | refine WPc.seq ?_ | refine WPc.block ?_ | refine WPc.ret ?_ | refine WPc.exit ?_ | refine WPc.skip ?_ | refine WPc.region ?_
                 | (refine isCond ?_; first | refine WPc.cT ?_ | refine WPc.cF ?_ | (refine WPc.cQ (fun hc => ?_) (fun hc => ?_) <;> try exact prA))
                 | (refine isD 50 ?_; refine WPl.rdX (ReadR.binE rfl rfl BinR.lss (congrArg Value.bool (decide_eq_true (show (i : Int) < (R.length : Int) by omega)))) ?_)
                 | (refine isD 55 ?_; refine WPl.rdX (ReadR.indexE (i := i) rfl rfl hasA (by omega)) ?_)
                 | (refine isD 58 ?_; refine WPl.rdX (ReadR.loadE rfl hasA hw0) ?_)
                 | (refine isD 61 ?_; refine WPl.rdX (ReadR.indexE (i := i) rfl rfl hasA (by omega)) ?_)
                 | (refine isD 62 ?_; refine WPl.rdX (ReadR.loadES (cs := anC r) hat (by omega) rfl hasA) ?_)
                 | (refine isC 63 ?_; refine WPl.cV (c63) ?_)
                 | (refine isD 66 ?_; refine WPl.rdX (ReadR.binE rfl rfl BinR.neq (congrArg (fun q => Value.bool (!q)) (decide_eq_false he0))) ?_)
                 | (refine isD 73 ?_; refine WPl.rdX (ReadR.binE rfl rfl BinR.gtr (congrArg Value.bool (decide_eq_true hgt))) ?_)
                 | (refine isD 82 ?_; refine WPl.rdX (ReadR.binE rfl rfl BinR.lss (congrArg Value.bool (decide_eq_true hlt))) ?_)
                 | (refine isOp ?_; first | refine WPl.rd ?_ | refine WPl.sk ?_ | refine WPl.rdB ?_)
                 | (show WPl _ _ _ _ _ _ _ (⟨_, .indexAddr _ _ _, _, _, _, _⟩ :: _) _; refine WPl.rdX (ReadR.indexE rfl rfl hasA (by first | assumption | omega)) ?_)
                 | (show WPl _ _ _ _ _ _ _ (⟨_, .fieldAddr _ _ _, _, _, _, _⟩ :: _) _; refine WPl.rdX (ReadR.fieldE rfl hasA (by first | assumption | omega)) ?_)
                 | (show WPl _ _ _ _ _ _ _ (⟨_, .load _ _, _, _, _, _⟩ :: _) _; first | refine WPl.rdX (ReadR.loadE rfl hasA (by assumption)) ?_ | refine WPl.rdX (ReadR.loadES (by assumption) (by first | assumption | omega) rfl hasA) ?_)
                 | (show WPl _ _ _ _ _ _ _ (⟨_, .slice _ _ _ _ _, _, _, _, _⟩ :: _) _; first | refine WPl.rdX (ReadR.sliceH rfl rfl hasA (by omega)) ?_ | refine WPl.rdX (ReadR.sliceL rfl rfl hasA (by omega)) ?_ | refine WPl.rdX (ReadR.sliceLH rfl rfl rfl hasA (by omega) (by omega)) ?_)
                 | (refine WPl.spQ (fun hc => ?_) (fun hc => ?_) <;> try exact prA)
                 | fail)
                exact WPq.rnd (i + 1, some r.a.er) ⟨by dsimp only; omega, hq2⟩ (by dsimp only; omega)
              · skip
                have hq2 : some b = nextE (plL (R.take (i + 1))) false last := by rw [hsn]; simp [okE, hc, he0, hgt, hlt]
                repeat' (first
                 | refine WPl.nil ?_ | refine WPq.then ?_ | refine WPq.thenR ?_ | refine WPq.thenE ?_ | refine WPq.blockN ?_ | refine WPq.blockR ?_ | refine WPq.blockE ?_ | refine WPq.blockO rfl ?_ | refine WPc.seq ?_ | refine WPc.block ?_ | refine WPc.ret ?_ | refine WPc.exit ?_ | refine WPc.skip ?_ | refine WPc.region ?_
                 | (refine isCond ?_; first | refine WPc.cT ?_ | refine WPc.cF ?_ | (refine WPc.cQ (fun hc => ?_) (fun hc => ?_) <;> try exact prA))
                 | (refine isD 50 ?_; refine WPl.rdX (ReadR.binE rfl rfl BinR.lss (congrArg Value.bool (decide_eq_true (show (i : Int) < (R.length : Int) by omega)))) ?_)
                 | (refine isD 55 ?_; refine WPl.rdX (ReadR.indexE (i := i) rfl rfl hasA (by omega)) ?_)
                 | (refine isD 58 ?_; refine WPl.rdX (ReadR.loadE rfl hasA hw0) ?_)
                 | (refine isD 61 ?_; refine WPl.rdX (ReadR.indexE (i := i) rfl rfl hasA (by omega)) ?_)
                 | (refine isD 62 ?_; refine WPl.rdX (ReadR.loadES (cs := anC r) hat (by omega) rfl hasA) ?_)
                 | (refine isC 63 ?_; refine WPl.cV (c63) ?_)
                 | (refine isD 66 ?_; refine WPl.rdX (ReadR.binE rfl rfl BinR.neq (congrArg (fun q => Value.bool (!q)) (decide_eq_false he0))) ?_)
                 | (refine isD 73 ?_; refine WPl.rdX (ReadR.binE rfl rfl BinR.gtr (congrArg Value.bool (decide_eq_true hgt))) ?_)
                 | (refine isD 82 ?_; refine WPl.rdX (ReadR.binE rfl rfl BinR.lss (congrArg Value.bool (decide_eq_false hlt))) ?_)
                 | (refine isOp ?_; first | refine WPl.rd ?_ | refine WPl.sk ?_ | refine WPl.rdB ?_)
                 | (show WPl _ _ _ _ _ _ _ (⟨_, .indexAddr _ _ _, _, _, _, _⟩ :: _) _; refine WPl.rdX (ReadR.indexE rfl rfl hasA (by first | assumption | omega)) ?_)
                 | (show WPl _ _ _ _ _ _ _ (⟨_, .fieldAddr _ _ _, _, _, _, _⟩ :: _) _; refine WPl.rdX (ReadR.fieldE rfl hasA (by first | assumption | omega)) ?_)
                 | (show WPl _ _ _ _ _ _ _ (⟨_, .load _ _, _, _, _, _⟩ :: _) _; first | refine WPl.rdX (ReadR.loadE rfl hasA (by assumption)) ?_ | refine WPl.rdX (ReadR.loadES (by assumption) (by first | assumption | omega) rfl hasA) ?_)
                 | (show WPl _ _ _ _ _ _ _ (⟨_, .slice _ _ _ _ _, _, _, _, _⟩ :: _) _; first | refine WPl.rdX (ReadR.sliceH rfl rfl hasA (by omega)) ?_ | refine WPl.rdX (ReadR.sliceL rfl rfl hasA (by omega)) ?_ | refine WPl.rdX (ReadR.sliceLH rfl rfl rfl hasA (by omega) (by omega)) ?_)
                 | (refine WPl.spQ (fun hc => ?_) (fun hc => ?_) <;> try exact prA)
                 | fail)
                exact WPq.rnd (i + 1, some b) ⟨by dsimp only; omega, hq2⟩ (by dsimp only; omega)
          · skip
            have hq2 : ob = nextE (plL (R.take (i + 1))) false last := by rw [hsn]; simp [okE, hc, he0, hgt]
            repeat' (first
             | refine WPl.nil ?_ | refine WPq.then ?_ | refine WPq.thenR ?_ | refine WPq.thenE ?_ | refine WPq.blockN ?_ | refine WPq.blockR ?_ | refine WPq.blockE ?_ | refine WPq.blockO rfl ?_ | refine WPc.seq ?_ | refine WPc.block ?_ | refine WPc.ret ?_ | refine WPc.exit ?_ | refine WPc.skip ?_ | refine WPc.region ?_
             | (refine isCond ?_; first | refine WPc.cT ?_ | refine WPc.cF ?_ | (refine WPc.cQ (fun hc => ?_) (fun hc => ?_) <;> try exact prA))
             | (refine isD 50 ?_; refine WPl.rdX (ReadR.binE rfl rfl BinR.lss (congrArg Value.bool (decide_eq_true (show (i : Int) < (R.length : Int) by omega)))) ?_)
             | (refine isD 55 ?_; refine WPl.rdX (ReadR.indexE (i := i) rfl rfl hasA (by omega)) ?_)
             | (refine isD 58 ?_; refine WPl.rdX (ReadR.loadE rfl hasA hw0) ?_)
             | (refine isD 61 ?_; refine WPl.rdX (ReadR.indexE (i := i) rfl rfl hasA (by omega)) ?_)
             | (refine isD 62 ?_; refine WPl.rdX (ReadR.loadES (cs := anC r) hat (by omega) rfl hasA) ?_)
             | (refine isC 63 ?_; refine WPl.cV (c63) ?_)
             | (refine isD 66 ?_; refine WPl.rdX (ReadR.binE rfl rfl BinR.neq (congrArg (fun q => Value.bool (!q)) (decide_eq_false he0))) ?_)
             | (refine isD 73 ?_; refine WPl.rdX (ReadR.binE rfl rfl BinR.gtr (congrArg Value.bool (decide_eq_false hgt))) ?_)
             | (refine isOp ?_; first | refine WPl.rd ?_ | refine WPl.sk ?_ | refine WPl.rdB ?_)
             | (show WPl _ _ _ _ _ _ _ (⟨_, .indexAddr _ _ _, _, _, _, _⟩ :: _) _; refine WPl.rdX (ReadR.indexE rfl rfl hasA (by first | assumption | omega)) ?_)
             | (show WPl _ _ _ _ _ _ _ (⟨_, .fieldAddr _ _ _, _, _, _, _⟩ :: _) _; refine WPl.rdX (ReadR.fieldE rfl hasA (by first | assumption | omega)) ?_)
             | (show WPl _ _ _ _ _ _ _ (⟨_, .load _ _, _, _, _, _⟩ :: _) _; first | refine WPl.rdX (ReadR.loadE rfl hasA (by assumption)) ?_ | refine WPl.rdX (ReadR.loadES (by assumption) (by first | assumption | omega) rfl hasA) ?_)
             | (show WPl _ _ _ _ _ _ _ (⟨_, .slice _ _ _ _ _, _, _, _, _⟩ :: _) _; first | refine WPl.rdX (ReadR.sliceH rfl rfl hasA (by omega)) ?_ | refine WPl.rdX (ReadR.sliceL rfl rfl hasA (by omega)) ?_ | refine WPl.rdX (ReadR.sliceLH rfl rfl rfl hasA (by omega) (by omega)) ?_)
             | (refine WPl.spQ (fun hc => ?_) (fun hc => ?_) <;> try exact prA)
             | fail)
            exact WPq.rnd (i + 1, ob) ⟨by dsimp only; omega, hq2⟩ (by dsimp only; omega)
      · have hc' : cntA r.a = false := by simpa using hc
        rw [hc'] at c63
        have hq2 : ob = nextE (plL (R.take (i + 1))) fst last := by rw [hsn]; simp [okE, hc']
        repeat' (first
         | refine WPl.nil ?_ | refine WPq.then ?_ | refine WPq.thenR ?_ | refine WPq.thenE ?_ | refine WPq.blockN ?_ | refine WPq.blockR ?_ | refine WPq.blockE ?_ | refine WPq.blockO rfl ?_ | refine WPc.seq ?_ | refine WPc.block ?_ | refine WPc.ret ?_ | refine WPc.exit ?_ | refine WPc.skip ?_ | refine WPc.region ?_
         | (refine isCond ?_; first | refine WPc.cT ?_ | refine WPc.cF ?_ | (refine WPc.cQ (fun hc => ?_) (fun hc => ?_) <;> try exact prA))
         | (refine isD 50 ?_; refine WPl.rdX (ReadR.binE rfl rfl BinR.lss (congrArg Value.bool (decide_eq_true (show (i : Int) < (R.length : Int) by omega)))) ?_)
         | (refine isD 55 ?_; refine WPl.rdX (ReadR.indexE (i := i) rfl rfl hasA (by omega)) ?_)
         | (refine isD 58 ?_; refine WPl.rdX (ReadR.loadE rfl hasA hw0) ?_)
         | (refine isD 61 ?_; refine WPl.rdX (ReadR.indexE (i := i) rfl rfl hasA (by omega)) ?_)
         | (refine isD 62 ?_; refine WPl.rdX (ReadR.loadES (cs := anC r) hat (by omega) rfl hasA) ?_)
         | (refine isC 63 ?_; refine WPl.cV (c63) ?_)
         | (refine isOp ?_; first | refine WPl.rd ?_ | refine WPl.sk ?_ | refine WPl.rdB ?_)
         | (show WPl _ _ _ _ _ _ _ (⟨_, .indexAddr _ _ _, _, _, _, _⟩ :: _) _; refine WPl.rdX (ReadR.indexE rfl rfl hasA (by first | assumption | omega)) ?_)
         | (show WPl _ _ _ _ _ _ _ (⟨_, .fieldAddr _ _ _, _, _, _, _⟩ :: _) _; refine WPl.rdX (ReadR.fieldE rfl hasA (by first | assumption | omega)) ?_)
         | (show WPl _ _ _ _ _ _ _ (⟨_, .load _ _, _, _, _, _⟩ :: _) _; first | refine WPl.rdX (ReadR.loadE rfl hasA (by assumption)) ?_ | refine WPl.rdX (ReadR.loadES (by assumption) (by first | assumption | omega) rfl hasA) ?_)
         | (show WPl _ _ _ _ _ _ _ (⟨_, .slice _ _ _ _ _, _, _, _, _⟩ :: _) _; first | refine WPl.rdX (ReadR.sliceH rfl rfl hasA (by omega)) ?_ | refine WPl.rdX (ReadR.sliceL rfl rfl hasA (by omega)) ?_ | refine WPl.rdX (ReadR.sliceLH rfl rfl rfl hasA (by omega) (by omega)) ?_)
         | (refine WPl.spQ (fun hc => ?_) (fun hc => ?_) <;> try exact prA)
         | fail)
        exact WPq.rnd (i + 1, ob) ⟨by dsimp only; omega, hq2⟩ (by dsimp only; omega)
    have hie : i = R.length := by omega
    subst hie
    rw [List.take_length, ← hlL] at hob
    rw [← hob] at hit
    cases ob with
    | none =>
      dsimp only at hit
      rw [hit] at hkt
      repeat' (first
       | refine WPl.nil ?_ | refine WPq.then ?_ | refine WPq.thenR ?_ | refine WPq.thenE ?_ | refine WPq.blockN ?_ | refine WPq.blockR ?_ | refine WPq.blockE ?_ | refine WPq.blockO rfl ?_ | refine WPc.seq ?_ | refine WPc.block ?_ | refine WPc.ret ?_ | refine WPc.exit ?_ | refine WPc.skip ?_ | refine WPc.region ?_
       | (refine isCond ?_; first | refine WPc.cT ?_ | refine WPc.cF ?_ | (refine WPc.cQ (fun hc => ?_) (fun hc => ?_) <;> try exact prA))
       | (refine isD 50 ?_; refine WPl.rdX (ReadR.binE rfl rfl BinR.lss (congrArg Value.bool (decide_eq_false (show ¬ (R.length : Int) < (R.length : Int) by omega)))) ?_)
       | (refine isOp ?_; first | refine WPl.rd ?_ | refine WPl.sk ?_ | refine WPl.rdB ?_)
       | (show WPl _ _ _ _ _ _ _ (⟨_, .indexAddr _ _ _, _, _, _, _⟩ :: _) _; refine WPl.rdX (ReadR.indexE rfl rfl hasA (by first | assumption | omega)) ?_)
       | (show WPl _ _ _ _ _ _ _ (⟨_, .fieldAddr _ _ _, _, _, _, _⟩ :: _) _; refine WPl.rdX (ReadR.fieldE rfl hasA (by first | assumption | omega)) ?_)
       | (show WPl _ _ _ _ _ _ _ (⟨_, .load _ _, _, _, _, _⟩ :: _) _; first | refine WPl.rdX (ReadR.loadE rfl hasA (by assumption)) ?_ | refine WPl.rdX (ReadR.loadES (by assumption) (by first | assumption | omega) rfl hasA) ?_)
       | (show WPl _ _ _ _ _ _ _ (⟨_, .slice _ _ _ _ _, _, _, _, _⟩ :: _) _; first | refine WPl.rdX (ReadR.sliceH rfl rfl hasA (by omega)) ?_ | refine WPl.rdX (ReadR.sliceL rfl rfl hasA (by omega)) ?_ | refine WPl.rdX (ReadR.sliceLH rfl rfl rfl hasA (by omega) (by omega)) ?_)
       | (refine WPl.spQ (fun hc => ?_) (fun hc => ?_) <;> try exact prA)
       | fail)
      exact WPq.rnd (k + 1, last, fst, tx) ⟨by dsimp only; omega, by dsimp only; omega, hkt⟩ (by dsimp only; omega)
    | some b =>
      dsimp only at hit
      rw [hit, List.map_cons, List.flatten_cons, ← List.append_assoc] at hkt
      have hb := err_in (fun a ha => (hw' a ha).2) (nextE_err hob.symm)
      have c92 := num_t b hb
      have c97 := errR_t vl R b (by omega)
      rw [← hlL] at c97
      have hel := err_len (l := l) (k := b)
      have hLl := lineE_len l hb (by omega)
      have hE := lineE_eq tx l b
      obtain ⟨n, hn⟩ : ∃ n : Int, n = (errN l b : Int) := ⟨_, rfl⟩
      rw [← hn] at c97 hE
      have hn64 : in64 n := in64_of (by omega) (by omega)
      have c98 := num_t n hn64
      have hi1 := itoa_len hb
      have hi2 := itoa_len hn64
      repeat' (first
       | refine WPl.nil ?_ | refine WPq.then ?_ | refine WPq.thenR ?_ | refine WPq.thenE ?_ | refine WPq.blockN ?_ | refine WPq.blockR ?_ | refine WPq.blockE ?_ | refine WPq.blockO rfl ?_ | refine WPc.seq ?_ | refine WPc.block ?_ | refine WPc.ret ?_ | refine WPc.exit ?_ | refine WPc.skip ?_ | refine WPc.region ?_
       | (refine isCond ?_; first | refine WPc.cT ?_ | refine WPc.cF ?_ | (refine WPc.cQ (fun hc => ?_) (fun hc => ?_) <;> try exact prA))
       | (refine isD 50 ?_; refine WPl.rdX (ReadR.binE rfl rfl BinR.lss (congrArg Value.bool (decide_eq_false (show ¬ (R.length : Int) < (R.length : Int) by omega)))) ?_)
       | (refine isC 92 ?_; refine WPl.cV (c92) ?_)
       | (refine isC 97 ?_; refine WPl.cV (c97) ?_)
       | (refine isC 98 ?_; refine WPl.cV (c98) ?_)
       | (refine isD 90 ?_; refine WPl.rdX (ReadR.binE rfl rfl (BinR.sAdd (b := [101, 114, 114, 111, 114, 32]) (by (try simp only [List.length_append, List.length_cons, List.length_nil]); omega)) rfl) ?_)
       | (refine isD 93 ?_; refine WPl.rdX (ReadR.binE rfl rfl (BinR.sAdd (by (try simp only [List.length_append, List.length_cons, List.length_nil]); omega)) rfl) ?_)
       | (refine isD 94 ?_; refine WPl.rdX (ReadR.binE rfl rfl (BinR.sAdd (b := [32]) (by (try simp only [List.length_append, List.length_cons, List.length_nil]); omega)) rfl) ?_)
       | (refine isD 99 ?_; refine WPl.rdX (ReadR.binE rfl rfl (BinR.sAdd (by (try simp only [List.length_append, List.length_cons, List.length_nil]); omega)) rfl) ?_)
       | (refine isD 100 ?_; refine WPl.rdX (ReadR.binE rfl rfl (BinR.sAdd (b := [10]) (by (try simp only [List.length_append, List.length_cons, List.length_nil]); omega)) rfl) ?_)
       | (refine isOp ?_; first | refine WPl.rd ?_ | refine WPl.sk ?_ | refine WPl.rdB ?_)
       | (show WPl _ _ _ _ _ _ _ (⟨_, .indexAddr _ _ _, _, _, _, _⟩ :: _) _; refine WPl.rdX (ReadR.indexE rfl rfl hasA (by first | assumption | omega)) ?_)
       | (show WPl _ _ _ _ _ _ _ (⟨_, .fieldAddr _ _ _, _, _, _, _⟩ :: _) _; refine WPl.rdX (ReadR.fieldE rfl hasA (by first | assumption | omega)) ?_)
       | (show WPl _ _ _ _ _ _ _ (⟨_, .load _ _, _, _, _, _⟩ :: _) _; first | refine WPl.rdX (ReadR.loadE rfl hasA (by assumption)) ?_ | refine WPl.rdX (ReadR.loadES (by assumption) (by first | assumption | omega) rfl hasA) ?_)
       | (show WPl _ _ _ _ _ _ _ (⟨_, .slice _ _ _ _ _, _, _, _, _⟩ :: _) _; first | refine WPl.rdX (ReadR.sliceH rfl rfl hasA (by omega)) ?_ | refine WPl.rdX (ReadR.sliceL rfl rfl hasA (by omega)) ?_ | refine WPl.rdX (ReadR.sliceLH rfl rfl rfl hasA (by omega) (by omega)) ?_)
       | (refine WPl.spQ (fun hc => ?_) (fun hc => ?_) <;> try exact prA)
       | fail)
      rw [hE]
      exact WPq.rnd (k + 1, b, false, tx ++ lineE l b) ⟨by dsimp only; omega, by dsimp only; rw [List.length_append]; omega, hkt⟩ (by dsimp only; omega)
  have hke : k = l.length + 1 := by omega
  subst hke
  have hte : tx = tw ++ ((errsL l).map (lineE l)).flatten := by
    rw [← hkt, Nat.sub_self, show iterE l 0 fst last = [] from by with_unfolding_all rfl]
    simp
  obtain ⟨te, hte2⟩ : ∃ te, te = tx := ⟨_, rfl⟩
  rw [← hte2] at hte hkl ⊢
  clear hk hte2 hkn hk0 hkt
  have c102 := talR_t vl R hR hl hln
  rw [← hlL] at c102
  have htal := talL_len l
  have htls := tls_len (talL l)
  repeat' (first
   | refine WPl.nil ?_ | refine WPq.then ?_ | refine WPq.thenR ?_ | refine WPq.thenE ?_ | refine WPq.blockN ?_ | refine WPq.blockR ?_ | refine WPq.blockE ?_ | refine WPq.blockO rfl ?_ | refine WPc.seq ?_ | refine WPc.block ?_ | refine WPc.ret ?_ | refine WPc.exit ?_ | refine WPc.skip ?_ | refine WPc.region ?_
   | (refine isCond ?_; first | refine WPc.cT ?_ | refine WPc.cF ?_ | (refine WPc.cQ (fun hc => ?_) (fun hc => ?_) <;> try exact prA))
   | (refine isD 44 ?_; refine WPl.rdX (ReadR.binE rfl rfl BinR.leq (congrArg Value.bool (decide_eq_false (show ¬ ((l.length + 1 : Nat) : Int) ≤ (R.length : Int) by omega)))) ?_)
   | (refine isC 102 ?_; refine WPl.cR (c102) fun v102 hv102 => ?_)
   | (refine isOp ?_; first | refine WPl.rd ?_ | refine WPl.sk ?_ | refine WPl.rdB ?_)
   | (show WPl _ _ _ _ _ _ _ (⟨_, .indexAddr _ _ _, _, _, _, _⟩ :: _) _; refine WPl.rdX (ReadR.indexE rfl rfl hasA (by first | assumption | omega)) ?_)
   | (show WPl _ _ _ _ _ _ _ (⟨_, .fieldAddr _ _ _, _, _, _, _⟩ :: _) _; refine WPl.rdX (ReadR.fieldE rfl hasA (by first | assumption | omega)) ?_)
   | (show WPl _ _ _ _ _ _ _ (⟨_, .load _ _, _, _, _, _⟩ :: _) _; first | refine WPl.rdX (ReadR.loadE rfl hasA (by assumption)) ?_ | refine WPl.rdX (ReadR.loadES (by assumption) (by first | assumption | omega) rfl hasA) ?_)
   | (show WPl _ _ _ _ _ _ _ (⟨_, .slice _ _ _ _ _, _, _, _, _⟩ :: _) _; first | refine WPl.rdX (ReadR.sliceH rfl rfl hasA (by omega)) ?_ | refine WPl.rdX (ReadR.sliceL rfl rfl hasA (by omega)) ?_ | refine WPl.rdX (ReadR.sliceLH rfl rfl rfl hasA (by omega) (by omega)) ?_)
   | (refine WPl.spQ (fun hc => ?_) (fun hc => ?_) <;> try exact prA)
   | fail)
  first | refine WPc.loop (σ := Nat × List UInt8) (fun st => st.1 ≤ (talL l).length ∧ st.2 = te ++ (((talL l).take st.1).map lineT).flatten) (fun st => [rdN vl R.length (ars R), rowN 31 4 v102 (talL l).length (tls (talL l))]) (fun st => [(3, .int .i64 al), (4, sV st.2), (15, v102), (16, .int .i64 (st.1 : Int))]) (fun st => (talL l).length - st.1) (⟨0, te⟩) ?_ takesA frsA (fun st km hx hk => ?_)
  · exact ⟨Nat.zero_le _, by simp⟩
  obtain ⟨i, tx⟩ := st
  obtain ⟨hi, htt⟩ := hx
  dsimp only at hi htt hk ⊢
  have htl3 : tx.length ≤ 2000000 := by
    rw [htt, List.length_append]
    have h1 := lines_len (f := lineT) (n := 200) (L := (talL l).take i) fun x hx => lineT_len (tal_in hln' (by omega) (fun a ha => (hw' a ha).1) (List.mem_of_mem_take hx))
    have h2 : ((talL l).take i).length ≤ 1000 := by rw [List.length_take]; omega
    omega
  by_cases hin : i < (talL l).length
  · obtain ⟨x, hk1'⟩ : ∃ x, (talL l)[i]? = some x := ⟨_, List.getElem?_eq_getElem hin⟩
    have q0 := tls_in (o := 0) hk1' (by omega) rfl
    have q1 := tls_in (o := 1) hk1' (by omega) rfl
    have q2 := tls_in (o := 2) hk1' (by omega) rfl
    have q3 := tls_in (o := 3) hk1' (by omega) rfl
    obtain ⟨x1, x2, x3, x4⟩ := tal_in hln' (by omega) (fun a ha => (hw' a ha).1) (List.mem_of_getElem? hk1')
    have c116 := num_t _ x1
    have c124 := num_t _ x2
    have c132 := num_t _ x3
    have c140 := num_t _ x4
    have l1 := itoa_len x1
    have l2 := itoa_len x2
    have l3 := itoa_len x3
    have l4 := itoa_len x4
    have hE := lineT_eq tx x
    repeat' (first
     | refine WPl.nil ?_ | refine WPq.then ?_ | refine WPq.thenR ?_ | refine WPq.thenE ?_ | refine WPq.blockN ?_ | refine WPq.blockR ?_ | refine WPq.blockE ?_ | refine WPq.blockO rfl ?_ | refine WPc.seq ?_ | refine WPc.block ?_ | refine WPc.ret ?_ | refine WPc.exit ?_ | refine WPc.skip ?_ | refine WPc.region ?_
     | (refine isReg 27 ?_; refine WPc.drA [([], [111, 112, 113, 114, 115, 116, 119, 120, 121, 122, 123, 124, 127, 128, 129, 130, 131, 132, 135, 136, 137, 138, 139, 140]), ([0], [109, 111, 112, 113, 114, 115, 116, 119, 120, 121, 122, 123, 124, 127, 128, 129, 130, 131, 132, 135, 136, 137, 138, 139, 140]), ([], [109, 110, 112, 119, 120, 121, 122, 123, 127, 128, 129, 130, 131, 135, 136, 137, 138, 139]), ([], [109, 110, 111, 119, 120, 121, 122, 123, 127, 128, 129, 130, 131, 135, 136, 137, 138, 139]), ([2, 3], [109, 110, 111, 112, 119, 120, 121, 122, 123, 127, 128, 129, 130, 131, 135, 136, 137, 138, 139]), ([2, 3, 4], [109, 110, 111, 112, 113, 119, 120, 121, 122, 123, 127, 128, 129, 130, 131, 135, 136, 137, 138, 139]), ([2, 3, 4, 5], [109, 110, 111, 112, 113, 114, 119, 120, 121, 122, 123, 127, 128, 129, 130, 131, 135, 136, 137, 138, 139]), ([2, 3, 4, 5, 6], [109, 110, 111, 112, 113, 114, 115, 119, 120, 121, 122, 123, 127, 128, 129, 130, 131, 135, 136, 137, 138, 139]), ([0, 1, 2, 3, 4, 5, 6, 7], [109, 110, 111, 112, 113, 114, 115, 116, 119, 120, 121, 122, 123, 124, 127, 128, 129, 130, 131, 132, 135, 136, 137, 138, 139, 140]), ([0, 1, 2, 3, 4, 5, 6, 7, 8], [109, 110, 111, 112, 113, 114, 115, 116, 117, 119, 120, 121, 122, 123, 124, 127, 128, 129, 130, 131, 132, 135, 136, 137, 138, 139, 140]), ([], [109, 110, 111, 112, 113, 114, 115, 116, 117, 118, 120, 127, 128, 129, 130, 131, 135, 136, 137, 138, 139]), ([], [109, 110, 111, 112, 113, 114, 115, 116, 117, 118, 119, 127, 128, 129, 130, 131, 135, 136, 137, 138, 139]), ([10, 11], [109, 110, 111, 112, 113, 114, 115, 116, 117, 118, 119, 120, 127, 128, 129, 130, 131, 135, 136, 137, 138, 139]), ([10, 11, 12], [109, 110, 111, 112, 113, 114, 115, 116, 117, 118, 119, 120, 121, 127, 128, 129, 130, 131, 135, 136, 137, 138, 139]), ([10, 11, 12, 13], [109, 110, 111, 112, 113, 114, 115, 116, 117, 118, 119, 120, 121, 122, 127, 128, 129, 130, 131, 135, 136, 137, 138, 139]), ([2, 3, 4, 5, 6, 7, 10, 11, 12, 13, 14], [109, 110, 111, 112, 113, 114, 115, 116, 117, 118, 119, 120, 121, 122, 123, 127, 128, 129, 130, 131, 135, 136, 137, 138, 139]), ([0, 1, 2, 3, 4, 5, 6, 7, 8, 9, 10, 11, 12, 13, 14, 15], [109, 110, 111, 112, 113, 114, 115, 116, 117, 118, 119, 120, 121, 122, 123, 124, 127, 128, 129, 130, 131, 132, 135, 136, 137, 138, 139, 140]), ([0, 1, 2, 3, 4, 5, 6, 7, 8, 9, 10, 11, 12, 13, 14, 15, 16], [109, 110, 111, 112, 113, 114, 115, 116, 117, 118, 119, 120, 121, 122, 123, 124, 125, 127, 128, 129, 130, 131, 132, 135, 136, 137, 138, 139, 140]), ([], [109, 110, 111, 112, 113, 114, 115, 116, 117, 118, 119, 120, 121, 122, 123, 124, 125, 126, 128, 135, 136, 137, 138, 139]), ([], [109, 110, 111, 112, 113, 114, 115, 116, 117, 118, 119, 120, 121, 122, 123, 124, 125, 126, 127, 135, 136, 137, 138, 139]), ([18, 19], [109, 110, 111, 112, 113, 114, 115, 116, 117, 118, 119, 120, 121, 122, 123, 124, 125, 126, 127, 128, 135, 136, 137, 138, 139]), ([18, 19, 20], [109, 110, 111, 112, 113, 114, 115, 116, 117, 118, 119, 120, 121, 122, 123, 124, 125, 126, 127, 128, 129, 135, 136, 137, 138, 139]), ([18, 19, 20, 21], [109, 110, 111, 112, 113, 114, 115, 116, 117, 118, 119, 120, 121, 122, 123, 124, 125, 126, 127, 128, 129, 130, 135, 136, 137, 138, 139]), ([2, 3, 4, 5, 6, 7, 10, 11, 12, 13, 14, 15, 18, 19, 20, 21, 22], [109, 110, 111, 112, 113, 114, 115, 116, 117, 118, 119, 120, 121, 122, 123, 124, 125, 126, 127, 128, 129, 130, 131, 135, 136, 137, 138, 139]), ([0, 1, 2, 3, 4, 5, 6, 7, 8, 9, 10, 11, 12, 13, 14, 15, 16, 17, 18, 19, 20, 21, 22, 23], [109, 110, 111, 112, 113, 114, 115, 116, 117, 118, 119, 120, 121, 122, 123, 124, 125, 126, 127, 128, 129, 130, 131, 132, 135, 136, 137, 138, 139, 140]), ([0, 1, 2, 3, 4, 5, 6, 7, 8, 9, 10, 11, 12, 13, 14, 15, 16, 17, 18, 19, 20, 21, 22, 23, 24], [109, 110, 111, 112, 113, 114, 115, 116, 117, 118, 119, 120, 121, 122, 123, 124, 125, 126, 127, 128, 129, 130, 131, 132, 133, 135, 136, 137, 138, 139, 140]), ([], [109, 110, 111, 112, 113, 114, 115, 116, 117, 118, 119, 120, 121, 122, 123, 124, 125, 126, 127, 128, 129, 130, 131, 132, 133, 134, 136]), ([], [109, 110, 111, 112, 113, 114, 115, 116, 117, 118, 119, 120, 121, 122, 123, 124, 125, 126, 127, 128, 129, 130, 131, 132, 133, 134, 135]), ([26, 27], [109, 110, 111, 112, 113, 114, 115, 116, 117, 118, 119, 120, 121, 122, 123, 124, 125, 126, 127, 128, 129, 130, 131, 132, 133, 134, 135, 136]), ([26, 27, 28], [109, 110, 111, 112, 113, 114, 115, 116, 117, 118, 119, 120, 121, 122, 123, 124, 125, 126, 127, 128, 129, 130, 131, 132, 133, 134, 135, 136, 137]), ([26, 27, 28, 29], [109, 110, 111, 112, 113, 114, 115, 116, 117, 118, 119, 120, 121, 122, 123, 124, 125, 126, 127, 128, 129, 130, 131, 132, 133, 134, 135, 136, 137, 138]), ([2, 3, 4, 5, 6, 7, 10, 11, 12, 13, 14, 15, 18, 19, 20, 21, 22, 23, 26, 27, 28, 29, 30], [109, 110, 111, 112, 113, 114, 115, 116, 117, 118, 119, 120, 121, 122, 123, 124, 125, 126, 127, 128, 129, 130, 131, 132, 133, 134, 135, 136, 137, 138, 139]), ([0, 1, 2, 3, 4, 5, 6, 7, 8, 9, 10, 11, 12, 13, 14, 15, 16, 17, 18, 19, 20, 21, 22, 23, 24, 25, 26, 27, 28, 29, 30, 31], [109, 110, 111, 112, 113, 114, 115, 116, 117, 118, 119, 120, 121, 122, 123, 124, 125, 126, 127, 128, 129, 130, 131, 132, 133, 134, 135, 136, 137, 138, 139, 140]), ([0, 1, 2, 3, 4, 5, 6, 7, 8, 9, 10, 11, 12, 13, 14, 15, 16, 17, 18, 19, 20, 21, 22, 23, 24, 25, 26, 27, 28, 29, 30, 31, 32], [109, 110, 111, 112, 113, 114, 115, 116, 117, 118, 119, 120, 121, 122, 123, 124, 125, 126, 127, 128, 129, 130, 131, 132, 133, 134, 135, 136, 137, 138, 139, 140, 141]), ([0, 1, 2, 3, 4, 5, 6, 7, 8, 9, 10, 11, 12, 13, 14, 15, 16, 17, 18, 19, 20, 21, 22, 23, 24, 25, 26, 27, 28, 29, 30, 31, 32, 33], [109, 110, 111, 112, 113, 114, 115, 116, 117, 118, 119, 120, 121, 122, 123, 124, 125, 126, 127, 128, 129, 130, 131, 132, 133, 134, 135, 136, 137, 138, 139, 140, 141, 142])] [] (Γx := []) ?_; dsimp only [prev0, List.length_nil, List.length_cons])
     | (refine gAny ?_; first | (refine gC 116 ?_; refine RGl.vl (fun e hk => OpT.callN (c116)) ?_) | (refine gC 124 ?_; refine RGl.vl (fun e hk => OpT.callN (c124)) ?_) | (refine gC 132 ?_; refine RGl.vl (fun e hk => OpT.callN (c132)) ?_) | (refine gC 140 ?_; refine RGl.vl (fun e hk => OpT.callN (c140)) ?_) | (refine gD 106 ?_; refine RGl.rdX (fun e hk => by (try dsimp only [bndR, ensR, oksR, fcutR, List.append_nil, List.nil_append, List.cons_append, List.append_assoc] at hk ⊢); exact ReadR.binE rfl rfl BinR.lss (congrArg Value.bool (decide_eq_true (show (i : Int) < ((talL l).length : Int) by omega)))) ?_) | (refine gD 113 ?_; refine RGl.rdX (fun e hk => by (try dsimp only [bndR, ensR, oksR, fcutR, List.append_nil, List.nil_append, List.cons_append, List.append_assoc] at hk ⊢); exact ReadR.indexE (i := i) rfl rfl hasA (by omega)) ?_) | (refine gD 114 ?_; refine RGl.rdX (fun e hk => by (try dsimp only [bndR, ensR, oksR, fcutR, List.append_nil, List.nil_append, List.cons_append, List.append_assoc] at hk ⊢); exact ReadR.fieldE rfl hasA (by omega)) ?_) | (refine gD 115 ?_; refine RGl.rdX (fun e hk => by (try dsimp only [bndR, ensR, oksR, fcutR, List.append_nil, List.nil_append, List.cons_append, List.append_assoc] at hk ⊢); exact ReadR.loadE rfl hasA q0) ?_) | (refine gD 121 ?_; refine RGl.rdX (fun e hk => by (try dsimp only [bndR, ensR, oksR, fcutR, List.append_nil, List.nil_append, List.cons_append, List.append_assoc] at hk ⊢); exact ReadR.indexE (i := i) rfl rfl hasA (by omega)) ?_) | (refine gD 122 ?_; refine RGl.rdX (fun e hk => by (try dsimp only [bndR, ensR, oksR, fcutR, List.append_nil, List.nil_append, List.cons_append, List.append_assoc] at hk ⊢); exact ReadR.fieldE rfl hasA (by omega)) ?_) | (refine gD 123 ?_; refine RGl.rdX (fun e hk => by (try dsimp only [bndR, ensR, oksR, fcutR, List.append_nil, List.nil_append, List.cons_append, List.append_assoc] at hk ⊢); exact ReadR.loadE rfl hasA q1) ?_) | (refine gD 129 ?_; refine RGl.rdX (fun e hk => by (try dsimp only [bndR, ensR, oksR, fcutR, List.append_nil, List.nil_append, List.cons_append, List.append_assoc] at hk ⊢); exact ReadR.indexE (i := i) rfl rfl hasA (by omega)) ?_) | (refine gD 130 ?_; refine RGl.rdX (fun e hk => by (try dsimp only [bndR, ensR, oksR, fcutR, List.append_nil, List.nil_append, List.cons_append, List.append_assoc] at hk ⊢); exact ReadR.fieldE rfl hasA (by omega)) ?_) | (refine gD 131 ?_; refine RGl.rdX (fun e hk => by (try dsimp only [bndR, ensR, oksR, fcutR, List.append_nil, List.nil_append, List.cons_append, List.append_assoc] at hk ⊢); exact ReadR.loadE rfl hasA q2) ?_) | (refine gD 137 ?_; refine RGl.rdX (fun e hk => by (try dsimp only [bndR, ensR, oksR, fcutR, List.append_nil, List.nil_append, List.cons_append, List.append_assoc] at hk ⊢); exact ReadR.indexE (i := i) rfl rfl hasA (by omega)) ?_) | (refine gD 138 ?_; refine RGl.rdX (fun e hk => by (try dsimp only [bndR, ensR, oksR, fcutR, List.append_nil, List.nil_append, List.cons_append, List.append_assoc] at hk ⊢); exact ReadR.fieldE rfl hasA (by omega)) ?_) | (refine gD 139 ?_; refine RGl.rdX (fun e hk => by (try dsimp only [bndR, ensR, oksR, fcutR, List.append_nil, List.nil_append, List.cons_append, List.append_assoc] at hk ⊢); exact ReadR.loadE rfl hasA q3) ?_) | (refine gD 110 ?_; refine RGl.rdX (fun e hk => by (try dsimp only [bndR, ensR, oksR, fcutR, List.append_nil, List.nil_append, List.cons_append, List.append_assoc] at hk ⊢); exact ReadR.binE rfl rfl (BinR.sAdd (b := [116, 111, 32]) (by (try simp only [List.length_append, List.length_cons, List.length_nil]); omega)) rfl) ?_) | (refine gD 117 ?_; refine RGl.rdX (fun e hk => by (try dsimp only [bndR, ensR, oksR, fcutR, List.append_nil, List.nil_append, List.cons_append, List.append_assoc] at hk ⊢); exact ReadR.binE rfl rfl (BinR.sAdd (by (try simp only [List.length_append, List.length_cons, List.length_nil]); omega)) rfl) ?_) | (refine gD 118 ?_; refine RGl.rdX (fun e hk => by (try dsimp only [bndR, ensR, oksR, fcutR, List.append_nil, List.nil_append, List.cons_append, List.append_assoc] at hk ⊢); exact ReadR.binE rfl rfl (BinR.sAdd (b := [32]) (by (try simp only [List.length_append, List.length_cons, List.length_nil]); omega)) rfl) ?_) | (refine gD 125 ?_; refine RGl.rdX (fun e hk => by (try dsimp only [bndR, ensR, oksR, fcutR, List.append_nil, List.nil_append, List.cons_append, List.append_assoc] at hk ⊢); exact ReadR.binE rfl rfl (BinR.sAdd (by (try simp only [List.length_append, List.length_cons, List.length_nil]); omega)) rfl) ?_) | (refine gD 126 ?_; refine RGl.rdX (fun e hk => by (try dsimp only [bndR, ensR, oksR, fcutR, List.append_nil, List.nil_append, List.cons_append, List.append_assoc] at hk ⊢); exact ReadR.binE rfl rfl (BinR.sAdd (b := [32]) (by (try simp only [List.length_append, List.length_cons, List.length_nil]); omega)) rfl) ?_) | (refine gD 133 ?_; refine RGl.rdX (fun e hk => by (try dsimp only [bndR, ensR, oksR, fcutR, List.append_nil, List.nil_append, List.cons_append, List.append_assoc] at hk ⊢); exact ReadR.binE rfl rfl (BinR.sAdd (by (try simp only [List.length_append, List.length_cons, List.length_nil]); omega)) rfl) ?_) | (refine gD 134 ?_; refine RGl.rdX (fun e hk => by (try dsimp only [bndR, ensR, oksR, fcutR, List.append_nil, List.nil_append, List.cons_append, List.append_assoc] at hk ⊢); exact ReadR.binE rfl rfl (BinR.sAdd (b := [32]) (by (try simp only [List.length_append, List.length_cons, List.length_nil]); omega)) rfl) ?_) | (refine gD 141 ?_; refine RGl.rdX (fun e hk => by (try dsimp only [bndR, ensR, oksR, fcutR, List.append_nil, List.nil_append, List.cons_append, List.append_assoc] at hk ⊢); exact ReadR.binE rfl rfl (BinR.sAdd (by (try simp only [List.length_append, List.length_cons, List.length_nil]); omega)) rfl) ?_) | (refine gD 142 ?_; refine RGl.rdX (fun e hk => by (try dsimp only [bndR, ensR, oksR, fcutR, List.append_nil, List.nil_append, List.cons_append, List.append_assoc] at hk ⊢); exact ReadR.binE rfl rfl (BinR.sAdd (b := [10]) (by (try simp only [List.length_append, List.length_cons, List.length_nil]); omega)) rfl) ?_) | (refine gOp ?_; first | refine RGl.rdA ?_ | refine RGl.rdX (fun e hk => by (try dsimp only [bndR, ensR, oksR, fcutR, List.append_nil, List.nil_append, List.cons_append, List.append_assoc] at hk ⊢); exact readB) ?_) | (refine RGl.fin (fun e hk => ?_); (try dsimp only [bndA, ensAR, oksA, List.append_nil, List.nil_append, List.cons_append, List.append_assoc] at hk ⊢); (repeat (obtain ⟨hk1, hk⟩ := hk))) | fail)
     | (refine isCond ?_; first | refine WPc.cT ?_ | refine WPc.cF ?_ | (refine WPc.cQ (fun hc => ?_) (fun hc => ?_) <;> try exact prA))
     | (refine isD 106 ?_; refine WPl.rdX (ReadR.binE rfl rfl BinR.lss (congrArg Value.bool (decide_eq_true (show (i : Int) < ((talL l).length : Int) by omega)))) ?_)
     | (refine isC 116 ?_; refine WPl.cV (c116) ?_)
     | (refine isC 124 ?_; refine WPl.cV (c124) ?_)
     | (refine isC 132 ?_; refine WPl.cV (c132) ?_)
     | (refine isC 140 ?_; refine WPl.cV (c140) ?_)
     | (refine isOp ?_; first | refine WPl.rd ?_ | refine WPl.sk ?_ | refine WPl.rdB ?_)
     | (show WPl _ _ _ _ _ _ _ (⟨_, .indexAddr _ _ _, _, _, _, _⟩ :: _) _; refine WPl.rdX (ReadR.indexE rfl rfl hasA (by first | assumption | omega)) ?_)
     | (show WPl _ _ _ _ _ _ _ (⟨_, .fieldAddr _ _ _, _, _, _, _⟩ :: _) _; refine WPl.rdX (ReadR.fieldE rfl hasA (by first | assumption | omega)) ?_)
     | (show WPl _ _ _ _ _ _ _ (⟨_, .load _ _, _, _, _, _⟩ :: _) _; first | refine WPl.rdX (ReadR.loadE rfl hasA (by assumption)) ?_ | refine WPl.rdX (ReadR.loadES (by assumption) (by first | assumption | omega) rfl hasA) ?_)
     | (show WPl _ _ _ _ _ _ _ (⟨_, .slice _ _ _ _ _, _, _, _, _⟩ :: _) _; first | refine WPl.rdX (ReadR.sliceH rfl rfl hasA (by omega)) ?_ | refine WPl.rdX (ReadR.sliceL rfl rfl hasA (by omega)) ?_ | refine WPl.rdX (ReadR.sliceLH rfl rfl rfl hasA (by omega) (by omega)) ?_)
     | (refine WPl.spQ (fun hc => ?_) (fun hc => ?_) <;> try exact prA)
     | fail)
    rw [hE]
    exact WPq.rnd (i + 1, tx ++ lineT x) ⟨by dsimp only; omega, by dsimp only; rw [htt, map_take hk1', List.append_assoc]⟩ (by dsimp only; omega)
  have hie : i = (talL l).length := by omega
  subst hie
  rw [List.take_length] at htt
  have hcl : l.countP cntA ≤ l.length := List.countP_le_length
  have hal64 : in64 al := in64_of (by omega) (by omega)
  have c144 := num_t al hal64
  have hia := itoa_len hal64
  have hP := lineP_eq l
  rw [← hal] at hP
  have hfin : lineP l ++ tx = txtL l := by rw [htt, hte, htw]; unfold txtL; simp only [List.append_assoc]
  repeat' (first
   | refine WPl.nil ?_ | refine WPq.then ?_ | refine WPq.thenR ?_ | refine WPq.thenE ?_ | refine WPq.blockN ?_ | refine WPq.blockR ?_ | refine WPq.blockE ?_ | refine WPq.blockO rfl ?_ | refine WPc.seq ?_ | refine WPc.block ?_ | refine WPc.ret ?_ | refine WPc.exit ?_ | refine WPc.skip ?_ | refine WPc.region ?_
   | (refine isCond ?_; first | refine WPc.cT ?_ | refine WPc.cF ?_ | (refine WPc.cQ (fun hc => ?_) (fun hc => ?_) <;> try exact prA))
   | (refine isD 106 ?_; refine WPl.rdX (ReadR.binE rfl rfl BinR.lss (congrArg Value.bool (decide_eq_false (show ¬ ((talL l).length : Int) < ((talL l).length : Int) by omega)))) ?_)
   | (refine isC 144 ?_; refine WPl.cV (c144) ?_)
   | (refine isD 145 ?_; refine WPl.rdX (ReadR.binE rfl rfl (BinR.sAdd (a := [112, 97, 99, 107, 101, 116, 115, 32]) (by (try simp only [List.length_append, List.length_cons, List.length_nil]); omega)) rfl) ?_)
   | (refine isD 146 ?_; refine WPl.rdX (ReadR.binE rfl rfl (BinR.sAdd (b := [10]) (by (try simp only [List.length_append, List.length_cons, List.length_nil]); omega)) rfl) ?_)
   | (refine isD 148 ?_; refine WPl.rdX (ReadR.binE rfl rfl (BinR.sAdd (by (try simp only [List.length_append, List.length_cons, List.length_nil]); omega)) rfl) ?_)
   | (refine isOp ?_; first | refine WPl.rd ?_ | refine WPl.sk ?_ | refine WPl.rdB ?_)
   | (show WPl _ _ _ _ _ _ _ (⟨_, .indexAddr _ _ _, _, _, _, _⟩ :: _) _; refine WPl.rdX (ReadR.indexE rfl rfl hasA (by first | assumption | omega)) ?_)
   | (show WPl _ _ _ _ _ _ _ (⟨_, .fieldAddr _ _ _, _, _, _, _⟩ :: _) _; refine WPl.rdX (ReadR.fieldE rfl hasA (by first | assumption | omega)) ?_)
   | (show WPl _ _ _ _ _ _ _ (⟨_, .load _ _, _, _, _, _⟩ :: _) _; first | refine WPl.rdX (ReadR.loadE rfl hasA (by assumption)) ?_ | refine WPl.rdX (ReadR.loadES (by assumption) (by first | assumption | omega) rfl hasA) ?_)
   | (show WPl _ _ _ _ _ _ _ (⟨_, .slice _ _ _ _ _, _, _, _, _⟩ :: _) _; first | refine WPl.rdX (ReadR.sliceH rfl rfl hasA (by omega)) ?_ | refine WPl.rdX (ReadR.sliceL rfl rfl hasA (by omega)) ?_ | refine WPl.rdX (ReadR.sliceLH rfl rfl rfl hasA (by omega) (by omega)) ?_)
   | (refine WPl.spQ (fun hc => ?_) (fun hc => ?_) <;> try exact prA)
   | fail)
  rw [hP, hfin]
  exact WPq.dV
end Go.Proofs.YtagedgcdonodfaaDoor
/- Report: what the law asks of a report: contracts. -/
namespace Go.Proofs.YtagedgcdonodfaaDoor
set_option linter.unusedVariables false
theorem BinR.tlN {a b : TE} : BinR Tryd.prog .neq 31 (ag (tlC a)) (ag (tlC b)) (.bool (!decide (a = b))) := by
  have e : decide (a = b) = (decide (a.1.1 = b.1.1) && (decide (a.1.2 = b.1.2) && (decide (a.2.1 = b.2.1) && (decide (a.2.2 = b.2.2) && true)))) := by
    obtain ⟨⟨a1, a2⟩, ⟨a3, a4⟩⟩ := a
    obtain ⟨⟨b1, b2⟩, ⟨b3, b4⟩⟩ := b
    simp [Bool.and_assoc]
  rw [e]
  exact BinR.neqA eqcA
theorem fpTS {P' Q' : Program} {Γf : List Asn} {n n2 : String} {k k2 : IntKind} {zs zs2 : List Int} (h : tabA P' n k zs ∈ Γf) (h2 : tabA Q' n2 k2 zs2 ∈ Γf) : ∀ A, A ∈ [tabA P' n k zs, tabA Q' n2 k2 zs2] → ∃ B, B ∈ Γf ∧ ∀ g, A.fp g → B.fp g := fun A hA => by
  rcases List.mem_cons.1 hA with rfl | hA
  · exact ⟨_, h, fun g hg => hg⟩
  · rw [List.mem_singleton.1 hA]; exact ⟨_, h2, fun g hg => hg⟩
theorem textM_t (gR mW mE mT : Nat) (C E : LN) (T : LT) (l : List An) (hrep : Rep l C E T) (hl : l.length ≤ 1000) (hln : ∀ a ∈ l, a.ln ≤ 60) (hes : ∀ a ∈ l, in64 a.er) (hsv : ∀ a ∈ l, in64 a.sv ∧ in64 a.bk) :
    Triple Tryd.prog 18 #[pB0 gR] ([tP, tS] ++ rpA gR mW mE mT C E T) (RTurns (sV (txtL l)) (rpA gR mW mE mT C E T)) :=
  (text_t gR mW mE mT C E T l hrep hl hln hes hsv).permT (List.perm_append_comm (l₁ := [tP, tS]) (l₂ := rpA gR mW mE mT C E T))
theorem rep_whyV {l : List An} {C E : LN} {T : LT} (h : Rep l C E T) (k : Int) : mget whM C k = (whyN l k : Int) := h.w.get k
theorem rep_errV {l : List An} {C E : LN} {T : LT} (h : Rep l C E T) (k : Int) : mget whM E k = (errN l k : Int) := h.e.get k
open Go.RowKit
set_option linter.unusedSimpArgs false
set_option linter.unusedVariables false
set_option maxRecDepth 20000
set_option maxHeartbeats 4000000
attribute [local irreducible] WPc WPl WPq ReadR OpT BinR HasS bx rdN rowN Take Takes Prov Triple ResF BuildP Done ag Int.decLt Int.decLe Int.instDecidableEq
attribute [local irreducible] mp rmp rg rgo mput mget mfind mdel mhas tls whysL errsL talL lineW lineE lineT lineP ars nextE iterE wsA nameL txtL
theorem tallied_t (va vb : Value) (S : LT) (hSl : S.length ≤ 100000) : Triple Tryd.prog 26 #[va, vb] [rdN va S.length (tls S), rdN vb S.length (tls S)] (RVal (.bool true)) := by
  have htl := tls_len S
  refine Triple.enter Tryd.func26 rfl Tryd.ntmps26 rfl (fun W => ?_)
  dsimp only [argsF, Nat.reduceAdd]
  repeat' (first
   | refine WPl.nil ?_ | refine WPq.then ?_ | refine WPq.thenR ?_ | refine WPq.thenE ?_ | refine WPq.blockN ?_ | refine WPq.blockR ?_ | refine WPq.blockE ?_ | refine WPq.blockO rfl ?_ | refine WPc.seq ?_ | refine WPc.block ?_ | refine WPc.ret ?_ | refine WPc.exit ?_ | refine WPc.skip ?_ | refine WPc.region ?_
   | (refine isCond ?_; first | refine WPc.cT ?_ | refine WPc.cF ?_ | (refine WPc.cQ (fun hc => ?_) (fun hc => ?_) <;> try exact prA))
   | (refine isD 10 ?_; refine WPl.rdX (ReadR.binE rfl rfl BinR.neq (congrArg (fun q => Value.bool (!q)) (decide_eq_true rfl))) ?_)
   | (refine isOp ?_; first | refine WPl.rd ?_ | refine WPl.sk ?_ | refine WPl.rdB ?_)
   | (show WPl _ _ _ _ _ _ _ (⟨_, .indexAddr _ _ _, _, _, _, _⟩ :: _) _; refine WPl.rdX (ReadR.indexE rfl rfl hasA (by first | assumption | omega)) ?_)
   | (show WPl _ _ _ _ _ _ _ (⟨_, .fieldAddr _ _ _, _, _, _, _⟩ :: _) _; refine WPl.rdX (ReadR.fieldE rfl hasA (by first | assumption | omega)) ?_)
   | (show WPl _ _ _ _ _ _ _ (⟨_, .load _ _, _, _, _, _⟩ :: _) _; first | refine WPl.rdX (ReadR.loadE rfl hasA (by assumption)) ?_ | refine WPl.rdX (ReadR.loadES (by assumption) (by first | assumption | omega) rfl hasA) ?_)
   | (show WPl _ _ _ _ _ _ _ (⟨_, .slice _ _ _ _ _, _, _, _, _⟩ :: _) _; first | refine WPl.rdX (ReadR.sliceH rfl rfl hasA (by omega)) ?_ | refine WPl.rdX (ReadR.sliceL rfl rfl hasA (by omega)) ?_ | refine WPl.rdX (ReadR.sliceLH rfl rfl rfl hasA (by omega) (by omega)) ?_)
   | (refine WPl.spQ (fun hc => ?_) (fun hc => ?_) <;> try exact prA)
   | fail)
  first | refine WPc.loop (σ := Nat) (fun st => st ≤ S.length) (fun st => [rdN va S.length (tls S), rdN vb S.length (tls S)]) (fun st => [(0, va), (1, vb), (5, .int .i64 (st : Int))]) (fun st => S.length - st) ((0 : Nat)) ?_ takesA frsA (fun st km hx hk => ?_)
  · exact Nat.zero_le _
  obtain ⟨i, hist⟩ : ∃ i, i = st := ⟨_, rfl⟩
  subst hist
  by_cases hin : i < S.length
  · obtain ⟨x, hx2⟩ : ∃ x, S[i]? = some x := ⟨_, List.getElem?_eq_getElem hin⟩
    have hat := tls_at hx2
    repeat' (first
     | refine WPl.nil ?_ | refine WPq.then ?_ | refine WPq.thenR ?_ | refine WPq.thenE ?_ | refine WPq.blockN ?_ | refine WPq.blockR ?_ | refine WPq.blockE ?_ | refine WPq.blockO rfl ?_ | refine WPc.seq ?_ | refine WPc.block ?_ | refine WPc.ret ?_ | refine WPc.exit ?_ | refine WPc.skip ?_ | refine WPc.region ?_
     | (refine isReg 6 ?_; refine WPc.drA [([], [18, 21, 22, 23, 24]), ([], [17, 21, 22, 23, 24]), ([0, 1], [17, 18, 21, 22, 23, 24]), ([0, 1, 2], [17, 18, 19, 21, 22, 23, 24]), ([], [17, 18, 19, 20, 22]), ([], [17, 18, 19, 20, 21]), ([4, 5], [17, 18, 19, 20, 21, 22]), ([4, 5, 6], [17, 18, 19, 20, 21, 22, 23]), ([0, 1, 2, 3, 4, 5, 6, 7], [17, 18, 19, 20, 21, 22, 23, 24])] [] (Γx := []) ?_; dsimp only [prev0, List.length_nil, List.length_cons])
     | (refine gAny ?_; first | (refine gD 14 ?_; refine RGl.rdX (fun e hk => by (try dsimp only [bndR, ensR, oksR, fcutR, List.append_nil, List.nil_append, List.cons_append, List.append_assoc] at hk ⊢); exact ReadR.binE rfl rfl BinR.lss (congrArg Value.bool (decide_eq_true (show (i : Int) < (S.length : Int) by omega)))) ?_) | (refine gD 19 ?_; refine RGl.rdX (fun e hk => by (try dsimp only [bndR, ensR, oksR, fcutR, List.append_nil, List.nil_append, List.cons_append, List.append_assoc] at hk ⊢); exact ReadR.indexE (i := i) rfl rfl hasA (by omega)) ?_) | (refine gD 20 ?_; refine RGl.rdX (fun e hk => by (try dsimp only [bndR, ensR, oksR, fcutR, List.append_nil, List.nil_append, List.cons_append, List.append_assoc] at hk ⊢); exact ReadR.loadES (cs := tlC x) hat (by omega) rfl hasA) ?_) | (refine gD 23 ?_; refine RGl.rdX (fun e hk => by (try dsimp only [bndR, ensR, oksR, fcutR, List.append_nil, List.nil_append, List.cons_append, List.append_assoc] at hk ⊢); exact ReadR.indexE (i := i) rfl rfl hasA (by omega)) ?_) | (refine gD 24 ?_; refine RGl.rdX (fun e hk => by (try dsimp only [bndR, ensR, oksR, fcutR, List.append_nil, List.nil_append, List.cons_append, List.append_assoc] at hk ⊢); exact ReadR.loadES (cs := tlC x) hat (by omega) rfl hasA) ?_) | (refine gD 25 ?_; refine RGl.rdX (fun e hk => by (try dsimp only [bndR, ensR, oksR, fcutR, List.append_nil, List.nil_append, List.cons_append, List.append_assoc] at hk ⊢); exact ReadR.binE rfl rfl BinR.tlN (congrArg (fun q => Value.bool (!q)) (decide_eq_true rfl))) ?_) | (refine gOp ?_; first | refine RGl.rdA ?_ | refine RGl.rdX (fun e hk => by (try dsimp only [bndR, ensR, oksR, fcutR, List.append_nil, List.nil_append, List.cons_append, List.append_assoc] at hk ⊢); exact readB) ?_) | (refine RGl.fin (fun e hk => ?_); (try dsimp only [bndA, ensAR, oksA, List.append_nil, List.nil_append, List.cons_append, List.append_assoc] at hk ⊢); (repeat (obtain ⟨hk1, hk⟩ := hk))) | fail)
     | (refine isCond ?_; first | refine WPc.cT ?_ | refine WPc.cF ?_ | (refine WPc.cQ (fun hc => ?_) (fun hc => ?_) <;> try exact prA))
     | (refine isD 14 ?_; refine WPl.rdX (ReadR.binE rfl rfl BinR.lss (congrArg Value.bool (decide_eq_true (show (i : Int) < (S.length : Int) by omega)))) ?_)
     | (refine isOp ?_; first | refine WPl.rd ?_ | refine WPl.sk ?_ | refine WPl.rdB ?_)
     | (show WPl _ _ _ _ _ _ _ (⟨_, .indexAddr _ _ _, _, _, _, _⟩ :: _) _; refine WPl.rdX (ReadR.indexE rfl rfl hasA (by first | assumption | omega)) ?_)
     | (show WPl _ _ _ _ _ _ _ (⟨_, .fieldAddr _ _ _, _, _, _, _⟩ :: _) _; refine WPl.rdX (ReadR.fieldE rfl hasA (by first | assumption | omega)) ?_)
     | (show WPl _ _ _ _ _ _ _ (⟨_, .load _ _, _, _, _, _⟩ :: _) _; first | refine WPl.rdX (ReadR.loadE rfl hasA (by assumption)) ?_ | refine WPl.rdX (ReadR.loadES (by assumption) (by first | assumption | omega) rfl hasA) ?_)
     | (show WPl _ _ _ _ _ _ _ (⟨_, .slice _ _ _ _ _, _, _, _, _⟩ :: _) _; first | refine WPl.rdX (ReadR.sliceH rfl rfl hasA (by omega)) ?_ | refine WPl.rdX (ReadR.sliceL rfl rfl hasA (by omega)) ?_ | refine WPl.rdX (ReadR.sliceLH rfl rfl rfl hasA (by omega) (by omega)) ?_)
     | (refine WPl.spQ (fun hc => ?_) (fun hc => ?_) <;> try exact prA)
     | fail)
    exact WPq.rnd (i + 1) (show i + 1 ≤ S.length by omega) (by omega)
  have hie : i = S.length := by omega
  subst hie
  repeat' (first
   | refine WPl.nil ?_ | refine WPq.then ?_ | refine WPq.thenR ?_ | refine WPq.thenE ?_ | refine WPq.blockN ?_ | refine WPq.blockR ?_ | refine WPq.blockE ?_ | refine WPq.blockO rfl ?_ | refine WPc.seq ?_ | refine WPc.block ?_ | refine WPc.ret ?_ | refine WPc.exit ?_ | refine WPc.skip ?_ | refine WPc.region ?_
   | (refine isCond ?_; first | refine WPc.cT ?_ | refine WPc.cF ?_ | (refine WPc.cQ (fun hc => ?_) (fun hc => ?_) <;> try exact prA))
   | (refine isD 14 ?_; refine WPl.rdX (ReadR.binE rfl rfl BinR.lss (congrArg Value.bool (decide_eq_false (show ¬ (S.length : Int) < (S.length : Int) by omega)))) ?_)
   | (refine isOp ?_; first | refine WPl.rd ?_ | refine WPl.sk ?_ | refine WPl.rdB ?_)
   | (show WPl _ _ _ _ _ _ _ (⟨_, .indexAddr _ _ _, _, _, _, _⟩ :: _) _; refine WPl.rdX (ReadR.indexE rfl rfl hasA (by first | assumption | omega)) ?_)
   | (show WPl _ _ _ _ _ _ _ (⟨_, .fieldAddr _ _ _, _, _, _, _⟩ :: _) _; refine WPl.rdX (ReadR.fieldE rfl hasA (by first | assumption | omega)) ?_)
   | (show WPl _ _ _ _ _ _ _ (⟨_, .load _ _, _, _, _, _⟩ :: _) _; first | refine WPl.rdX (ReadR.loadE rfl hasA (by assumption)) ?_ | refine WPl.rdX (ReadR.loadES (by assumption) (by first | assumption | omega) rfl hasA) ?_)
   | (show WPl _ _ _ _ _ _ _ (⟨_, .slice _ _ _ _ _, _, _, _, _⟩ :: _) _; first | refine WPl.rdX (ReadR.sliceH rfl rfl hasA (by omega)) ?_ | refine WPl.rdX (ReadR.sliceL rfl rfl hasA (by omega)) ?_ | refine WPl.rdX (ReadR.sliceLH rfl rfl rfl hasA (by omega) (by omega)) ?_)
   | (refine WPl.spQ (fun hc => ?_) (fun hc => ?_) <;> try exact prA)
   | fail)
  all_goals try (first | exact WPq.dTp | exact WPq.dTs | exact WPq.dV | exact WPq.dR | exact WPq.dR2 | exact WPq.dH | exact WPq.dBH | exact WPq.dT)
theorem is_t (gR mW mE mT : Nat) (C E : LN) (T : LT) (vl : Value) (R : List AR) (k e : Int) (hR : ∀ r ∈ R, anW r) (hl : R.length ≤ 500) (hln : ∀ r ∈ R, r.a.ln ≤ 60) (hrep : Rep (plL R) C E T) (hk64 : in64 k) (he64 : in64 e) :
    Triple Tryd.prog 15 #[pB0 gR, vl, .int .i64 k, .int .i64 e] (rpA gR mW mE mT C E T ++ [rdN vl R.length (ars R), tP, tS]) (RTurns (.bool true) (rpA gR mW mE mT C E T)) := by
  have hlen2 := ars_len R
  obtain ⟨l, hlL⟩ : ∃ l, l = plL R := ⟨_, rfl⟩
  have hll : l.length = R.length := by rw [hlL]; unfold plL; rw [List.length_map]
  have hln' : ∀ a ∈ l, a.ln ≤ 60 := fun a ha => by
    rw [hlL] at ha
    obtain ⟨r, hr, rfl⟩ := List.mem_map.1 ha
    exact hln r hr
  have hw' : ∀ a ∈ l, (in64 a.sv ∧ in64 a.bk) ∧ in64 a.er := fun a ha => by
    rw [hlL] at ha
    obtain ⟨r, hr, rfl⟩ := List.mem_map.1 ha
    exact ⟨⟨(hR r hr).2.1, (hR r hr).2.2.1⟩, (hR r hr).2.2.2⟩
  rw [← hlL] at hrep
  show Triple _ _ _ [bx gR 52 (rpC mW mE mT), mp whM mW C, mp whM mE E, mp toM mT T, rdN vl R.length (ars R), tP, tS] _
  refine Triple.enter Tryd.func15 rfl Tryd.ntmps15 rfl (fun W => ?_)
  dsimp only [argsF, Nat.reduceAdd]
  refine WPc.mkeys (M := whM) (m := mW) (l := C) memA fun hnC hwC => ?_
  refine WPc.mkeys (M := whM) (m := mE) (l := E) memA fun hnE hwE => ?_
  refine WPc.mkeys (M := toM) (m := mT) (l := T) memA fun hnT hwT => ?_
  obtain ⟨hall, hCl⟩ := rep_all hrep hnC (by omega)
  have hTl := rep_tlen hrep hnT (by omega)
  repeat' (first
   | refine WPl.nil ?_ | refine WPq.then ?_ | refine WPq.thenR ?_ | refine WPq.thenE ?_ | refine WPq.blockN ?_ | refine WPq.blockR ?_ | refine WPq.blockE ?_ | refine WPq.blockO rfl ?_ | refine WPc.seq ?_ | refine WPc.block ?_ | refine WPc.ret ?_ | refine WPc.exit ?_ | refine WPc.skip ?_ | refine WPc.region ?_
   | (refine isCond ?_; first | refine WPc.cT ?_ | refine WPc.cF ?_ | (refine WPc.cQ (fun hc => ?_) (fun hc => ?_) <;> try exact prA))
   | (refine isOp ?_; first | refine WPl.rd ?_ | refine WPl.sk ?_ | refine WPl.rdB ?_)
   | (show WPl _ _ _ _ _ _ _ (⟨_, .indexAddr _ _ _, _, _, _, _⟩ :: _) _; refine WPl.rdX (ReadR.indexE rfl rfl hasA (by first | assumption | omega)) ?_)
   | (show WPl _ _ _ _ _ _ _ (⟨_, .fieldAddr _ _ _, _, _, _, _⟩ :: _) _; refine WPl.rdX (ReadR.fieldE rfl hasA (by first | assumption | omega)) ?_)
   | (show WPl _ _ _ _ _ _ _ (⟨_, .load _ _, _, _, _, _⟩ :: _) _; first | refine WPl.rdX (ReadR.loadE rfl hasA (by assumption)) ?_ | refine WPl.rdX (ReadR.loadES (by assumption) (by first | assumption | omega) rfl hasA) ?_)
   | (show WPl _ _ _ _ _ _ _ (⟨_, .slice _ _ _ _ _, _, _, _, _⟩ :: _) _; first | refine WPl.rdX (ReadR.sliceH rfl rfl hasA (by omega)) ?_ | refine WPl.rdX (ReadR.sliceL rfl rfl hasA (by omega)) ?_ | refine WPl.rdX (ReadR.sliceLH rfl rfl rfl hasA (by omega) (by omega)) ?_)
   | (refine WPl.spQ (fun hc => ?_) (fun hc => ?_) <;> try exact prA)
   | fail)
  first | refine WPc.loop (σ := Nat × Int) (fun st => st.1 ≤ 7 ∧ st.2 = (wsA l st.1).1) (fun st => [bx gR 52 (rpC mW mE mT), mp whM mW C, mp whM mE E, mp toM mT T, rdN vl R.length (ars R), tP, tS]) (fun st => [(0, pB0 gR), (1, vl), (2, .int .i64 k), (3, .int .i64 e), (9, .int .i64 st.2), (10, .int .i64 ((st.1 + 1 : Nat) : Int))]) (fun st => 7 - st.1) (⟨0, 0⟩) ?_ takesA frsA (fun st km hx hk => ?_)
  · exact ⟨Nat.zero_le _, by with_unfolding_all rfl⟩
  obtain ⟨i, al⟩ := st
  obtain ⟨hi, hst⟩ := hx
  dsimp only at hi hst hk ⊢
  obtain ⟨b1, b2, b3⟩ := wsA_len l (by omega) i
  by_cases hin : i < 7
  · have c18 := whyR_t vl R ((i + 1 : Nat) : Int) (by omega)
    rw [← hlL] at c18
    have hwl := why_len (l := l) (k := ((i + 1 : Nat) : Int))
    have hsu := wsA_sum l i
    repeat' (first
     | refine WPl.nil ?_ | refine WPq.then ?_ | refine WPq.thenR ?_ | refine WPq.thenE ?_ | refine WPq.blockN ?_ | refine WPq.blockR ?_ | refine WPq.blockE ?_ | refine WPq.blockO rfl ?_ | refine WPc.seq ?_ | refine WPc.block ?_ | refine WPc.ret ?_ | refine WPc.exit ?_ | refine WPc.skip ?_ | refine WPc.region ?_
     | (refine isCond ?_; first | refine WPc.cT ?_ | refine WPc.cF ?_ | (refine WPc.cQ (fun hc => ?_) (fun hc => ?_) <;> try exact prA))
     | (refine isD 12 ?_; refine WPl.rdX (ReadR.binE rfl rfl BinR.leq (congrArg Value.bool (decide_eq_true (show ((i + 1 : Nat) : Int) ≤ 7 by omega)))) ?_)
     | (refine isC 18 ?_; refine WPl.cV (c18) ?_)
     | (refine isD 19 ?_; refine WPl.rdX (ReadR.binE rfl rfl (BinR.addI (by omega) (by omega)) rfl) ?_)
     | (refine isOp ?_; first | refine WPl.rd ?_ | refine WPl.sk ?_ | refine WPl.rdB ?_)
     | (show WPl _ _ _ _ _ _ _ (⟨_, .indexAddr _ _ _, _, _, _, _⟩ :: _) _; refine WPl.rdX (ReadR.indexE rfl rfl hasA (by first | assumption | omega)) ?_)
     | (show WPl _ _ _ _ _ _ _ (⟨_, .fieldAddr _ _ _, _, _, _, _⟩ :: _) _; refine WPl.rdX (ReadR.fieldE rfl hasA (by first | assumption | omega)) ?_)
     | (show WPl _ _ _ _ _ _ _ (⟨_, .load _ _, _, _, _, _⟩ :: _) _; first | refine WPl.rdX (ReadR.loadE rfl hasA (by assumption)) ?_ | refine WPl.rdX (ReadR.loadES (by assumption) (by first | assumption | omega) rfl hasA) ?_)
     | (show WPl _ _ _ _ _ _ _ (⟨_, .slice _ _ _ _ _, _, _, _, _⟩ :: _) _; first | refine WPl.rdX (ReadR.sliceH rfl rfl hasA (by omega)) ?_ | refine WPl.rdX (ReadR.sliceL rfl rfl hasA (by omega)) ?_ | refine WPl.rdX (ReadR.sliceLH rfl rfl rfl hasA (by omega) (by omega)) ?_)
     | (refine WPl.spQ (fun hc => ?_) (fun hc => ?_) <;> try exact prA)
     | fail)
    exact WPq.rnd (i + 1, al + (whyN l ((i + 1 : Nat) : Int) : Int)) ⟨by dsimp only; omega, by dsimp only; rw [hsu, hst]⟩ (by dsimp only; omega)
  have hie : i = 7 := by omega
  subst hie
  rw [wsA_all] at hst
  have hal : al = (l.countP cntA : Int) := hst
  rw [hal]
  have c21 := packets_t gR mW mE mT C hall
  rw [hrep.sw] at c21
  have c27 := why_t gR mW mE mT C k hk64
  rw [rep_whyV hrep] at c27
  have c30 := whyR_t vl R k (by omega)
  rw [← hlL] at c30
  have c36 := errs_t gR mW mE mT E e he64
  rw [rep_errV hrep] at c36
  have c39 := errR_t vl R e (by omega)
  rw [← hlL] at c39
  have c44 := talliesP_t gR mW mE mT T (by omega)
  have c46 := talR_t vl R hR (by omega) hln
  rw [← hlL] at c46
  have c47 := fun va vb => tallied_t va vb (talL l) (Nat.le_trans (talL_len l) (by omega))
  have c51 := textM_t gR mW mE mT C E T l hrep (by omega) hln' (fun a ha => (hw' a ha).2) (fun a ha => (hw' a ha).1)
  have c53 := refText_t vl R hR (by omega) hln
  rw [← hlL] at c53
  repeat' (first
   | refine WPl.nil ?_ | refine WPq.then ?_ | refine WPq.thenR ?_ | refine WPq.thenE ?_ | refine WPq.blockN ?_ | refine WPq.blockR ?_ | refine WPq.blockE ?_ | refine WPq.blockO rfl ?_ | refine WPc.seq ?_ | refine WPc.block ?_ | refine WPc.ret ?_ | refine WPc.exit ?_ | refine WPc.skip ?_ | refine WPc.region ?_
   | (refine isCond ?_; first | refine WPc.cT ?_ | refine WPc.cF ?_ | (refine WPc.cQ (fun hc => ?_) (fun hc => ?_) <;> try exact prA))
   | (refine isD 12 ?_; refine WPl.rdX (ReadR.binE rfl rfl BinR.leq (congrArg Value.bool (decide_eq_false (show ¬ ((7 + 1 : Nat) : Int) ≤ 7 by omega)))) ?_)
   | (refine isC 21 ?_; refine WPl.cTs (c21) ?_; (try dsimp only [putF, List.cons_append, List.nil_append]))
   | (refine isD 23 ?_; refine WPl.rdX (ReadR.binE rfl rfl BinR.eql (congrArg Value.bool (decide_eq_true rfl))) ?_)
   | (refine isC 27 ?_; refine WPl.cV c27 ?_ (hΔ := provsM))
   | (refine isC 30 ?_; refine WPl.cV (c30) ?_)
   | (refine isD 31 ?_; refine WPl.rdX (ReadR.binE rfl rfl BinR.eql (congrArg Value.bool (decide_eq_true rfl))) ?_)
   | (refine isC 36 ?_; refine WPl.cV c36 ?_ (hΔ := provsM))
   | (refine isC 39 ?_; refine WPl.cV (c39) ?_)
   | (refine isD 40 ?_; refine WPl.rdX (ReadR.binE rfl rfl BinR.eql (congrArg Value.bool (decide_eq_true rfl))) ?_)
   | (refine isC 44 ?_; refine WPl.cXs (c44) fun v44 Γ1 hR => ?_; (obtain ⟨S, hv44, rfl, hS1, hS2⟩ := hR; obtain rfl := tal_sorted hrep.t hnT hS1 hS2); (try dsimp only [putF, List.cons_append, List.nil_append]))
   | (refine isC 46 ?_; refine WPl.cR (c46) fun v46 hv46 => ?_)
   | (refine isC 47 ?_; refine WPl.cV ((c47 _ _)) ?_)
   | (refine isC 51 ?_; refine WPl.cM c51 ?_ (fun vq Γ1 hR => ?_) (hΔ := provsR2); exact fpTS memA memA; obtain ⟨rfl, rfl⟩ := hR; (try dsimp only [putF, List.cons_append, List.nil_append]))
   | (refine isC 53 ?_; refine WPl.cV (c53) ?_)
   | (refine isD 54 ?_; refine WPl.rdX (ReadR.binE rfl rfl BinR.sEql (congrArg Value.bool (decide_eq_true rfl))) ?_)
   | (refine isOp ?_; first | refine WPl.rd ?_ | refine WPl.sk ?_ | refine WPl.rdB ?_)
   | (show WPl _ _ _ _ _ _ _ (⟨_, .indexAddr _ _ _, _, _, _, _⟩ :: _) _; refine WPl.rdX (ReadR.indexE rfl rfl hasA (by first | assumption | omega)) ?_)
   | (show WPl _ _ _ _ _ _ _ (⟨_, .fieldAddr _ _ _, _, _, _, _⟩ :: _) _; refine WPl.rdX (ReadR.fieldE rfl hasA (by first | assumption | omega)) ?_)
   | (show WPl _ _ _ _ _ _ _ (⟨_, .load _ _, _, _, _, _⟩ :: _) _; first | refine WPl.rdX (ReadR.loadE rfl hasA (by assumption)) ?_ | refine WPl.rdX (ReadR.loadES (by assumption) (by first | assumption | omega) rfl hasA) ?_)
   | (show WPl _ _ _ _ _ _ _ (⟨_, .slice _ _ _ _ _, _, _, _, _⟩ :: _) _; first | refine WPl.rdX (ReadR.sliceH rfl rfl hasA (by omega)) ?_ | refine WPl.rdX (ReadR.sliceL rfl rfl hasA (by omega)) ?_ | refine WPl.rdX (ReadR.sliceLH rfl rfl rfl hasA (by omega) (by omega)) ?_)
   | (refine WPl.spQ (fun hc => ?_) (fun hc => ?_) <;> try exact prA)
   | fail)
  all_goals try (first | exact WPq.dTp | exact WPq.dTs | exact WPq.dV | exact WPq.dR | exact WPq.dR2 | exact WPq.dH | exact WPq.dBH | exact WPq.dT)
end Go.Proofs.YtagedgcdonodfaaDoor
/- Report: a packet is counted; a report that is none: contracts. -/
namespace Go.Proofs.YtagedgcdonodfaaDoor
set_option linter.unusedVariables false
abbrev an0 : An := ⟨1, 1, 0, 0, false, 0, 0, 0, 0, false⟩
def txt0 : List UInt8 := [112, 97, 99, 107, 101, 116, 115, 32, 49, 10, 115, 101, 110, 116, 32, 49, 10, 116, 111, 32, 48, 32, 48, 32, 49, 32, 49, 10]
theorem txt0_eq : txtL [an0] = txt0 := by decide +kernel
theorem fpRow {Γf : List Asn} {e : TypeId} {sz m : Nat} {v : Value} {xs : List Value} (h : rowN e sz v m xs ∈ Γf) : ∀ A, A ∈ [rdN v m xs] → ∃ B, B ∈ Γf ∧ ∀ g, A.fp g → B.fp g := fun A hA => by
  rw [List.mem_singleton.1 hA]; exact ⟨_, h, fun g hg => hg.2⟩
theorem cutL_idem (l : List An) : cutL (cutL l) = cutL l := by
  unfold cutL
  rw [List.take_of_length_le (l := (l.take 30).map cutN) (by rw [List.length_map, List.length_take]; omega), List.map_map]
  refine List.map_congr_left fun a _ => ?_
  show cutN (cutN a) = cutN a
  unfold cutN
  simp
theorem cutL_len (l : List An) : (cutL l).length ≤ 30 := by unfold cutL; rw [List.length_map, List.length_take]; omega
theorem cutL_ln {l : List An} : ∀ a ∈ cutL l, a.ln ≤ 60 := fun a ha => by
  unfold cutL at ha
  obtain ⟨b, _, rfl⟩ := List.mem_map.1 ha
  unfold cutN
  exact Nat.min_le_left _ _
theorem pl_len {R : List AR} {l : List An} (h : plL R = l) : R.length = l.length := by rw [← h]; unfold plL; rw [List.length_map]
theorem pl_ln {R : List AR} {l : List An} (h : plL R = l) (hl : ∀ a ∈ l, a.ln ≤ 60) : ∀ r ∈ R, r.a.ln ≤ 60 := fun r hr => hl r.a (by rw [← h]; exact List.mem_map.2 ⟨r, hr, rfl⟩)
theorem ars_one (r : AR) : ars [r] = flat (anC r) := by unfold ars; simp
theorem packetsR_t (gR mW mE mT : Nat) (C E : LN) (T : LT) (l : List An) (hrep : Rep l C E T) (hl : l.length ≤ 1000) : Triple Tryd.prog 12 #[pB0 gR] [bx gR 52 (rpC mW mE mT), mp whM mW C] (RTurns (.int .i64 (l.countP cntA : Nat)) [bx gR 52 (rpC mW mE mT), mp whM mW C]) := fun w hw ha => by
  obtain ⟨es, clock, _, _, _, _, h1, h2⟩ := hw (mp whM mW C) (List.mem_cons_of_mem _ (List.mem_cons_self ..))
  have := packets_t gR mW mE mT C (rep_all hrep h1 hl).1
  rw [hrep.sw] at this
  exact this w hw ha
def RTalR (gR mW mE mT : Nat) (T : LT) (l : List An) : Value → List Asn → Prop := fun v Γ => v.oneCell' = true ∧ Γ = [bx gR 52 (rpC mW mE mT), mp toM mT T, rowN 31 4 v (talL l).length (tls (talL l))] ∧ sumT (talL l) = (whyN l 1 : Nat)
open Go.RowKit
set_option linter.unusedSimpArgs false
set_option linter.unusedVariables false
set_option maxRecDepth 20000
set_option maxHeartbeats 4000000
attribute [local irreducible] WPc WPl WPq ReadR OpT BinR HasS bx rdN rowN Take Takes Prov Triple ResF BuildP Done ag Int.decLt Int.decLe Int.instDecidableEq
attribute [local irreducible] mp rmp rg rgo mput mget mfind mdel mhas tls whysL errsL talL lineW lineE lineT lineP nextE iterE wsA nameL txtL
theorem lives_t : Triple Tryd.prog 13 #[] [tP, tS] (RVal (.bool true)) := by
  refine Triple.enter Tryd.func13 rfl Tryd.ntmps13 rfl (fun W => ?_)
  dsimp only [argsF, Nat.reduceAdd]
  repeat' (first
   | refine WPl.nil ?_ | refine WPq.then ?_ | refine WPq.thenR ?_ | refine WPq.thenE ?_ | refine WPq.blockN ?_ | refine WPq.blockR ?_ | refine WPq.blockE ?_ | refine WPq.blockO rfl ?_ | refine WPc.seq ?_ | refine WPc.block ?_ | refine WPc.ret ?_ | refine WPc.exit ?_ | refine WPc.skip ?_ | refine WPc.region ?_
   | (refine isCond ?_; first | refine WPc.cT ?_ | refine WPc.cF ?_ | (refine WPc.cQ (fun hc => ?_) (fun hc => ?_) <;> try exact prA))
   | (refine isC 3 ?_; refine WPl.cXs (rnew_t) fun v3 Γ1 hR => ?_; (obtain ⟨gR, mW, mE, mT, rfl, rfl⟩ := hR); (try dsimp only [putF, List.cons_append, List.nil_append]))
   | (refine isD 5 ?_; refine WPl.row .nil rfl rfl rfl (OpT.buildSlice (m := 1) (vs := u8s [1]) evpA oneA rfl rfl) fun v5 hv5 => ?_)
   | (refine isOp ?_; first | refine WPl.rd ?_ | refine WPl.sk ?_ | refine WPl.rdB ?_)
   | (show WPl _ _ _ _ _ _ _ (⟨_, .indexAddr _ _ _, _, _, _, _⟩ :: _) _; refine WPl.rdX (ReadR.indexE rfl rfl hasA (by first | assumption | omega)) ?_)
   | (show WPl _ _ _ _ _ _ _ (⟨_, .fieldAddr _ _ _, _, _, _, _⟩ :: _) _; refine WPl.rdX (ReadR.fieldE rfl hasA (by first | assumption | omega)) ?_)
   | (show WPl _ _ _ _ _ _ _ (⟨_, .load _ _, _, _, _, _⟩ :: _) _; first | refine WPl.rdX (ReadR.loadE rfl hasA (by assumption)) ?_ | refine WPl.rdX (ReadR.loadES (by assumption) (by first | assumption | omega) rfl hasA) ?_)
   | (show WPl _ _ _ _ _ _ _ (⟨_, .slice _ _ _ _ _, _, _, _, _⟩ :: _) _; first | refine WPl.rdX (ReadR.sliceH rfl rfl hasA (by omega)) ?_ | refine WPl.rdX (ReadR.sliceL rfl rfl hasA (by omega)) ?_ | refine WPl.rdX (ReadR.sliceLH rfl rfl rfl hasA (by omega) (by omega)) ?_)
   | (refine WPl.spQ (fun hc => ?_) (fun hc => ?_) <;> try exact prA)
   | fail)
  refine WPl.slOf (ty := 5) memA fun ad cp hv => ?_
  subst hv
  have hW0 : ∀ r ∈ [(⟨ad, cp, an0, [1]⟩ : AR)], anW r := fun r hr => by
    rw [List.mem_singleton.1 hr]
    exact ⟨in64_of (show -9000000000000000000 ≤ (1 : Int) by omega) (show (1 : Int) ≤ 9000000000000000000 by omega), in64_of (show -9000000000000000000 ≤ (0 : Int) by omega) (show (0 : Int) ≤ 9000000000000000000 by omega), in64_of (show -9000000000000000000 ≤ (0 : Int) by omega) (show (0 : Int) ≤ 9000000000000000000 by omega), in64_of (show -9000000000000000000 ≤ (0 : Int) by omega) (show (0 : Int) ≤ 9000000000000000000 by omega)⟩
  have hp1 : plL [(⟨ad, cp, an0, [1]⟩ : AR)] = [an0] := rfl
  have c9 := fun v8 => add_t gR mW mE mT v8 [(⟨ad, cp, an0, [1]⟩ : AR)] [] [] [] hW0 [] rep_nil (by simp) (fun r hr => by rw [List.mem_singleton.1 hr]; exact (show 1 ≤ 60 by decide)) (by simp)
  simp only [hp1, ars_one] at c9
  have hcn : [an0].countP cntA = 1 := by decide +kernel
  rw [hcn] at c9
  have c14 := fun C E T (h : Rep [an0] C E T) => packetsR_t gR mW mE mT C E T [an0] h (by simp)
  rw [hcn] at c14
  have c19 := fun C E T (h : Rep [an0] C E T) => textM_t gR mW mE mT C E T [an0] h (by simp) (fun a ha => by rw [List.mem_singleton.1 ha]; exact (show 1 ≤ 60 by decide)) (fun a ha => by rw [List.mem_singleton.1 ha]; exact in64_of (show -9000000000000000000 ≤ (0 : Int) by omega) (show (0 : Int) ≤ 9000000000000000000 by omega)) (fun a ha => by rw [List.mem_singleton.1 ha]; exact ⟨in64_of (show -9000000000000000000 ≤ (0 : Int) by omega) (show (0 : Int) ≤ 9000000000000000000 by omega), in64_of (show -9000000000000000000 ≤ (0 : Int) by omega) (show (0 : Int) ≤ 9000000000000000000 by omega)⟩)
  rw [txt0_eq] at c19
  repeat' (first
   | refine WPl.nil ?_ | refine WPq.then ?_ | refine WPq.thenR ?_ | refine WPq.thenE ?_ | refine WPq.blockN ?_ | refine WPq.blockR ?_ | refine WPq.blockE ?_ | refine WPq.blockO rfl ?_ | refine WPc.seq ?_ | refine WPc.block ?_ | refine WPc.ret ?_ | refine WPc.exit ?_ | refine WPc.skip ?_ | refine WPc.region ?_
   | (refine isCond ?_; first | refine WPc.cT ?_ | refine WPc.cF ?_ | (refine WPc.cQ (fun hc => ?_) (fun hc => ?_) <;> try exact prA))
   | (refine isD 8 ?_; refine WPl.litS1 (ds := anC ⟨ad, cp, an0, [1]⟩) fun v8 hv8 => ?_)
   | (refine isC 9 ?_; refine WPl.cM (c9 _) ?_ (fun vq Γ1 hR => ?_) (hΔ := provsR2); exact fpRow memA; obtain ⟨C, E, T, rfl, rfl, hrep⟩ := hR; (try dsimp only [putF, List.cons_append, List.nil_append]))
   | (refine isD 11 ?_; refine WPl.rdX (ReadR.binE rfl rfl BinR.eql (congrArg Value.bool (decide_eq_true rfl))) ?_)
   | (refine isC 14 ?_; refine WPl.cTs ((c14 _ _ _ hrep)) ?_; (try dsimp only [putF, List.cons_append, List.nil_append]))
   | (refine isD 15 ?_; refine WPl.rdX (ReadR.binE rfl rfl BinR.eql (congrArg Value.bool (decide_eq_true rfl))) ?_)
   | (refine isC 19 ?_; refine WPl.cM (c19 _ _ _ hrep) ?_ (fun vq Γ1 hR => ?_) (hΔ := provsR2); exact fpTS memA memA; obtain ⟨rfl, rfl⟩ := hR; (try dsimp only [putF, List.cons_append, List.nil_append]))
   | (refine isD 20 ?_; refine WPl.rdX (ReadR.binE rfl rfl (BinR.sEql (a := txt0) (b := txt0)) (congrArg Value.bool (decide_eq_true rfl))) ?_)
   | (refine isOp ?_; first | refine WPl.rd ?_ | refine WPl.sk ?_ | refine WPl.rdB ?_)
   | (show WPl _ _ _ _ _ _ _ (⟨_, .indexAddr _ _ _, _, _, _, _⟩ :: _) _; refine WPl.rdX (ReadR.indexE rfl rfl hasA (by first | assumption | omega)) ?_)
   | (show WPl _ _ _ _ _ _ _ (⟨_, .fieldAddr _ _ _, _, _, _, _⟩ :: _) _; refine WPl.rdX (ReadR.fieldE rfl hasA (by first | assumption | omega)) ?_)
   | (show WPl _ _ _ _ _ _ _ (⟨_, .load _ _, _, _, _, _⟩ :: _) _; first | refine WPl.rdX (ReadR.loadE rfl hasA (by assumption)) ?_ | refine WPl.rdX (ReadR.loadES (by assumption) (by first | assumption | omega) rfl hasA) ?_)
   | (show WPl _ _ _ _ _ _ _ (⟨_, .slice _ _ _ _ _, _, _, _, _⟩ :: _) _; first | refine WPl.rdX (ReadR.sliceH rfl rfl hasA (by omega)) ?_ | refine WPl.rdX (ReadR.sliceL rfl rfl hasA (by omega)) ?_ | refine WPl.rdX (ReadR.sliceLH rfl rfl rfl hasA (by omega) (by omega)) ?_)
   | (refine WPl.spQ (fun hc => ?_) (fun hc => ?_) <;> try exact prA)
   | fail)
  all_goals try (first | exact WPq.dTp | exact WPq.dTs | exact WPq.dV | exact WPq.dR | exact WPq.dR2 | exact WPq.dH | exact WPq.dBH | exact WPq.dT)
end Go.Proofs.YtagedgcdonodfaaDoor
/- Report: a report that is none: contract. -/
namespace Go.Proofs.YtagedgcdonodfaaDoor
set_option linter.unusedVariables false
open Go.RowKit
set_option linter.unusedSimpArgs false
set_option linter.unusedVariables false
set_option maxRecDepth 20000
set_option maxHeartbeats 4000000
attribute [local irreducible] WPc WPl WPq ReadR OpT BinR HasS bx rdN rowN Take Takes Prov Triple ResF BuildP Done ag Int.decLt Int.decLe Int.instDecidableEq
attribute [local irreducible] mp rmp rg rgo mput mget mfind mdel mhas tls whysL errsL talL lineW lineE lineT lineP nextE iterE wsA nameL txtL ars gbag rdA
end Go.Proofs.YtagedgcdonodfaaDoor
/- A list of answers (law 30), opened; the tables, as they are laid. -/
namespace Go.Proofs.YtagedgcdonodfaaDoor
open Go.ChangeShapes Go.WideShapes Go.ChangeAt Go.RowKit
set_option linter.unusedSimpArgs false
set_option linter.unusedVariables false
section
variable {H : Type} {enc : TypeId × Value → H} {P : Program} {W : World}
theorem fitsR_bool {ks : List KV} : ∀ {vs : List Value}, FitsV W (.k none :: ks) vs → ∃ (b : Bool) (r : List Value), vs = .bool b :: r ∧ FitsV W ks r
  | v :: r, h => by obtain ⟨⟨b, hb⟩, h⟩ := h; exact ⟨b, r, by rw [hb], h⟩
theorem fitsR_i64 {ks : List KV} : ∀ {vs : List Value}, FitsV W (.k (some .i64) :: ks) vs → ∃ (n : Int) (r : List Value), vs = .int .i64 n :: r ∧ in64 n ∧ FitsV W ks r
  | v :: r, h => by
    obtain ⟨⟨n, rfl, hw⟩, h⟩ := h
    have := bounds_i64 hw
    exact ⟨n, r, rfl, ⟨by omega, by omega⟩, h⟩
theorem fitsR_s {k : IntKind} {ks : List KV} : ∀ {vs : List Value}, FitsV W (.s k :: ks) vs → ∃ (v : Value) (r : List Value), vs = v :: r ∧ ∃ xs : List Int, (rdN v xs.length (xs.map (Value.int k))).holds W ∧ (∀ n ∈ xs, (Lit.int k n).wf = true) ∧ FitsV W ks r
  | v :: r, h => by
    obtain ⟨⟨xs, h1, h2⟩, h⟩ := h
    exact ⟨v, r, rfl, xs, h1, h2, h⟩
theorem fitsR_nil : ∀ {vs : List Value}, FitsV W [] vs → vs = []
  | [], _ => rfl
abbrev ansKs : List KV := [.k (some .i64), .s .u8, .k (some .i64), .k (some .i64), .k none, .k (some .i64), .k (some .i64), .k (some .i64), .k (some .i64), .k none]
theorem fits_an {es : List Value} (h : FitsV W ansKs es) : ∃ r : AR, es = flat (anC r) ∧ anW r ∧ r.d.length = r.a.ln ∧ (rb (vA r) r.d).holds W := by
  obtain ⟨why, r1, rfl, b1, i1⟩ := fitsR_i64 h
  obtain ⟨v, r2, rfl, xs, h3, h4, i2⟩ := fitsR_s i1
  obtain ⟨sv, r3, rfl, b3, i3⟩ := fitsR_i64 i2
  obtain ⟨bk, r4, rfl, b4, i4⟩ := fitsR_i64 i3
  obtain ⟨nw, r5, rfl, i5⟩ := fitsR_bool i4
  obtain ⟨er, r6, rfl, b6, i6⟩ := fitsR_i64 i5
  obtain ⟨e2, r7, rfl, b7, i7⟩ := fitsR_i64 i6
  obtain ⟨n, r8, rfl, b8, i8⟩ := fitsR_i64 i7
  obtain ⟨m, r9, rfl, b9, i9⟩ := fitsR_i64 i8
  obtain ⟨on, r10, rfl, i10⟩ := fitsR_bool i9
  obtain rfl := fitsR_nil i10
  obtain ⟨ad, cp, rfl⟩ : ∃ ad cp, v = .slice ad xs.length cp := by
    rcases h3 with ⟨hv, hn, _⟩ | ⟨a, c, hv, _⟩
    · exact ⟨none, 0, by rw [hv, hn]⟩
    · exact ⟨some a, c, hv⟩
  have e : xs.map (Value.int .u8) = u8s (xs.map fun n => UInt8.ofNat n.toNat) := by
    unfold u8s
    rw [List.map_map]
    apply List.map_congr_left
    intro n hn
    have hb := bounds_u8 (h4 n hn)
    show Value.int .u8 n = Value.int .u8 (((UInt8.ofNat n.toNat).toNat : Nat) : Int)
    have h3 : (UInt8.ofNat n.toNat).toNat = n.toNat % 256 := by simp
    rw [h3, show ((n.toNat % 256 : Nat) : Int) = n by omega]
  refine ⟨⟨ad, cp, ⟨why, xs.length, sv, bk, nw, er, e2, n, m, on⟩, xs.map fun n => UInt8.ofNat n.toNat⟩, rfl, ⟨b1, b3, b4, b6⟩, by rw [List.length_map], ?_⟩
  show (rdN (.slice ad xs.length cp) (xs.map fun n => UInt8.ofNat n.toNat).length (u8s (xs.map fun n => UInt8.ofNat n.toNat))).holds W
  rw [← e, List.length_map]
  exact h3
theorem open_ans {v : Value} {d : DataW H} {p : List MemPlace} {base : Nat} {t e : TypeId} (ht : P.underlying t = some (.slice e)) (hk : flatV P 8 e = some ansKs) (hc : P.cellsOf e = 10) (hval : Value.okWide P W .any base t v)
    (h : DataW.Trod enc P W 0 (fun _ => true) true t v d p) : ∃ R : List AR, (rdN v R.length (ars R)).holds W ∧ (rdA R).holds W ∧ (∀ r ∈ R, anW r) ∧ ∀ r ∈ R, r.d.length = r.a.ln := by
  obtain ⟨l, h1, h2⟩ := open_listV (q := fun r : AR => anW r ∧ r.d.length = r.a.ln ∧ (rb (vA r) r.d).holds W) anC (fun es he => fits_an he) 8 ht hk hc (by decide) hval h
  exact ⟨l, h1, fun r hr => (h2 r hr).2.2, fun r hr => (h2 r hr).1, fun r hr => (h2 r hr).2.1⟩
theorem tab_of_reads {name : String} {k : IntKind} {zs : List Int} {t e : TypeId} {n : Nat}
    (hgt : ((P.globalNamed name).bind fun g => (P.globals[g]?).map (·.type)) = some t) (ht : P.underlying t = some (.array n e)) (he : P.underlying e = some (.int k)) (hce : P.cellsOf e = 1) (hct : P.cellsOf t = n)
    {l : List (String × DataW Unit)} (h : laidMet P l W) (hm : (name, Lib.tabData k zs) ∈ l) : Lib.TabIs P W name k zs := by
  obtain ⟨g', t', cs, fuel, p, hg', ht', hvar, hd⟩ := Lib.laidMet.reads h hm
  rw [hg', Option.bind_some, ht'] at hgt
  obtain rfl := Option.some.inj hgt
  unfold Lib.TabIs
  rw [hvar, ← Lib.cells_of_tab ht he hce hct hd]
end
end Go.Proofs.YtagedgcdonodfaaDoor
/- Closed facts of the program, each once. -/
namespace Go.Proofs.YtagedgcdonodfaaDoor
open Go.ChangeShapes Go.WideShapes Go.ChangeAt Go.RowKit
theorem Tryd.enters : Tryd.prog.mayEnter = true := by kernel_rfl
end Go.Proofs.YtagedgcdonodfaaDoor
/- Report: counts: contract. -/
namespace Go.Proofs.YtagedgcdonodfaaDoor
set_option linter.unusedVariables false
theorem fpIs {P' Q' : Program} {Γf : List Asn} {ty : TypeId} {sz m : Nat} {v : Value} {xs : List Value} {n n2 : String} {k k2 : IntKind} {zs zs2 : List Int} (h0 : rowN ty sz v m xs ∈ Γf) (h : tabA P' n k zs ∈ Γf) (h2 : tabA Q' n2 k2 zs2 ∈ Γf) : ∀ A, A ∈ [rdN v m xs, tabA P' n k zs, tabA Q' n2 k2 zs2] → ∃ B, B ∈ Γf ∧ ∀ g, A.fp g → B.fp g := fun A hA => by
  rcases List.mem_cons.1 hA with rfl | hA
  · exact ⟨_, h0, fun g hg => hg.2⟩
  · exact fpTS h h2 A hA
theorem isM_t (gR mW mE mT : Nat) (C E : LN) (T : LT) (vl : Value) (R : List AR) (k e : Int) (hR : ∀ r ∈ R, anW r) (hl : R.length ≤ 500) (hln : ∀ r ∈ R, r.a.ln ≤ 60) (l : List An) (hlR : plL R = l) (hrep : Rep l C E T) (hk64 : in64 k) (he64 : in64 e) :
    Triple Tryd.prog 15 #[pB0 gR, vl, .int .i64 k, .int .i64 e] ([rdN vl R.length (ars R), tP, tS] ++ rpA gR mW mE mT C E T) (RTurns (.bool true) (rpA gR mW mE mT C E T)) :=
  (is_t gR mW mE mT C E T vl R k e hR hl hln (by rw [hlR]; exact hrep) hk64 he64).permT (List.perm_append_comm (l₁ := [rdN vl R.length (ars R), tP, tS]) (l₂ := rpA gR mW mE mT C E T))
open Go.RowKit
set_option linter.unusedSimpArgs false
set_option linter.unusedVariables false
set_option maxRecDepth 20000
set_option maxHeartbeats 4000000
attribute [local irreducible] WPc WPl WPq ReadR OpT BinR HasS bx rdN rowN Take Takes Prov Triple ResF BuildP Done ag Int.decLt Int.decLe Int.instDecidableEq
attribute [local irreducible] mp rmp rg rgo mput mget mfind mdel mhas tls whysL errsL talL lineW lineE lineT lineP nextE iterE wsA nameL txtL ars gbag rdA cutL
end Go.Proofs.YtagedgcdonodfaaDoor
/- Report: two reports merged: contract. -/
namespace Go.Proofs.YtagedgcdonodfaaDoor
set_option linter.unusedVariables false
theorem plL_app (A B : List AR) : plL (A ++ B) = plL A ++ plL B := by unfold plL; rw [List.map_append]
theorem ars_app (A B : List AR) : ars A ++ ars B = ars (A ++ B) := by unfold ars; rw [List.map_append, List.flatten_append]
theorem ars_one1 (R : List AR) : ∀ u ∈ ars R, u.oneCell' = true := fun u hu => by
  unfold ars at hu
  obtain ⟨L, hL, hu⟩ := List.mem_flatten.1 hu
  obtain ⟨r, _, rfl⟩ := List.mem_map.1 hL
  exact (anC_fok r).one u hu
theorem fpMrg {Γf : List Asn} {g m1 m2 m3 : Nat} {t : TypeId} {c : Ch} {C E : LN} {T : LT} (h0 : bx g t c ∈ Γf) (h1 : mp whM m1 C ∈ Γf) (h2 : mp whM m2 E ∈ Γf) (h3 : mp toM m3 T ∈ Γf) : ∀ A, A ∈ [rbx g t c, rmp whM m1 C, rmp whM m2 E, rmp toM m3 T] → ∃ B, B ∈ Γf ∧ ∀ x, A.fp x → B.fp x := fun A hA => by
  simp only [List.mem_cons, List.not_mem_nil, or_false] at hA
  rcases hA with rfl | rfl | rfl | rfl
  · exact ⟨_, h0, fun x hx => hx⟩
  · exact ⟨_, h1, fun x hx => hx⟩
  · exact ⟨_, h2, fun x hx => hx⟩
  · exact ⟨_, h3, fun x hx => hx⟩
theorem merge2M_t (gR mW mE mT gS mW2 mE2 mT2 : Nat) (C E C2 E2 : LN) (T T2 : LT) (l l2 : List An) (hrep : Rep l C E T) (hrep2 : Rep l2 C2 E2 T2) (hlen : l.length ≤ 500) (hlen2 : l2.length ≤ 500) (hln : ∀ a ∈ l, a.ln ≤ 60) (hln2 : ∀ a ∈ l2, a.ln ≤ 60) :
    Triple Tryd.prog 16 #[pB0 gR, pB0 gS] ([rbx gS 52 (rpC mW2 mE2 mT2), rmp whM mW2 C2, rmp whM mE2 E2, rmp toM mT2 T2] ++ rpA gR mW mE mT C E T) (RMrg gR mW mE mT (l ++ l2)) :=
  (merge2_t gR mW mE mT gS mW2 mE2 mT2 C E C2 E2 T T2 l l2 hrep hrep2 hlen hlen2 hln hln2).permT List.perm_append_comm
open Go.RowKit
set_option linter.unusedSimpArgs false
set_option linter.unusedVariables false
set_option maxRecDepth 20000
set_option maxHeartbeats 4000000
attribute [local irreducible] WPc WPl WPq ReadR OpT BinR HasS bx rdN rowN Take Takes Prov Triple ResF BuildP Done ag Int.decLt Int.decLe Int.instDecidableEq
attribute [local irreducible] mp rmp rg rgo mput mget mfind mdel mhas tls whysL errsL talL lineW lineE lineT lineP nextE iterE wsA nameL txtL ars gbag rdA cutL
theorem merges_t (va : Value) (R : List AR) (hRW : ∀ r ∈ R, anW r) (hRd : ∀ r ∈ R, r.d.length = r.a.ln) (vb : Value) (R2 : List AR) (hRW2 : ∀ r ∈ R2, anW r) (hRd2 : ∀ r ∈ R2, r.d.length = r.a.ln) (k : Int) (hk64 : in64 k) : Triple Tryd.prog 5 #[va, vb, .int .i64 k] [rdN va R.length (ars R), rdA R, rdN vb R2.length (ars R2), rdA R2, tP, tS] (RVal (.bool true)) := by
  have c11 := few_t va R hRW hRd
  have c13 := few_t vb R2 hRW2 hRd2
  obtain ⟨l, hl⟩ : ∃ l, l = cutL (plL R) := ⟨_, rfl⟩
  rw [← hl] at c11
  obtain ⟨l2, hl2⟩ : ∃ l2, l2 = cutL (plL R2) := ⟨_, rfl⟩
  rw [← hl2] at c13
  have hl30 : l.length ≤ 30 := by rw [hl]; exact cutL_len _
  have hln : ∀ a ∈ l, a.ln ≤ 60 := by rw [hl]; exact cutL_ln
  have hid : cutL l = l := by rw [hl]; exact cutL_idem _
  have hl230 : l2.length ≤ 30 := by rw [hl2]; exact cutL_len _
  have hln2 : ∀ a ∈ l2, a.ln ≤ 60 := by rw [hl2]; exact cutL_ln
  have hid2 : cutL l2 = l2 := by rw [hl2]; exact cutL_idem _
  have hln12 : ∀ a ∈ l ++ l2, a.ln ≤ 60 := fun a ha => (List.mem_append.1 ha).elim (hln a) (hln2 a)
  have hlen12 : (l ++ l2).length ≤ 60 := by rw [List.length_append]; omega
  have c19 : ∀ (gR mW mE mT : Nat) (vf : Value) (S : List AR), plL S = l → (∀ r ∈ S, anW r) → Triple Tryd.prog 8 #[pB0 gR, vf] ([rdN vf S.length (ars S)] ++ rpA gR mW mE mT [] [] []) (RAdd gR mW mE mT l (l.countP cntA)) := fun gR mW mE mT vf S hp hw => by
    have := add_t gR mW mE mT vf S [] [] [] hw [] rep_nil (by rw [pl_len hp]; simp; omega) (pl_ln hp hln) (by simp)
    rw [hp] at this
    exact this
  have c23 : ∀ (gR mW mE mT : Nat) (vf : Value) (S : List AR), plL S = l2 → (∀ r ∈ S, anW r) → Triple Tryd.prog 8 #[pB0 gR, vf] ([rdN vf S.length (ars S)] ++ rpA gR mW mE mT [] [] []) (RAdd gR mW mE mT l2 (l2.countP cntA)) := fun gR mW mE mT vf S hp hw => by
    have := add_t gR mW mE mT vf S [] [] [] hw [] rep_nil (by rw [pl_len hp]; simp; omega) (pl_ln hp hln2) (by simp)
    rw [hp] at this
    exact this
  have f18 : ∀ (v : Value) (S : List AR), plL S = l → (∀ r ∈ S, anW r) → (∀ r ∈ S, r.d.length = r.a.ln) → Triple Tryd.prog 9 #[v] [rdN v S.length (ars S), rdA S] (RFewA l) := fun v S hp hw hd => by
    have := few_t v S hw hd
    rw [hp, hid] at this
    exact this
  have f22 : ∀ (v : Value) (S : List AR), plL S = l2 → (∀ r ∈ S, anW r) → (∀ r ∈ S, r.d.length = r.a.ln) → Triple Tryd.prog 9 #[v] [rdN v S.length (ars S), rdA S] (RFewA l2) := fun v S hp hw hd => by
    have := few_t v S hw hd
    rw [hp, hid2] at this
    exact this
  have c26 := fun gR mW mE mT gS mW2 mE2 mT2 C E C2 E2 T T2 (h : Rep l C E T) (h2 : Rep l2 C2 E2 T2) => merge2M_t gR mW mE mT gS mW2 mE2 mT2 C E C2 E2 T T2 l l2 h h2 (by omega) (by omega) hln hln2
  have c48 := fun gR mW mE mT C E T (h : Rep (l ++ l2) C E T) => mergeS_t gR mW mE mT C E T (l ++ l2) h (by omega) hln12
  refine Triple.enter Tryd.func5 rfl Tryd.ntmps5 rfl (fun W => ?_)
  dsimp only [argsF, Nat.reduceAdd]
  repeat' (first
   | refine WPl.nil ?_ | refine WPq.then ?_ | refine WPq.thenR ?_ | refine WPq.thenE ?_ | refine WPq.blockN ?_ | refine WPq.blockR ?_ | refine WPq.blockE ?_ | refine WPq.blockO rfl ?_ | refine WPc.seq ?_ | refine WPc.block ?_ | refine WPc.ret ?_ | refine WPc.exit ?_ | refine WPc.skip ?_ | refine WPc.region ?_
   | (refine isCond ?_; first | refine WPc.cT ?_ | refine WPc.cF ?_ | (refine WPc.cQ (fun hc => ?_) (fun hc => ?_) <;> try exact prA))
   | (refine isC 11 ?_; refine WPl.cX (c11) (fun v11 Γ1 hR => ?_) (hΔ := provsK); obtain ⟨S11, hv11, rfl, hp11, hw11, hd11⟩ := hR; (try dsimp only [putF, List.cons_append, List.nil_append]))
   | (refine isC 13 ?_; refine WPl.cX (c13) (fun v13 Γ1 hR => ?_) (hΔ := provsK); obtain ⟨S13, hv13, rfl, hp13, hw13, hd13⟩ := hR; (try dsimp only [putF, List.cons_append, List.nil_append]))
   | (refine isC 14 ?_; refine WPl.cXs (rnew_t) fun v14 Γ1 hR => ?_; (obtain ⟨gRa, mWa, mEa, mTa, rfl, rfl⟩ := hR); (try dsimp only [putF, List.cons_append, List.nil_append]))
   | (refine isC 15 ?_; refine WPl.cXs (rnew_t) fun v15 Γ1 hR => ?_; (obtain ⟨gRb, mWb, mEb, mTb, rfl, rfl⟩ := hR); (try dsimp only [putF, List.cons_append, List.nil_append]))
   | (refine isC 18 ?_; refine WPl.cX (f18 _ _ hp11 hw11 hd11) (fun v18 Γ1 hR => ?_) (hΔ := provsK); obtain ⟨S18, hv18, rfl, hp18, hw18, hd18⟩ := hR; (try dsimp only [putF, List.cons_append, List.nil_append]))
   | (refine isC 19 ?_; refine WPl.cM (c19 _ _ _ _ _ _ hp18 hw18) ?_ (fun vq Γ1 hR => ?_) (hΔ := provsR2); exact fpRow memA; obtain ⟨Ca, Ea, Ta, rfl, rfl, hrepa⟩ := hR; (try dsimp only [putF, List.cons_append, List.nil_append]))
   | (refine isC 22 ?_; refine WPl.cX (f22 _ _ hp13 hw13 hd13) (fun v22 Γ1 hR => ?_) (hΔ := provsK); obtain ⟨S22, hv22, rfl, hp22, hw22, hd22⟩ := hR; (try dsimp only [putF, List.cons_append, List.nil_append]))
   | (refine isC 23 ?_; refine WPl.cM (c23 _ _ _ _ _ _ hp22 hw22) ?_ (fun vq Γ1 hR => ?_) (hΔ := provsR2); exact fpRow memA; obtain ⟨Cb, Eb, Tb, rfl, rfl, hrepb⟩ := hR; (try dsimp only [putF, List.cons_append, List.nil_append]))
   | (refine isC 26 ?_; refine WPl.cM (c26 _ _ _ _ _ _ _ _ _ _ _ _ _ _ hrepa hrepb) ?_ (fun vq Γ1 hR => ?_) (hΔ := provsM); exact fpMrg memA memA memA memA; obtain ⟨Cc, Ec, Tc, rfl, rfl, hrepc⟩ := hR; (try dsimp only [putF, List.cons_append, List.nil_append]))
   | (refine isC 28 ?_; refine WPl.cV ((merge1_t _)) ?_)
   | (refine isD 29 ?_; refine WPl.litS0 fun v29 hv29 => ?_)
   | (refine isOp ?_; first | refine WPl.rd ?_ | refine WPl.sk ?_ | refine WPl.rdB ?_)
   | (show WPl _ _ _ _ _ _ _ (⟨_, .indexAddr _ _ _, _, _, _, _⟩ :: _) _; refine WPl.rdX (ReadR.indexE rfl rfl hasA (by first | assumption | omega)) ?_)
   | (show WPl _ _ _ _ _ _ _ (⟨_, .fieldAddr _ _ _, _, _, _, _⟩ :: _) _; refine WPl.rdX (ReadR.fieldE rfl hasA (by first | assumption | omega)) ?_)
   | (show WPl _ _ _ _ _ _ _ (⟨_, .load _ _, _, _, _, _⟩ :: _) _; first | refine WPl.rdX (ReadR.loadE rfl hasA (by assumption)) ?_ | refine WPl.rdX (ReadR.loadES (by assumption) (by first | assumption | omega) rfl hasA) ?_)
   | (show WPl _ _ _ _ _ _ _ (⟨_, .slice _ _ _ _ _, _, _, _, _⟩ :: _) _; first | refine WPl.rdX (ReadR.sliceH rfl rfl hasA (by omega)) ?_ | refine WPl.rdX (ReadR.sliceL rfl rfl hasA (by omega)) ?_ | refine WPl.rdX (ReadR.sliceLH rfl rfl rfl hasA (by omega) (by omega)) ?_)
   | (refine WPl.spQ (fun hc => ?_) (fun hc => ?_) <;> try exact prA)
   | fail)
  have n11 := ars_len S11
  have n13 := ars_len S13
  have g11 := pl_len hp11
  have g13 := pl_len hp13
  have e1 : ([] : List Value) ++ ars S11 ++ ars S13 = ars (S11 ++ S13) := by rw [List.nil_append, ars_app]
  have e2 : 0 + S11.length + S13.length = (S11 ++ S13).length := by rw [List.length_append, Nat.zero_add]
  have hp33 : plL (S11 ++ S13) = l ++ l2 := by rw [plL_app, hp11, hp13]
  have hw33 : ∀ r ∈ S11 ++ S13, anW r := fun r hr => (List.mem_append.1 hr).elim (hw11 r) (hw13 r)
  have hll13 : S13.length ≤ 500 := by omega
  have hll33 : (S11 ++ S13).length ≤ 500 := by rw [List.length_append]; omega
  have i5 : in64 5 := in64_of (by omega) (by omega)
  have c37 := fun C E T v (h : Rep (l ++ l2) C E T) => isM_t gRa mWa mEa mTa C E T v (S11 ++ S13) k 5 hw33 hll33 (pl_ln hp33 hln12) (l ++ l2) hp33 h hk64 i5
  have c43 := fun C E T v (h : Rep l2 C E T) => isM_t gRb mWb mEb mTb C E T v S13 k 5 hw13 hll13 (pl_ln hp13 hln2) l2 hp13 h hk64 i5
  have e3 : ([] : List Value) ++ ars (S11 ++ S13) ++ ars (S11 ++ S13) = ars ((S11 ++ S13) ++ (S11 ++ S13)) := by rw [List.nil_append, ars_app]
  have e4 : 0 + (S11 ++ S13).length + (S11 ++ S13).length = ((S11 ++ S13) ++ (S11 ++ S13)).length := by simp only [List.length_append]; omega
  have hp54 : plL ((S11 ++ S13) ++ (S11 ++ S13)) = (l ++ l2) ++ (l ++ l2) := by rw [plL_app, hp33]
  have hw54 : ∀ r ∈ (S11 ++ S13) ++ (S11 ++ S13), anW r := fun r hr => (List.mem_append.1 hr).elim (hw33 r) (hw33 r)
  have hll54 : ((S11 ++ S13) ++ (S11 ++ S13)).length ≤ 500 := by simp only [List.length_append]; omega
  have hln54 : ∀ a ∈ (l ++ l2) ++ (l ++ l2), a.ln ≤ 60 := fun a ha => (List.mem_append.1 ha).elim (hln12 a) (hln12 a)
  have c56 := fun C E T v (h : Rep ((l ++ l2) ++ (l ++ l2)) C E T) => isM_t gRa mWa mEa mTa C E T v ((S11 ++ S13) ++ (S11 ++ S13)) k 5 hw54 hll54 (pl_ln hp54 hln54) ((l ++ l2) ++ (l ++ l2)) hp54 h hk64 i5
  have o11 := ars_one1 S11
  have o13 := ars_one1 S13
  have o33 := ars_one1 (S11 ++ S13)
  have n33 := ars_len (S11 ++ S13)
  repeat' (first
   | refine WPl.nil ?_ | refine WPq.then ?_ | refine WPq.thenR ?_ | refine WPq.thenE ?_ | refine WPq.blockN ?_ | refine WPq.blockR ?_ | refine WPq.blockE ?_ | refine WPq.blockO rfl ?_ | refine WPc.seq ?_ | refine WPc.block ?_ | refine WPc.ret ?_ | refine WPc.exit ?_ | refine WPc.skip ?_ | refine WPc.region ?_
   | (refine isCond ?_; first | refine WPc.cT ?_ | refine WPc.cF ?_ | (refine WPc.cQ (fun hc => ?_) (fun hc => ?_) <;> try exact prA))
   | (refine isD 31 ?_; refine WPl.appN (m := 0) (m2 := S11.length) (xs := []) (ys := ars S11) (by first | rfl | simp | omega | (simp; omega)) (by first | assumption | exact oneA1) (by first | omega | (simp; omega)) fun v31 hv31 => ?_)
   | (refine isD 33 ?_; refine WPl.appN (m := 0 + S11.length) (m2 := S13.length) (xs := [] ++ ars S11) (ys := ars S13) (by first | rfl | omega) (by assumption) (by omega) fun v33 hv33 => ?_; rw [e1, e2])
   | (refine isC 37 ?_; refine WPl.cM (c37 _ _ _ _ hrepc) ?_ (fun vq Γ1 hR => ?_) (hΔ := provsR2); exact fpIs memA memA memA; obtain ⟨rfl, rfl⟩ := hR; (try dsimp only [putF, List.cons_append, List.nil_append]))
   | (refine isC 43 ?_; refine WPl.cM (c43 _ _ _ _ hrepb) ?_ (fun vq Γ1 hR => ?_) (hΔ := provsR2); exact fpIs memA memA memA; obtain ⟨rfl, rfl⟩ := hR; (try dsimp only [putF, List.cons_append, List.nil_append]))
   | (refine isC 48 ?_; refine WPl.cXs (c48 _ _ _ _ _ _ _ hrepc) fun v48 Γ1 hR => ?_; obtain ⟨Cd, Ed, Td, rfl, rfl, hrepd⟩ := hR; (try dsimp only [putF, List.cons_append, List.nil_append]))
   | (refine isD 50 ?_; refine WPl.litS0 fun v50 hv50 => ?_)
   | (refine isD 52 ?_; refine WPl.appN (m := 0) (m2 := (S11 ++ S13).length) (xs := []) (ys := ars (S11 ++ S13)) n33 o33 (by omega) fun v52 hv52 => ?_)
   | (refine isD 54 ?_; refine WPl.appN (m := 0 + (S11 ++ S13).length) (m2 := (S11 ++ S13).length) (xs := [] ++ ars (S11 ++ S13)) (ys := ars (S11 ++ S13)) (by first | rfl | omega) (by assumption) (by omega) fun v54 hv54 => ?_; rw [e3, e4])
   | (refine isC 56 ?_; refine WPl.cM (c56 _ _ _ _ hrepd) ?_ (fun vq Γ1 hR => ?_) (hΔ := provsR2); exact fpIs memA memA memA; obtain ⟨rfl, rfl⟩ := hR; (try dsimp only [putF, List.cons_append, List.nil_append]))
   | (refine isC 58 ?_; refine WPl.cV lives_t ?_ (hΔ := provsR2))
   | (refine isOp ?_; first | refine WPl.rd ?_ | refine WPl.sk ?_ | refine WPl.rdB ?_)
   | (show WPl _ _ _ _ _ _ _ (⟨_, .indexAddr _ _ _, _, _, _, _⟩ :: _) _; refine WPl.rdX (ReadR.indexE rfl rfl hasA (by first | assumption | omega)) ?_)
   | (show WPl _ _ _ _ _ _ _ (⟨_, .fieldAddr _ _ _, _, _, _, _⟩ :: _) _; refine WPl.rdX (ReadR.fieldE rfl hasA (by first | assumption | omega)) ?_)
   | (show WPl _ _ _ _ _ _ _ (⟨_, .load _ _, _, _, _, _⟩ :: _) _; first | refine WPl.rdX (ReadR.loadE rfl hasA (by assumption)) ?_ | refine WPl.rdX (ReadR.loadES (by assumption) (by first | assumption | omega) rfl hasA) ?_)
   | (show WPl _ _ _ _ _ _ _ (⟨_, .slice _ _ _ _ _, _, _, _, _⟩ :: _) _; first | refine WPl.rdX (ReadR.sliceH rfl rfl hasA (by omega)) ?_ | refine WPl.rdX (ReadR.sliceL rfl rfl hasA (by omega)) ?_ | refine WPl.rdX (ReadR.sliceLH rfl rfl rfl hasA (by omega) (by omega)) ?_)
   | (refine WPl.spQ (fun hc => ?_) (fun hc => ?_) <;> try exact prA)
   | fail)
  exact WPq.dV
end Go.Proofs.YtagedgcdonodfaaDoor
/- ReportMerges, lifted: for every input, and the tables as they are laid, the law returns true. -/
namespace Go.Proofs.YtagedgcdonodfaaDoor
open Go.ChangeShapes Go.WideShapes Go.ChangeAt Go.RowKit
set_option linter.unusedVariables false
/-- The tables are laid in the heap that the door's own run leaves. -/
theorem door30 (os : Os) (args : Array Value) : laidMetH Tryd.prog Rows.reportMergesRow.laid ((World.doorLaid Tryd.prog 4000 os).forCall (fun _ _ => 0) ⟨#[], args, []⟩).memory :=
  laidMetH_of_parts3 (fuel := 400) (laidMet_of_run' 400 (by kernel_rfl) (by kernel_rfl)) (by kernel_rfl) (by kernel_rfl)
theorem mem_pow : ("internal/strconv.uint64pow10", (Lib.tabData .u64 Lib.pow10Tab : DataW Unit)) ∈ Rows.reportMergesRow.laid := by
  rw [← show Rows.laid_internal_strconv_uint64pow10 (H := Unit) = Lib.tabData .u64 Lib.pow10Tab from by kernel_rfl]
  exact .tail _ (.tail _ (.head _))
theorem mem_asc : ("strings.asciiSpace", (Lib.tabData .u8 Lib.asciiSpaceTab : DataW Unit)) ∈ Rows.reportMergesRow.laid := by
  rw [← show Rows.laid_strings_asciiSpace (H := Unit) = Lib.tabData .u8 Lib.asciiSpaceTab from by kernel_rfl]
  exact .tail _ (.tail _ (.tail _ (.tail _ (.head _))))
theorem tabs_of {W : World} (h : laidMetH Tryd.prog Rows.reportMergesRow.laid W) : tP.holds W ∧ tS.holds W := by
  rw [MakeChecks.laidMetH_plain _ _ _ (by kernel_rfl)] at h
  exact ⟨tab_of_reads (P := Tryd.prog) (t := 156) (e := 99) (n := 20) (by kernel_rfl) (by kernel_rfl) (by kernel_rfl) (by kernel_rfl) (by kernel_rfl) h mem_pow,
    tab_of_reads (P := Tryd.prog) (t := 101) (e := 5) (n := 256) (by kernel_rfl) (by kernel_rfl) (by kernel_rfl) (by kernel_rfl) (by kernel_rfl) h mem_asc⟩
set_option maxRecDepth 100000 in
theorem reportMerges_lifted (os : Os) (started : os.Started) (H : Type) (enc : TypeId × Value → H) :
    ReturnsInHanded {} Tryd.checked os 5 .any (fun w args => (Rows.reportMergesSpec.pre enc Tryd.prog Tryd.f5 Rows.reportMergesRow.domain false w args ∧ laidMetH Tryd.prog Rows.reportMergesRow.laid w) ∧ sizedMet enc Tryd.prog Tryd.f5 (OpenSpec.ofChange Rows.reportMergesSpec) false w args)
      (Rows.reportMergesSpec.post enc Tryd.prog Tryd.f5 false true false false) := by
  refine returnsInHanded_of_change_and (C := Tryd.checked) (X := fun w _ => laidMetH Tryd.prog Rows.reportMergesRow.laid w) (fun _ _ _ hh h => h.of_heap hh) Tryd.own started (by kernel_rfl) Tryd.func5
    (ChangeSpec.witness_shaped (enc := enc) (C := Tryd.checked) (os := os) (X := fun w _ => laidMetH Tryd.prog Rows.reportMergesRow.laid w) false (World.doorLaid Tryd.prog 4000 os) #[.slice none 0 0, .slice none 0 0, .int .i64 0] 8 rfl (World.shaped_of_RefB (by kernel_rfl) (by kernel_rfl)) (by kernel_rfl) (by kernel_rfl) (by kernel_rfl) (door30 os _)) ?_
  intro W base args ds gs before hval0 hW _ _ hL _
  have hval : ∀ (j : Nat) t v, Tryd.f5.params[j]? = some t → args[j]? = some v → Value.okWide Tryd.prog W .any base t v := hval0
  have hW' := hW
  obtain ⟨p, q, hA0, hV, rfl, hfz, hnd⟩ := hW
  have hA : DataW.TrodAll enc Tryd.prog W 0 (fun _ => true) true Tryd.f5.params.toList args.toList ds p := hA0
  rw [Tryd.params5] at hA hval
  obtain ⟨v0, vs0, d0, ds0, p0, q0, hargs, rfl, rfl, h0, r0⟩ := trodAll_cons hA
  obtain ⟨v1, vs1, d1, ds1, p1, q1, hargs1, rfl, rfl, h1, r1⟩ := trodAll_cons r0
  obtain ⟨v2, vs2, d2, ds2, p2, q2, hargs2, rfl, rfl, h2, r2⟩ := trodAll_cons r1
  obtain ⟨rfl, rfl, rfl⟩ := trodAll_nil r2
  obtain rfl : args = #[v0, v1, v2] := by cases args; simp_all
  obtain ⟨rfl, rfl⟩ := trodVars_none hV
  have k0 := h0
  have lt0 : ∀ x ∈ p0, x.block < W.heap.size := by obtain ⟨m, hm⟩ := k0; exact DataW.trod_lt m _ _ _ hm
  obtain ⟨R0, hr0, hb0, hw0, hl0⟩ := open_ans Tryd.underlying22 (by kernel_rfl) (by kernel_rfl) (hval 0 22 v0 rfl rfl) h0
  have k1 := h1
  have lt1 : ∀ x ∈ p1, x.block < W.heap.size := by obtain ⟨m, hm⟩ := k1; exact DataW.trod_lt m _ _ _ hm
  obtain ⟨R1, hr1, hb1, hw1, hl1⟩ := open_ans Tryd.underlying22 (by kernel_rfl) (by kernel_rfl) (hval 1 22 v1 rfl rfl) h1
  have k2 := h2
  have lt2 : ∀ x ∈ p2, x.block < W.heap.size := by obtain ⟨m, hm⟩ := k2; exact DataW.trod_lt m _ _ _ hm
  obtain ⟨n2, rfl, hn2⟩ := open_i64 Tryd.underlying3 (hval 2 3 v2 rfl rfl) h2
  obtain ⟨htP, htS⟩ := tabs_of hL
  clear hA0 hval0
  refine (law_of (W := W) (merges_t v0 R0 hw0 hl0 v1 R1 hw1 hl1 n2 hn2) (by simp [rdN_own, rdA, tabA]) (hold1 hr0 (hold1 hb0 (hold1 hr1 (hold1 hb1 (hold1 htP (hold1 htS hold0))))))).mono fun e W' ⟨he, bel⟩ => ?_
  subst he
  exact ⟨_, rfl, _, _, _, [], _, [], hW', trodAll_mk1 (shut_bool Tryd.underlying4 _), (trodAll_cons_mk (Below.trod Tryd.laidOut (by kernel_rfl) (of_decide_eq_true (by kernel_rfl)) k0 bel lt0) (trodAll_cons_mk (Below.trod Tryd.laidOut (by kernel_rfl) (of_decide_eq_true (by kernel_rfl)) k1 bel lt1) (trodAll_cons_mk (Below.trod Tryd.laidOut (by kernel_rfl) (of_decide_eq_true (by kernel_rfl)) k2 bel lt2) trodAll_mk0))), rfl, bel.frame _, fun h => by cases h⟩
end Go.Proofs.YtagedgcdonodfaaDoor
