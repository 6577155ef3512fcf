/- Layer 24 (tmpl): reading: contract. -/
import Derived.Test.YteofjhjhaaafjaaTn
namespace Go.Proofs.Yteofjhjhaaafjaa
open Go.RowKit
set_option linter.unusedSimpArgs false
set_option linter.unusedVariables false
set_option maxRecDepth 20000
set_option maxHeartbeats 4000000
attribute [local irreducible] WPc WPl WPq ReadR OpT BinR HasS bx rdN rowN Take Takes Prov Triple ResF BuildP Done ag Int.decLt Int.decLe Int.instDecidableEq

def tAddr (key : List UInt8) : Adr := if h : key.length = 20 then Adr.of6 (seg key 4 16) (seg_length (by omega)) else if h : key.length = 8 then Adr.of4 (seg key 4 4) (seg_length (by omega)) else Adr.zero
def tLen (key v : List UInt8) : Bool := decide (v.length = 10) && (decide (key.length = 8) || decide (key.length = 20))
def tKey (key : List UInt8) : List UInt8 := keyL (val (seg key 0 2)) (tAddr key) (key.getD 3 0).toNat
def tOk (key v : List UInt8) : Bool := tLen key v && decide (tKey key = key)
def tRes (key v : List UInt8) : Ch := if tOk key v then tmc (val (seg key 0 2)) (tAddr key) (key.getD 3 0).toNat (val (seg v 0 2)) (val (seg v 2 8)) else tmc 0 Adr.zero 0 0 0
abbrev tVal (key v : List UInt8) : Value := .tuple #[ag (tRes key v), .bool (tOk key v)]
theorem tVal_no {key v : List UInt8} (h : tOk key v = false) : tVal key v = .tuple #[ag (tmc 0 Adr.zero 0 0 0), .bool false] := by unfold tVal tRes; rw [h]; rfl
theorem tVal_yes {key v : List UInt8} (h : tOk key v = true) : tVal key v = .tuple #[ag (tmc (val (seg key 0 2)) (tAddr key) (key.getD 3 0).toNat (val (seg v 0 2)) (val (seg v 2 8))), .bool true] := by unfold tVal tRes; rw [h]; rfl
theorem keyL_len (s : Int) (a : Adr) (n : Int) : (keyL s a n).length = 0 ∨ (keyL s a n).length = 8 ∨ (keyL s a n).length = 20 := by
  unfold keyL
  split
  · have h := a.bytes_len
    simp only [keyB, List.length_append, be_length, List.length_cons, List.length_nil]
    split at h <;> omega
  · simp
theorem val2_lt {l : List UInt8} {k : Nat} : val (seg l k 2) < 65536 := by
  have h := val_lt (seg l k 2)
  have : (seg l k 2).length ≤ 2 := by simp [seg]; omega
  exact Nat.lt_of_lt_of_le h (Nat.le_trans (Nat.pow_le_pow_right (by decide) this) (by decide))
theorem val8_lt {l : List UInt8} {k : Nat} : val (seg l k 8) < 18446744073709551616 := by
  have h := val_lt (seg l k 8)
  have : (seg l k 8).length ≤ 8 := by simp [seg]; omega
  exact Nat.lt_of_lt_of_le h (Nat.le_trans (Nat.pow_le_pow_right (by decide) this) (by decide))
/-- The address of bytes, as the layer tells it. -/
def ofA (l : List UInt8) : Adr := if h : l.length = 16 then Adr.of6 l h else if h : l.length = 4 then Adr.of4 l h else Adr.zero
def ofOk (l : List UInt8) : Bool := decide (l.length = 4) || decide (l.length = 16)
theorem Of_t (v : Value) (l : List UInt8) : Triple Try.prog 65 #[v] [rb v l] (RVal (.tuple #[ag (adc (ofA l)), .bool (ofOk l)])) := by
  by_cases h4 : l.length = 4
  · rw [show ofA l = Adr.of4 l h4 by simp [ofA, h4], show ofOk l = true by simp [ofOk, h4]]
    exact Of4_t v l h4
  · by_cases h16 : l.length = 16
    · rw [show ofA l = Adr.of6 l h16 by simp [ofA, h16], show ofOk l = true by simp [ofOk, h16]]
      exact Of6_t v l h16
    · rw [show ofA l = Adr.zero by simp [ofA, h4, h16], show ofOk l = false by simp [ofOk, h4, h16]]
      exact OfNo_t v l h4 h16
theorem ofA_tAddr {key : List UInt8} (h : 4 ≤ key.length) : ofA (seg key 4 (key.length - 4)) = tAddr key := by
  have hl := seg_len key 4 (key.length - 4)
  unfold ofA tAddr
  by_cases h20 : key.length = 20
  · rw [dif_pos (by omega), dif_pos h20]
    congr 2; omega
  · rw [dif_neg (by omega), dif_neg h20]
    by_cases h8 : key.length = 8
    · rw [dif_pos (by omega), dif_pos h8]
      congr 2; omega
    · rw [dif_neg (by omega), dif_neg h8]
theorem tof_t (u1 u2 : Value) (key v : List UInt8) (hk : key.length ≤ 1000000) (hv : v.length ≤ 1000000) : Triple Try.prog 26 #[u1, u2] [rb u1 key, rb u2 v] (RVal (tVal key v)) := by
  by_cases h2 : key.length < 2
  · rw [tVal_no (by simp [tOk, tLen]; omega)]
    refine Triple.enter Try.func26 rfl Try.ntmps26 rfl (fun W => ?_)
    dsimp only [argsF, Nat.reduceAdd]
    repeat' (first
     | refine WPl.nil ?_ | refine WPq.then ?_ | refine WPq.thenR ?_ | refine WPq.thenE ?_ | refine WPq.blockN ?_ | refine WPq.blockR ?_ | refine WPq.blockE ?_ | refine WPq.blockO rfl ?_ | refine WPc.seq ?_ | refine WPc.block ?_ | refine WPc.ret ?_ | refine WPc.exit ?_ | refine WPc.skip ?_ | refine WPc.region ?_
     | (refine isReg 7 ?_; refine WPc.drA [([], [14, 52, 53, 54, 55, 56, 57, 58, 59, 60]), ([0], [14, 50, 52, 53, 54, 55, 56, 57, 58, 59, 60]), ([], [14, 50, 51, 53, 54, 55, 56, 58, 59, 60]), ([], [14, 50, 51, 52, 58, 59, 60]), ([3], [14, 50, 51, 52, 53, 58, 59, 60]), ([3, 4], [14, 50, 51, 52, 53, 54, 58, 59, 60]), ([3, 4, 5], [14, 50, 51, 52, 53, 54, 55, 58, 59, 60]), ([2, 3, 4, 5, 6], [14, 50, 51, 52, 53, 54, 55, 56, 58, 59, 60]), ([], [14, 50, 51, 52, 53, 54, 55, 56, 57, 60]), ([8], [14, 50, 51, 52, 53, 54, 55, 56, 57, 58, 60]), ([], [14, 50, 51, 52, 53, 54, 55, 56, 57, 58, 59]), ([0, 1, 2, 3, 4, 5, 6, 7, 8, 9, 10], [14, 50, 51, 52, 53, 54, 55, 56, 57, 58, 59, 60]), ([], [50, 51, 52, 53, 54, 55, 56, 57, 58, 59, 60, 61]), ([0, 1, 2, 3, 4, 5, 6, 7, 8, 9, 10, 11, 12], [14, 50, 51, 52, 53, 54, 55, 56, 57, 58, 59, 60, 61])] [(12, 13)] (Γx := []) ?_; dsimp only [prev0, List.length_nil, List.length_cons])
     | (refine gAny ?_; first | (refine gCl ?_; refine RGl.vl (fun e hk => OpT.callN (getNo_t u1 key 0 2 (by omega) (by omega) (by omega))) ?_) | (refine gOp ?_; first | refine RGl.rdA ?_ | refine RGl.rdX (fun e hk => by (try dsimp only [bndR, ensR, oksR, fcutR, List.append_nil, List.nil_append, List.cons_append, List.append_assoc] at hk ⊢); exact readB) ?_) | (refine gAl ?_; refine RGl.nwA ?_) | (refine gSt ?_; refine RGl.stA ?_) | (refine RGl.fin (fun e hk => ?_); (try dsimp only [bndA, ensAR, oksA, List.append_nil, List.nil_append, List.cons_append, List.append_assoc] at hk ⊢); (repeat (obtain ⟨hk1, hk⟩ := hk))) | fail)
     | (refine isCond ?_; first | refine WPc.cT ?_ | refine WPc.cF ?_ | (refine WPc.cQ (fun hc => ?_) (fun hc => ?_) <;> try exact prA))
     | (refine isCl ?_; refine WPl.cV (getNo_t u1 key 0 2 (by omega) (by omega) (by omega)) ?_)
     | (refine isOp ?_; first | refine WPl.rd ?_ | refine WPl.sk ?_ | refine WPl.rdB ?_)
     | (refine isAl ?_; refine WPl.nw fun g => ?_)
     | (refine isSt ?_; first | refine WPl.st1 ?_ | refine WPl.stA ?_ | refine WPl.stEB ?_ | refine WPl.stRB ?_)
     | (refine WPl.spQ (fun hc => ?_) (fun hc => ?_) <;> try exact prA)
     | fail)
    all_goals try (first | exact WPq.dV | exact WPq.dR | exact WPq.dR2 | exact WPq.dH | exact WPq.dBH | exact WPq.dT)
  · by_cases h3 : 4 ≤ key.length ∧ v.length = 10
    · obtain ⟨h3, h10⟩ := h3
      have hOf : ∀ u, Triple Try.prog 65 #[u] [rb u (seg key 4 (key.length - 4))] (RVal (.tuple #[ag (adc (tAddr key)), .bool (ofOk (seg key 4 (key.length - 4)))])) := fun u => by rw [← ofA_tAddr h3]; exact Of_t u _
      have hb3 := (key.getD 3 0).toNat_lt
      have hv1 := val2_lt (l := key) (k := 0)
      have hv2 := val2_lt (l := v) (k := 0)
      have hv3 := val8_lt (l := v) (k := 2)
      have hkl : keyL (val (seg key 0 2)) (tAddr key) (key.getD 3 0).toNat = tKey key := rfl
      have hkt := key_t (val (seg key 0 2)) (tAddr key) (key.getD 3 0).toNat (by omega) (by omega)
      rw [hkl] at hkt
      cases hko : keyOk (val (seg key 0 2)) (tAddr key) (key.getD 3 0).toNat with
      | false =>
        rw [hko] at hkt
        rw [tVal_no (by
          have : tKey key = [] := keyL_no hko
          simp only [tOk, this, Bool.and_eq_false_iff, decide_eq_false_iff_not]
          refine .inr fun e => ?_
          rw [← e] at h3; simp at h3)]
        refine Triple.enter Try.func26 rfl Try.ntmps26 rfl (fun W => ?_)
        dsimp only [argsF, Nat.reduceAdd]
        repeat' (first
         | refine WPl.nil ?_ | refine WPq.then ?_ | refine WPq.thenR ?_ | refine WPq.thenE ?_ | refine WPq.blockN ?_ | refine WPq.blockR ?_ | refine WPq.blockE ?_ | refine WPq.blockO rfl ?_ | refine WPc.seq ?_ | refine WPc.block ?_ | refine WPc.ret ?_ | refine WPc.exit ?_ | refine WPc.skip ?_ | refine WPc.region ?_
         | (refine isReg 7 ?_; refine WPc.drA [([], [14, 52, 53, 54, 55, 56, 57, 58, 59, 60]), ([0], [14, 50, 52, 53, 54, 55, 56, 57, 58, 59, 60]), ([], [14, 50, 51, 53, 54, 55, 56, 58, 59, 60]), ([], [14, 50, 51, 52, 58, 59, 60]), ([3], [14, 50, 51, 52, 53, 58, 59, 60]), ([3, 4], [14, 50, 51, 52, 53, 54, 58, 59, 60]), ([3, 4, 5], [14, 50, 51, 52, 53, 54, 55, 58, 59, 60]), ([2, 3, 4, 5, 6], [14, 50, 51, 52, 53, 54, 55, 56, 58, 59, 60]), ([], [14, 50, 51, 52, 53, 54, 55, 56, 57, 60]), ([8], [14, 50, 51, 52, 53, 54, 55, 56, 57, 58, 60]), ([], [14, 50, 51, 52, 53, 54, 55, 56, 57, 58, 59]), ([0, 1, 2, 3, 4, 5, 6, 7, 8, 9, 10], [14, 50, 51, 52, 53, 54, 55, 56, 57, 58, 59, 60]), ([], [50, 51, 52, 53, 54, 55, 56, 57, 58, 59, 60, 61]), ([0, 1, 2, 3, 4, 5, 6, 7, 8, 9, 10, 11, 12], [14, 50, 51, 52, 53, 54, 55, 56, 57, 58, 59, 60, 61])] [(12, 13)] (Γx := []) ?_; dsimp only [prev0, List.length_nil, List.length_cons])
         | (refine gAny ?_; first | (refine gCl ?_; refine RGl.vl (fun e hk => OpT.callN (get_t u1 key 0 2 (by omega) (by omega) (by omega) (by omega))) ?_) | (refine gCl ?_; refine RGl.vl (fun e hk => OpT.callN (get_t u2 v 0 2 (by omega) (by omega) (by omega) (by omega))) ?_) | (refine gCl ?_; refine RGl.vl (fun e hk => OpT.callN (get_t u2 v 2 8 (by omega) (by omega) (by omega) (by omega))) ?_) | (refine gCl ?_; refine RGl.vl (fun e hk => OpT.callN (hOf _)) ?_) | (refine gCl ?_; refine RGl.row2 (fun e hk => OpT.callN (hkt)) ?_) | (refine gOp ?_; first | refine RGl.rdA ?_ | refine RGl.rdX (fun e hk => by (try dsimp only [bndR, ensR, oksR, fcutR, List.append_nil, List.nil_append, List.cons_append, List.append_assoc] at hk ⊢); exact readB) ?_) | (refine gAl ?_; refine RGl.nwA ?_) | (refine gSt ?_; refine RGl.stA ?_) | (refine RGl.fin (fun e hk => ?_); (try dsimp only [bndA, ensAR, oksA, List.append_nil, List.nil_append, List.cons_append, List.append_assoc] at hk ⊢); (repeat (obtain ⟨hk1, hk⟩ := hk))) | fail)
         | (refine isCond ?_; first | refine WPc.cT ?_ | refine WPc.cF ?_ | (refine WPc.cQ (fun hc => ?_) (fun hc => ?_) <;> try exact prA))
         | (refine isCl ?_; refine WPl.cV (get_t u1 key 0 2 (by omega) (by omega) (by omega) (by omega)) ?_)
         | (refine isCl ?_; refine WPl.cV (get_t u2 v 0 2 (by omega) (by omega) (by omega) (by omega)) ?_)
         | (refine isCl ?_; refine WPl.cV (get_t u2 v 2 8 (by omega) (by omega) (by omega) (by omega)) ?_)
         | (refine isCl ?_; refine WPl.cV (hOf _) ?_)
         | (refine isCl ?_; refine WPl.cR2 (hkt) fun v hv => ?_)
         | (refine isOp ?_; first | refine WPl.rd ?_ | refine WPl.sk ?_ | refine WPl.rdB ?_)
         | (refine isAl ?_; refine WPl.nw fun g => ?_)
         | (refine isSt ?_; first | refine WPl.st1 ?_ | refine WPl.stA ?_ | refine WPl.stEB ?_ | refine WPl.stRB ?_)
         | (refine WPl.spQ (fun hc => ?_) (fun hc => ?_) <;> try exact prA)
         | fail)
        all_goals try (first | exact WPq.dV | exact WPq.dR | exact WPq.dR2 | exact WPq.dH | exact WPq.dBH | exact WPq.dT)
      | true =>
        rw [hko] at hkt
        by_cases he : tKey key = key
        · rw [tVal_yes (by
            have := keyL_len (val (seg key 0 2)) (tAddr key) (key.getD 3 0).toNat
            rw [hkl, he] at this
            simp [tOk, tLen, he]; omega)]
          refine Triple.enter Try.func26 rfl Try.ntmps26 rfl (fun W => ?_)
          dsimp only [argsF, Nat.reduceAdd]
          repeat' (first
           | refine WPl.nil ?_ | refine WPq.then ?_ | refine WPq.thenR ?_ | refine WPq.thenE ?_ | refine WPq.blockN ?_ | refine WPq.blockR ?_ | refine WPq.blockE ?_ | refine WPq.blockO rfl ?_ | refine WPc.seq ?_ | refine WPc.block ?_ | refine WPc.ret ?_ | refine WPc.exit ?_ | refine WPc.skip ?_ | refine WPc.region ?_
           | (refine isReg 7 ?_; refine WPc.drA [([], [14, 52, 53, 54, 55, 56, 57, 58, 59, 60]), ([0], [14, 50, 52, 53, 54, 55, 56, 57, 58, 59, 60]), ([], [14, 50, 51, 53, 54, 55, 56, 58, 59, 60]), ([], [14, 50, 51, 52, 58, 59, 60]), ([3], [14, 50, 51, 52, 53, 58, 59, 60]), ([3, 4], [14, 50, 51, 52, 53, 54, 58, 59, 60]), ([3, 4, 5], [14, 50, 51, 52, 53, 54, 55, 58, 59, 60]), ([2, 3, 4, 5, 6], [14, 50, 51, 52, 53, 54, 55, 56, 58, 59, 60]), ([], [14, 50, 51, 52, 53, 54, 55, 56, 57, 60]), ([8], [14, 50, 51, 52, 53, 54, 55, 56, 57, 58, 60]), ([], [14, 50, 51, 52, 53, 54, 55, 56, 57, 58, 59]), ([0, 1, 2, 3, 4, 5, 6, 7, 8, 9, 10], [14, 50, 51, 52, 53, 54, 55, 56, 57, 58, 59, 60]), ([], [50, 51, 52, 53, 54, 55, 56, 57, 58, 59, 60, 61]), ([0, 1, 2, 3, 4, 5, 6, 7, 8, 9, 10, 11, 12], [14, 50, 51, 52, 53, 54, 55, 56, 57, 58, 59, 60, 61])] [(12, 13)] (Γx := []) ?_; dsimp only [prev0, List.length_nil, List.length_cons])
           | (refine gAny ?_; first | (refine gCl ?_; refine RGl.vl (fun e hk => OpT.callN (get_t u1 key 0 2 (by omega) (by omega) (by omega) (by omega))) ?_) | (refine gCl ?_; refine RGl.vl (fun e hk => OpT.callN (get_t u2 v 0 2 (by omega) (by omega) (by omega) (by omega))) ?_) | (refine gCl ?_; refine RGl.vl (fun e hk => OpT.callN (get_t u2 v 2 8 (by omega) (by omega) (by omega) (by omega))) ?_) | (refine gCl ?_; refine RGl.vl (fun e hk => OpT.callN (hOf _)) ?_) | (refine gCl ?_; refine RGl.row2 (fun e hk => OpT.callN (hkt)) ?_) | (refine gCl ?_; refine RGl.vl (fun e hk => OpT.callN (equal_t _ _ (tKey key) key)) ?_) | (refine gOp ?_; first | refine RGl.rdA ?_ | refine RGl.rdX (fun e hk => by (try dsimp only [bndR, ensR, oksR, fcutR, List.append_nil, List.nil_append, List.cons_append, List.append_assoc] at hk ⊢); exact readB) ?_) | (refine gAl ?_; refine RGl.nwA ?_) | (refine gSt ?_; refine RGl.stA ?_) | (refine RGl.fin (fun e hk => ?_); (try dsimp only [bndA, ensAR, oksA, List.append_nil, List.nil_append, List.cons_append, List.append_assoc] at hk ⊢); (repeat (obtain ⟨hk1, hk⟩ := hk))) | fail)
           | (refine isCond ?_; first | refine WPc.cT ?_ | refine WPc.cF ?_ | (refine WPc.cQ (fun hc => ?_) (fun hc => ?_) <;> try exact prA))
           | (refine isCl ?_; refine WPl.cV (get_t u1 key 0 2 (by omega) (by omega) (by omega) (by omega)) ?_)
           | (refine isCl ?_; refine WPl.cV (get_t u2 v 0 2 (by omega) (by omega) (by omega) (by omega)) ?_)
           | (refine isCl ?_; refine WPl.cV (get_t u2 v 2 8 (by omega) (by omega) (by omega) (by omega)) ?_)
           | (refine isCl ?_; refine WPl.cV (hOf _) ?_)
           | (refine isCl ?_; refine WPl.cR2 (hkt) fun v hv => ?_)
           | (refine isCl ?_; refine WPl.cV (equal_t _ _ (tKey key) key) ?_)
           | (refine isOp ?_; first | refine WPl.rd ?_ | refine WPl.sk ?_ | refine WPl.rdB ?_)
           | (refine isAl ?_; refine WPl.nw fun g => ?_)
           | (refine isSt ?_; first | refine WPl.st1 ?_ | refine WPl.stA ?_ | refine WPl.stEB ?_ | refine WPl.stRB ?_)
           | (refine WPl.spQ (fun hc => ?_) (fun hc => ?_) <;> try exact prA)
           | fail)
          all_goals try (first | exact WPq.dV | exact WPq.dR | exact WPq.dR2 | exact WPq.dH | exact WPq.dBH | exact WPq.dT)
        · rw [tVal_no (by simp [tOk, he])]
          refine Triple.enter Try.func26 rfl Try.ntmps26 rfl (fun W => ?_)
          dsimp only [argsF, Nat.reduceAdd]
          repeat' (first
           | refine WPl.nil ?_ | refine WPq.then ?_ | refine WPq.thenR ?_ | refine WPq.thenE ?_ | refine WPq.blockN ?_ | refine WPq.blockR ?_ | refine WPq.blockE ?_ | refine WPq.blockO rfl ?_ | refine WPc.seq ?_ | refine WPc.block ?_ | refine WPc.ret ?_ | refine WPc.exit ?_ | refine WPc.skip ?_ | refine WPc.region ?_
           | (refine isReg 7 ?_; refine WPc.drA [([], [14, 52, 53, 54, 55, 56, 57, 58, 59, 60]), ([0], [14, 50, 52, 53, 54, 55, 56, 57, 58, 59, 60]), ([], [14, 50, 51, 53, 54, 55, 56, 58, 59, 60]), ([], [14, 50, 51, 52, 58, 59, 60]), ([3], [14, 50, 51, 52, 53, 58, 59, 60]), ([3, 4], [14, 50, 51, 52, 53, 54, 58, 59, 60]), ([3, 4, 5], [14, 50, 51, 52, 53, 54, 55, 58, 59, 60]), ([2, 3, 4, 5, 6], [14, 50, 51, 52, 53, 54, 55, 56, 58, 59, 60]), ([], [14, 50, 51, 52, 53, 54, 55, 56, 57, 60]), ([8], [14, 50, 51, 52, 53, 54, 55, 56, 57, 58, 60]), ([], [14, 50, 51, 52, 53, 54, 55, 56, 57, 58, 59]), ([0, 1, 2, 3, 4, 5, 6, 7, 8, 9, 10], [14, 50, 51, 52, 53, 54, 55, 56, 57, 58, 59, 60]), ([], [50, 51, 52, 53, 54, 55, 56, 57, 58, 59, 60, 61]), ([0, 1, 2, 3, 4, 5, 6, 7, 8, 9, 10, 11, 12], [14, 50, 51, 52, 53, 54, 55, 56, 57, 58, 59, 60, 61])] [(12, 13)] (Γx := []) ?_; dsimp only [prev0, List.length_nil, List.length_cons])
           | (refine gAny ?_; first | (refine gCl ?_; refine RGl.vl (fun e hk => OpT.callN (get_t u1 key 0 2 (by omega) (by omega) (by omega) (by omega))) ?_) | (refine gCl ?_; refine RGl.vl (fun e hk => OpT.callN (get_t u2 v 0 2 (by omega) (by omega) (by omega) (by omega))) ?_) | (refine gCl ?_; refine RGl.vl (fun e hk => OpT.callN (get_t u2 v 2 8 (by omega) (by omega) (by omega) (by omega))) ?_) | (refine gCl ?_; refine RGl.vl (fun e hk => OpT.callN (hOf _)) ?_) | (refine gCl ?_; refine RGl.row2 (fun e hk => OpT.callN (hkt)) ?_) | (refine gCl ?_; refine RGl.vl (fun e hk => OpT.callN (equal_t _ _ (tKey key) key)) ?_) | (refine gOp ?_; first | refine RGl.rdA ?_ | refine RGl.rdX (fun e hk => by (try dsimp only [bndR, ensR, oksR, fcutR, List.append_nil, List.nil_append, List.cons_append, List.append_assoc] at hk ⊢); exact readB) ?_) | (refine gAl ?_; refine RGl.nwA ?_) | (refine gSt ?_; refine RGl.stA ?_) | (refine RGl.fin (fun e hk => ?_); (try dsimp only [bndA, ensAR, oksA, List.append_nil, List.nil_append, List.cons_append, List.append_assoc] at hk ⊢); (repeat (obtain ⟨hk1, hk⟩ := hk))) | fail)
           | (refine isCond ?_; first | refine WPc.cT ?_ | refine WPc.cF ?_ | (refine WPc.cQ (fun hc => ?_) (fun hc => ?_) <;> try exact prA))
           | (refine isCl ?_; refine WPl.cV (get_t u1 key 0 2 (by omega) (by omega) (by omega) (by omega)) ?_)
           | (refine isCl ?_; refine WPl.cV (get_t u2 v 0 2 (by omega) (by omega) (by omega) (by omega)) ?_)
           | (refine isCl ?_; refine WPl.cV (get_t u2 v 2 8 (by omega) (by omega) (by omega) (by omega)) ?_)
           | (refine isCl ?_; refine WPl.cV (hOf _) ?_)
           | (refine isCl ?_; refine WPl.cR2 (hkt) fun v hv => ?_)
           | (refine isCl ?_; refine WPl.cV (equal_t _ _ (tKey key) key) ?_)
           | (refine isOp ?_; first | refine WPl.rd ?_ | refine WPl.sk ?_ | refine WPl.rdB ?_)
           | (refine isAl ?_; refine WPl.nw fun g => ?_)
           | (refine isSt ?_; first | refine WPl.st1 ?_ | refine WPl.stA ?_ | refine WPl.stEB ?_ | refine WPl.stRB ?_)
           | (refine WPl.spQ (fun hc => ?_) (fun hc => ?_) <;> try exact prA)
           | fail)
          all_goals try (first | exact WPq.dV | exact WPq.dR | exact WPq.dR2 | exact WPq.dH | exact WPq.dBH | exact WPq.dT)
    · rw [tVal_no (by simp [tOk, tLen]; omega)]
      refine Triple.enter Try.func26 rfl Try.ntmps26 rfl (fun W => ?_)
      dsimp only [argsF, Nat.reduceAdd]
      repeat' (first
       | refine WPl.nil ?_ | refine WPq.then ?_ | refine WPq.thenR ?_ | refine WPq.thenE ?_ | refine WPq.blockN ?_ | refine WPq.blockR ?_ | refine WPq.blockE ?_ | refine WPq.blockO rfl ?_ | refine WPc.seq ?_ | refine WPc.block ?_ | refine WPc.ret ?_ | refine WPc.exit ?_ | refine WPc.skip ?_ | refine WPc.region ?_
       | (refine isReg 7 ?_; refine WPc.drA [([], [14, 52, 53, 54, 55, 56, 57, 58, 59, 60]), ([0], [14, 50, 52, 53, 54, 55, 56, 57, 58, 59, 60]), ([], [14, 50, 51, 53, 54, 55, 56, 58, 59, 60]), ([], [14, 50, 51, 52, 58, 59, 60]), ([3], [14, 50, 51, 52, 53, 58, 59, 60]), ([3, 4], [14, 50, 51, 52, 53, 54, 58, 59, 60]), ([3, 4, 5], [14, 50, 51, 52, 53, 54, 55, 58, 59, 60]), ([2, 3, 4, 5, 6], [14, 50, 51, 52, 53, 54, 55, 56, 58, 59, 60]), ([], [14, 50, 51, 52, 53, 54, 55, 56, 57, 60]), ([8], [14, 50, 51, 52, 53, 54, 55, 56, 57, 58, 60]), ([], [14, 50, 51, 52, 53, 54, 55, 56, 57, 58, 59]), ([0, 1, 2, 3, 4, 5, 6, 7, 8, 9, 10], [14, 50, 51, 52, 53, 54, 55, 56, 57, 58, 59, 60]), ([], [50, 51, 52, 53, 54, 55, 56, 57, 58, 59, 60, 61]), ([0, 1, 2, 3, 4, 5, 6, 7, 8, 9, 10, 11, 12], [14, 50, 51, 52, 53, 54, 55, 56, 57, 58, 59, 60, 61])] [(12, 13)] (Γx := []) ?_; dsimp only [prev0, List.length_nil, List.length_cons])
       | (refine gAny ?_; first | (refine gCl ?_; refine RGl.vl (fun e hk => OpT.callN (get_t u1 key 0 2 (by omega) (by omega) (by omega) (by omega))) ?_) | (refine gOp ?_; first | refine RGl.rdA ?_ | refine RGl.rdX (fun e hk => by (try dsimp only [bndR, ensR, oksR, fcutR, List.append_nil, List.nil_append, List.cons_append, List.append_assoc] at hk ⊢); exact readB) ?_) | (refine gAl ?_; refine RGl.nwA ?_) | (refine gSt ?_; refine RGl.stA ?_) | (refine RGl.fin (fun e hk => ?_); (try dsimp only [bndA, ensAR, oksA, List.append_nil, List.nil_append, List.cons_append, List.append_assoc] at hk ⊢); (repeat (obtain ⟨hk1, hk⟩ := hk))) | fail)
       | (refine isCond ?_; first | refine WPc.cT ?_ | refine WPc.cF ?_ | (refine WPc.cQ (fun hc => ?_) (fun hc => ?_) <;> try exact prA))
       | (refine isCl ?_; refine WPl.cV (get_t u1 key 0 2 (by omega) (by omega) (by omega) (by omega)) ?_)
       | (refine isOp ?_; first | refine WPl.rd ?_ | refine WPl.sk ?_ | refine WPl.rdB ?_)
       | (refine isAl ?_; refine WPl.nw fun g => ?_)
       | (refine isSt ?_; first | refine WPl.st1 ?_ | refine WPl.stA ?_ | refine WPl.stEB ?_ | refine WPl.stRB ?_)
       | (refine WPl.spQ (fun hc => ?_) (fun hc => ?_) <;> try exact prA)
       | fail)
      all_goals try (first | exact WPq.dV | exact WPq.dR | exact WPq.dR2 | exact WPq.dH | exact WPq.dBH | exact WPq.dT)
end Go.Proofs.Yteofjhjhaaafjaa
