/- Layer 3 (dev): Spoil of the program. -/
import Derived.Test.YtepmikgjnmjheaaEg
namespace Go.Proofs.Ytepmikgjnmjheaa
open Go.RowKit
set_option linter.unusedSimpArgs false
set_option linter.unusedVariables false
theorem mp_congr {K V : Type} {M : Go.Proofs.Ytepmikgjnmjheaa.MK K V} {g : Nat} {l l' : List (K × V)} (h1 : l'.map (fun x => (M.kc x.1, M.vc x.2)) = l.map (fun x => (M.kc x.1, M.vc x.2))) (h2 : l'.map (·.1) = l.map (·.1)) : mp M g l' = mp M g l := by
  have h3 : (∀ x ∈ l', M.wf x.1) ↔ (∀ x ∈ l, M.wf x.1) := by
    have e1 : (∀ x ∈ l', M.wf x.1) ↔ ∀ k ∈ l'.map (·.1), M.wf k := by simp
    have e2 : (∀ x ∈ l, M.wf x.1) ↔ ∀ k ∈ l.map (·.1), M.wf k := by simp
    rw [e1, e2, h2]
  unfold mp
  simp only [h1, h2, h3]
theorem mput_same {es : List (Int × Vs)} {i : Int} {y y' : Vs} {g : Nat} (hf : mfind es i = some y) (hv : y'.v = y.v) : mp secM g (mput es i y') = mp secM g es := by
  refine mp_congr ?_ ?_
  · induction es with
    | nil => cases hf
    | cons x es ih =>
      have hf : (if x.1 = i then some x.2 else mfind es i) = some y := hf
      show List.map _ (if x.1 = i then (i, y') :: es else x :: mput es i y') = _
      by_cases hx : x.1 = i
      · rw [if_pos hx] at hf ⊢
        cases hf
        rw [List.map_cons, List.map_cons]
        congr 1
        show (Value.int .i64 i, y'.v) = (Value.int .i64 x.1, x.2.v)
        rw [hx, hv]
      · rw [if_neg hx] at hf ⊢
        rw [List.map_cons, List.map_cons, ih hf]
  · induction es with
    | nil => cases hf
    | cons x es ih =>
      have hf : (if x.1 = i then some x.2 else mfind es i) = some y := hf
      show List.map _ (if x.1 = i then (i, y') :: es else x :: mput es i y') = _
      by_cases hx : x.1 = i
      · rw [if_pos hx] at hf ⊢
        rw [List.map_cons, List.map_cons, hx]
      · rw [if_neg hx] at hf ⊢
        rw [List.map_cons, List.map_cons, ih hf]
theorem secs_cell {l : List Sec} {q t : Nat} {s : Sec} {b0 : UInt8} (h : l[q]? = some s) (hb : s.b[t]? = some b0) : (secs l)[q * 256 + t]? = some (.int .u8 ((b0.toNat : Nat) : Int)) := by
  have ht : t < 256 := by have := (List.getElem?_eq_some_iff.1 hb).1; have := s.len; omega
  have h1 : (((secs l).drop (q * 256)).take 256)[t]? = (u8s s.b)[t]? := by rw [secs_at h]
  rw [List.getElem?_take, if_pos ht, List.getElem?_drop] at h1
  rw [h1]
  unfold u8s
  rw [List.getElem?_map, hb]; rfl
theorem secs_setB {l : List Sec} {q t : Nat} {s s' : Sec} {b1 : UInt8} (h : l[q]? = some s) (ht : t < 256) (hs : s'.b = s.b.set t b1) : (secs l).set (q * 256 + t) (.int .u8 ((b1.toNat : Nat) : Int)) = secs (l.set q s') := by
  have hq : q < l.length := (List.getElem?_eq_some_iff.1 h).1
  rw [← secs_set s' hq]
  have h2 := secs_at h
  have hl := secs_len l
  have e1 : secs l = (secs l).take (q * 256) ++ (u8s s.b ++ (secs l).drop (q * 256 + 256)) := by
    rw [← h2, ← List.drop_drop, List.take_append_drop, List.take_append_drop]
  have htk : ((secs l).take (q * 256)).length = q * 256 := by rw [List.length_take, hl]; omega
  conv => lhs; rw [e1]
  rw [List.set_append_right _ _ (by rw [htk]; omega), htk, Nat.add_sub_cancel_left, List.set_append_left _ _ (by rw [u8s_length, s.len]; exact ht), u8s_set, ← hs, List.append_assoc]
  rfl
open Go.RowKit
set_option linter.unusedSimpArgs false
set_option linter.unusedVariables false
set_option maxRecDepth 20000
set_option maxHeartbeats 1000000
attribute [local irreducible] WPc WPl WPq ReadR OpT BinR HasS bx rdN rowN Take Takes Prov Triple ResF BuildP Done ag Int.decLt Int.decLe Int.instDecidableEq
attribute [local irreducible] mp rmp rg rgo bag vrow secs mput mget mfind mdel intsV skeys vault pickG fburn fb1 valsV zAt zB vers crashT intsN
def sgood (D : Dv) (i a : Int) : Bool := decide (0 ≤ i) && decide (i < (D.ls.length : Int)) && decide (0 ≤ a) && decide (a ≤ 255)
def Dv.spoil (D : Dv) (i a : Int) (b2 : UInt8) : Dv × Bool := if sgood D i a then (⟨D.fu, D.ls.set i.toNat ((D.ls.getD i.toNat (secF 0)).xor a.toNat b2), updW D.ws i.toNat ((D.ws i.toNat).map fun s => s.xor a.toNat b2), D.cn⟩, true) else (D, false)
theorem Sec.xor_b {s : Sec} {t : Nat} {b0 b2 : UInt8} (h : s.b[t]? = some b0) : (s.xor t b2).b = s.b.set t (b0 ^^^ b2) := by
  show xorB s.b t b2 = _
  unfold xorB
  rw [List.getD_eq_getElem?_getD, h]; rfl
def xorT (ws : List Sec) (t : Nat) (b2 : UInt8) (m : Nat) : List Sec := (ws.take m).map (fun s => s.xor t b2) ++ ws.drop m
theorem xorT_len {ws : List Sec} {t : Nat} {b2 : UInt8} {m : Nat} : (xorT ws t b2 m).length = ws.length := by
  unfold xorT
  rw [List.length_append, List.length_map, ← List.length_append, List.take_append_drop]
theorem xorT_at {ws : List Sec} {t : Nat} {b2 : UInt8} {m : Nat} {s : Sec} (h : ws[m]? = some s) : (xorT ws t b2 m)[m]? = some s := by
  have hm : m < ws.length := (List.getElem?_eq_some_iff.1 h).1
  unfold xorT
  rw [List.getElem?_append_right (by rw [List.length_map, List.length_take]; omega), List.length_map, List.length_take, Nat.min_eq_left (by omega), Nat.sub_self, List.getElem?_drop]
  exact h
theorem xorT_next {ws : List Sec} {t : Nat} {b2 : UInt8} {m : Nat} {s : Sec} (h : ws[m]? = some s) : (xorT ws t b2 m).set m (s.xor t b2) = xorT ws t b2 (m + 1) := by
  have hm : m < ws.length := (List.getElem?_eq_some_iff.1 h).1
  unfold xorT
  rw [List.set_append_right _ _ (by rw [List.length_map, List.length_take]; omega), List.length_map, List.length_take, Nat.min_eq_left (by omega), Nat.sub_self, List.drop_eq_getElem_cons hm, List.set_cons_zero, List.take_add_one, h, List.map_append, List.append_assoc]
  rfl
theorem xorT_all {ws : List Sec} {t : Nat} {b2 : UInt8} {m : Nat} (h : ws.length ≤ m) : xorT ws t b2 m = ws.map fun s => s.xor t b2 := by
  unfold xorT
  rw [List.take_of_length_le h, List.drop_eq_nil_of_le h, List.append_nil]
section
variable (gV mD : Nat) (vd : Value) (n k : Nat) (S : DS)
theorem dspoilNo_t (i a : Int) (b2 : UInt8) (h : DInv n k S) (hn : n ≤ 100000) (hg : sgood S.vw i a = false) :
    Triple Try.prog 29 #[hD gV, .int .i64 i, .int .i64 a, .int .u8 ((b2.toNat : Nat) : Int)] [rbx gV 79 (dvc S.fu vd mD S.cn), rdN vd S.ls.length (secs S.ls)] (RVal (.bool false)) := by
  have hnl := h.nl
  have c12 := has_t gV mD vd S.fu S.cn i S.ls (by omega)
  by_cases hh : 0 ≤ i ∧ i < (S.ls.length : Int)
  · rw [show (decide (0 ≤ i) && decide (i < (S.ls.length : Int))) = true by rw [decide_eq_true hh.1, decide_eq_true hh.2]; rfl] at c12
    have hga : a < 0 ∨ a ≥ 256 := by
      have hg : (decide (0 ≤ i) && decide (i < (S.ls.length : Int)) && decide (0 ≤ a) && decide (a ≤ 255)) = false := hg
      rw [decide_eq_true hh.1, decide_eq_true hh.2, Bool.true_and, Bool.true_and, Bool.and_eq_false_iff, decide_eq_false_iff_not, decide_eq_false_iff_not] at hg
      omega
    by_cases ha : a < 0
    · skip
      refine Triple.enter Try.func29 rfl Try.ntmps29 rfl (fun W => ?_)
      dsimp only [argsF, Nat.reduceAdd]
      repeat' (first
       | refine WPl.nil ?_ | refine WPq.then ?_ | refine WPq.thenR ?_ | refine WPq.thenE ?_ | refine WPq.blockN ?_ | refine WPq.blockR ?_ | refine WPq.blockE ?_ | refine WPq.blockO rfl ?_ | refine WPc.seq ?_ | refine WPc.block ?_ | refine WPc.ret ?_ | refine WPc.exit ?_ | refine WPc.skip ?_ | refine WPc.region ?_
       | (refine isCond ?_; first | refine WPc.cT ?_ | refine WPc.cF ?_ | (refine WPc.cQ (fun hc => ?_) (fun hc => ?_) <;> try exact prA))
       | (refine isC 12 ?_; refine WPl.cV c12 ?_ (hΔ := provsW))
       | (refine isD 16 ?_; refine WPl.rdX (ReadR.binE rfl rfl BinR.lss (congrArg Value.bool (decide_eq_true ha))) ?_)
       | (refine isOp ?_; first | refine WPl.rd ?_ | refine WPl.sk ?_ | refine WPl.rdB ?_)
       | (refine isSt ?_; first | refine WPl.st1 ?_ | refine WPl.stA ?_ | refine WPl.stEB ?_ | refine WPl.stRB ?_)
       | (show WPl _ _ _ _ _ _ _ (⟨_, .indexAddr _ _ _, _, _, _, _⟩ :: _) _; refine WPl.rdX (ReadR.indexE rfl rfl hasA (by first | assumption | omega)) ?_)
       | (show WPl _ _ _ _ _ _ _ (⟨_, .fieldAddr _ _ _, _, _, _, _⟩ :: _) _; refine WPl.rdX (ReadR.fieldE rfl hasA (by first | assumption | omega)) ?_)
       | (show WPl _ _ _ _ _ _ _ (⟨_, .load _ _, _, _, _, _⟩ :: _) _; first | refine WPl.rdX (ReadR.loadE rfl hasA (by assumption)) ?_ | refine WPl.rdX (ReadR.loadES (by assumption) (by first | assumption | omega) rfl hasA) ?_)
       | (show WPl _ _ _ _ _ _ _ (⟨_, .slice _ _ _ _ _, _, _, _, _⟩ :: _) _; first | refine WPl.rdX (ReadR.sliceH rfl rfl hasA (by omega)) ?_ | refine WPl.rdX (ReadR.sliceL rfl rfl hasA (by omega)) ?_ | refine WPl.rdX (ReadR.sliceLH rfl rfl rfl hasA (by omega) (by omega)) ?_)
       | (refine WPl.spQ (fun hc => ?_) (fun hc => ?_) <;> try exact prA)
       | fail)
      exact WPq.dV
    · have ha2 : a ≥ 256 := by omega
      refine Triple.enter Try.func29 rfl Try.ntmps29 rfl (fun W => ?_)
      dsimp only [argsF, Nat.reduceAdd]
      repeat' (first
       | refine WPl.nil ?_ | refine WPq.then ?_ | refine WPq.thenR ?_ | refine WPq.thenE ?_ | refine WPq.blockN ?_ | refine WPq.blockR ?_ | refine WPq.blockE ?_ | refine WPq.blockO rfl ?_ | refine WPc.seq ?_ | refine WPc.block ?_ | refine WPc.ret ?_ | refine WPc.exit ?_ | refine WPc.skip ?_ | refine WPc.region ?_
       | (refine isCond ?_; first | refine WPc.cT ?_ | refine WPc.cF ?_ | (refine WPc.cQ (fun hc => ?_) (fun hc => ?_) <;> try exact prA))
       | (refine isC 12 ?_; refine WPl.cV c12 ?_ (hΔ := provsW))
       | (refine isD 16 ?_; refine WPl.rdX (ReadR.binE rfl rfl BinR.lss (congrArg Value.bool (decide_eq_false ha))) ?_)
       | (refine isD 20 ?_; refine WPl.rdX (ReadR.binE rfl rfl BinR.geq (congrArg Value.bool (decide_eq_true ha2))) ?_)
       | (refine isOp ?_; first | refine WPl.rd ?_ | refine WPl.sk ?_ | refine WPl.rdB ?_)
       | (refine isSt ?_; first | refine WPl.st1 ?_ | refine WPl.stA ?_ | refine WPl.stEB ?_ | refine WPl.stRB ?_)
       | (show WPl _ _ _ _ _ _ _ (⟨_, .indexAddr _ _ _, _, _, _, _⟩ :: _) _; refine WPl.rdX (ReadR.indexE rfl rfl hasA (by first | assumption | omega)) ?_)
       | (show WPl _ _ _ _ _ _ _ (⟨_, .fieldAddr _ _ _, _, _, _, _⟩ :: _) _; refine WPl.rdX (ReadR.fieldE rfl hasA (by first | assumption | omega)) ?_)
       | (show WPl _ _ _ _ _ _ _ (⟨_, .load _ _, _, _, _, _⟩ :: _) _; first | refine WPl.rdX (ReadR.loadE rfl hasA (by assumption)) ?_ | refine WPl.rdX (ReadR.loadES (by assumption) (by first | assumption | omega) rfl hasA) ?_)
       | (show WPl _ _ _ _ _ _ _ (⟨_, .slice _ _ _ _ _, _, _, _, _⟩ :: _) _; first | refine WPl.rdX (ReadR.sliceH rfl rfl hasA (by omega)) ?_ | refine WPl.rdX (ReadR.sliceL rfl rfl hasA (by omega)) ?_ | refine WPl.rdX (ReadR.sliceLH rfl rfl rfl hasA (by omega) (by omega)) ?_)
       | (refine WPl.spQ (fun hc => ?_) (fun hc => ?_) <;> try exact prA)
       | fail)
      exact WPq.dV
  · rw [show (decide (0 ≤ i) && decide (i < (S.ls.length : Int))) = false by rw [Bool.and_eq_false_iff, decide_eq_false_iff_not, decide_eq_false_iff_not]; omega] at c12
    refine Triple.enter Try.func29 rfl Try.ntmps29 rfl (fun W => ?_)
    dsimp only [argsF, Nat.reduceAdd]
    repeat' (first
     | refine WPl.nil ?_ | refine WPq.then ?_ | refine WPq.thenR ?_ | refine WPq.thenE ?_ | refine WPq.blockN ?_ | refine WPq.blockR ?_ | refine WPq.blockE ?_ | refine WPq.blockO rfl ?_ | refine WPc.seq ?_ | refine WPc.block ?_ | refine WPc.ret ?_ | refine WPc.exit ?_ | refine WPc.skip ?_ | refine WPc.region ?_
     | (refine isCond ?_; first | refine WPc.cT ?_ | refine WPc.cF ?_ | (refine WPc.cQ (fun hc => ?_) (fun hc => ?_) <;> try exact prA))
     | (refine isC 12 ?_; refine WPl.cV c12 ?_ (hΔ := provsW))
     | (refine isOp ?_; first | refine WPl.rd ?_ | refine WPl.sk ?_ | refine WPl.rdB ?_)
     | (refine isSt ?_; first | refine WPl.st1 ?_ | refine WPl.stA ?_ | refine WPl.stEB ?_ | refine WPl.stRB ?_)
     | (show WPl _ _ _ _ _ _ _ (⟨_, .indexAddr _ _ _, _, _, _, _⟩ :: _) _; refine WPl.rdX (ReadR.indexE rfl rfl hasA (by first | assumption | omega)) ?_)
     | (show WPl _ _ _ _ _ _ _ (⟨_, .fieldAddr _ _ _, _, _, _, _⟩ :: _) _; refine WPl.rdX (ReadR.fieldE rfl hasA (by first | assumption | omega)) ?_)
     | (show WPl _ _ _ _ _ _ _ (⟨_, .load _ _, _, _, _, _⟩ :: _) _; first | refine WPl.rdX (ReadR.loadE rfl hasA (by assumption)) ?_ | refine WPl.rdX (ReadR.loadES (by assumption) (by first | assumption | omega) rfl hasA) ?_)
     | (show WPl _ _ _ _ _ _ _ (⟨_, .slice _ _ _ _ _, _, _, _, _⟩ :: _) _; first | refine WPl.rdX (ReadR.sliceH rfl rfl hasA (by omega)) ?_ | refine WPl.rdX (ReadR.sliceL rfl rfl hasA (by omega)) ?_ | refine WPl.rdX (ReadR.sliceLH rfl rfl rfl hasA (by omega) (by omega)) ?_)
     | (refine WPl.spQ (fun hc => ?_) (fun hc => ?_) <;> try exact prA)
     | fail)
    exact WPq.dV
theorem dspoil_t (j t : Nat) (b2 : UInt8) (h : DInv n k S) (hn : n ≤ 100000) (hkb : k ≤ 100000) (hj : j < n) (ht : t < 256) :
    Triple Try.prog 29 #[hD gV, .int .i64 (j : Int), .int .i64 (t : Int), .int .u8 ((b2.toNat : Nat) : Int)] (dvA gV mD vd S) (RD gV mD vd n k (.bool true) (S.vw.spoil (j : Int) (t : Int) b2).1) := by
  have hnl := h.nl
  have hjl : j < S.ls.length := by omega
  have c12 := has_t gV mD vd S.fu S.cn (j : Int) S.ls (by omega)
  rw [show (decide (0 ≤ (j : Int)) && decide ((j : Int) < (S.ls.length : Int))) = true by rw [decide_eq_true (by omega), decide_eq_true (by omega)]; rfl] at c12
  have ha : ¬ (t : Int) < 0 := by omega
  have ha2 : ¬ (t : Int) ≥ 256 := by omega
  have hin : in64 (j : Int) := by unfold in64; omega
  have hwf : secM.wf (j : Int) := hin
  obtain ⟨s0, hs0⟩ : ∃ s0, S.ls[j]? = some s0 := ⟨_, List.getElem?_eq_getElem hjl⟩
  obtain ⟨b0, hb0⟩ : ∃ b0, s0.b[t]? = some b0 := ⟨_, List.getElem?_eq_getElem (by rw [s0.len]; exact ht)⟩
  have hcell := secs_cell hs0 hb0
  have hset := secs_setB (b1 := b0 ^^^ b2) hs0 ht (Sec.xor_b hb0)
  have hsl := secs_len S.ls
  have hi1 : j * 256 < (secs S.ls).length := by omega
  have hi2 : j * 256 + t < (secs S.ls).length := by omega
  have hgd : S.ls.getD j (secF 0) = s0 := by rw [List.getD_eq_getElem?_getD, hs0]; rfl
  have hsp : (S.vw.spoil (j : Int) (t : Int) b2).1 = ⟨S.fu, S.ls.set j (s0.xor t b2), updW S.vw.ws j ((S.vw.ws j).map fun s => s.xor t b2), S.cn⟩ := by
    unfold Dv.spoil
    rw [if_pos (show sgood S.vw (j : Int) (t : Int) = true by
      show (decide (0 ≤ (j : Int)) && decide ((j : Int) < (S.ls.length : Int)) && decide (0 ≤ (t : Int)) && decide ((t : Int) ≤ 255)) = true
      rw [decide_eq_true (by omega), decide_eq_true (by omega), decide_eq_true (by omega), decide_eq_true (by omega)]; rfl)]
    show Dv.mk S.fu (S.ls.set j ((S.ls.getD j (secF 0)).xor t b2)) _ _ = _
    rw [hgd]; rfl
  rw [hsp]
  obtain ⟨y, hy⟩ : ∃ y, y = mget secM S.es (j : Int) := ⟨_, rfl⟩
  have hws : S.vw.ws j = y.ws := by rw [hy]; rfl
  have hc0 : secM.vc (mget secM S.es (j : Int)) = y.v := by rw [← hy]; rfl
  have hlw := h.ok.mget_len (j : Int)
  rw [← hy] at hlw
  refine Triple.enter Try.func29 rfl Try.ntmps29 rfl (fun W => ?_)
  dsimp only [argsF, Nat.reduceAdd]
  refine WPc.vsOut (j : Int) ?_
  rw [← hy]
  repeat' (first
   | refine WPl.nil ?_ | refine WPq.then ?_ | refine WPq.thenR ?_ | refine WPq.thenE ?_ | refine WPq.blockN ?_ | refine WPq.blockR ?_ | refine WPq.blockE ?_ | refine WPq.blockO rfl ?_ | refine WPc.seq ?_ | refine WPc.block ?_ | refine WPc.ret ?_ | refine WPc.exit ?_ | refine WPc.skip ?_ | refine WPc.region ?_
   | (refine isReg 3 ?_; refine WPc.drA [([14], [26, 27, 31]), ([0, 14], [22, 26, 27, 31]), ([0, 1, 14], [22, 23, 26, 27, 31]), ([0, 1, 2, 14], [22, 23, 24, 26, 27, 31]), ([14], [22, 23, 24, 25, 27, 31]), ([14], [22, 23, 24, 25, 26, 28, 31, 33]), ([0, 1, 2, 3, 4, 14], [22, 23, 24, 25, 26, 27, 31, 33]), ([0, 1, 2, 3, 4, 5, 6, 14], [22, 23, 24, 25, 26, 27, 28, 31, 33]), ([0, 1, 2, 3, 4, 5, 6, 7, 14], [22, 23, 24, 25, 26, 27, 28, 29, 31, 33]), ([14], [22, 23, 24, 25, 26, 27, 28, 29, 30, 33]), ([0, 1, 2, 3, 4, 5, 6, 7, 8, 9, 14], [22, 23, 24, 25, 26, 27, 28, 29, 30, 31, 33]), ([0, 1, 2, 3, 4, 14], [22, 23, 24, 25, 26, 27, 28, 29, 30, 31, 32]), ([0, 1, 2, 3, 4, 5, 6, 7, 8, 9, 10, 11, 14], [22, 23, 24, 25, 26, 27, 28, 29, 30, 31, 32, 33]), ([0, 1, 2, 3, 4, 5, 6, 7, 8, 9, 10, 11, 12, 14], [22, 23, 24, 25, 26, 27, 28, 29, 30, 31, 32, 33, 34])] [(14, 13), (14, 0), (14, 1), (14, 2), (14, 3), (14, 4), (14, 5), (14, 6), (14, 7), (14, 8), (14, 9), (14, 10), (14, 11), (14, 12)] (Γx := [rowN 81 256 vd S.ls.length (secs S.ls)]) ?_; dsimp only [prev0, List.length_nil, List.length_cons])
   | (refine gAny ?_; first | (refine gD 16 ?_; refine RGl.rdX (fun e hk => by (try dsimp only [bndR, ensR, oksR, fcutR, List.append_nil, List.nil_append, List.cons_append, List.append_assoc] at hk ⊢); exact ReadR.binE rfl rfl BinR.lss (congrArg Value.bool (decide_eq_false ha))) ?_) | (refine gD 20 ?_; refine RGl.rdX (fun e hk => by (try dsimp only [bndR, ensR, oksR, fcutR, List.append_nil, List.nil_append, List.cons_append, List.append_assoc] at hk ⊢); exact ReadR.binE rfl rfl BinR.geq (congrArg Value.bool (decide_eq_false ha2))) ?_) | (refine gD 28 ?_; refine RGl.rdX (fun e hk => by (try dsimp only [bndR, ensR, oksR, fcutR, List.append_nil, List.nil_append, List.cons_append, List.append_assoc] at hk ⊢); exact ReadR.indexE (i := j) rfl rfl hasA hjl) ?_) | (refine gD 29 ?_; refine RGl.rdX (fun e hk => by (try dsimp only [bndR, ensR, oksR, fcutR, List.append_nil, List.nil_append, List.cons_append, List.append_assoc] at hk ⊢); exact ReadR.indexEA (i := j * 256) (j := t) rfl rfl hasA ht hi1) ?_) | (refine gD 30 ?_; refine RGl.rdX (fun e hk => by (try dsimp only [bndR, ensR, oksR, fcutR, List.append_nil, List.nil_append, List.cons_append, List.append_assoc] at hk ⊢); exact ReadR.loadE rfl hasA hcell) ?_) | (refine gD 32 ?_; refine RGl.rdX (fun e hk => by (try dsimp only [bndR, ensR, oksR, fcutR, List.append_nil, List.nil_append, List.cons_append, List.append_assoc] at hk ⊢); exact ReadR.binE rfl rfl BinR.xor8 rfl) ?_) | (refine gD 33 ?_; refine RGl.rdX (fun e hk => by (try dsimp only [bndR, ensR, oksR, fcutR, List.append_nil, List.nil_append, List.cons_append, List.append_assoc] at hk ⊢); exact ReadR.indexE (i := j) rfl rfl hasA hjl) ?_) | (refine gD 34 ?_; refine RGl.rdX (fun e hk => by (try dsimp only [bndR, ensR, oksR, fcutR, List.append_nil, List.nil_append, List.cons_append, List.append_assoc] at hk ⊢); exact ReadR.indexEA (i := j * 256) (j := t) rfl rfl hasA ht hi1) ?_) | (refine gOp ?_; (refine RGl.turn (fun e hk => by (try dsimp only [bndR, ensR, oksR, fcutR, List.append_nil, List.nil_append, List.cons_append, List.append_assoc] at hk ⊢); exact OpT.storeEN (i := j * 256 + t) rfl rfl takesA rfl hi2) ?_)) | (refine gD 40 ?_; refine RGl.rdX (fun e hk => by (try dsimp only [bndR, ensR, oksR, fcutR, List.append_nil, List.nil_append, List.cons_append, List.append_assoc] at hk ⊢); exact ReadR.look hwf rfl rfl memA hc0) ?_) | (refine gOp ?_; first | refine RGl.rdA ?_ | refine RGl.rdX (fun e hk => by (try dsimp only [bndR, ensR, oksR, fcutR, List.append_nil, List.nil_append, List.cons_append, List.append_assoc] at hk ⊢); exact readB) ?_) | (refine gSt ?_; refine RGl.stA ?_) | (refine RGl.fin (fun e hk => ?_); (try dsimp only [bndA, ensAR, oksA, List.append_nil, List.nil_append, List.cons_append, List.append_assoc] at hk ⊢); (repeat (obtain ⟨hk1, hk⟩ := hk))) | fail)
   | (refine isCond ?_; first | refine WPc.cT ?_ | refine WPc.cF ?_ | (refine WPc.cQ (fun hc => ?_) (fun hc => ?_) <;> try exact prA))
   | (refine isC 12 ?_; refine WPl.cV c12 ?_ (hΔ := provsG))
   | (refine isD 16 ?_; refine WPl.rdX (ReadR.binE rfl rfl BinR.lss (congrArg Value.bool (decide_eq_false ha))) ?_)
   | (refine isD 20 ?_; refine WPl.rdX (ReadR.binE rfl rfl BinR.geq (congrArg Value.bool (decide_eq_false ha2))) ?_)
   | (refine isD 28 ?_; refine WPl.rdX (ReadR.indexE (i := j) rfl rfl hasA hjl) ?_)
   | (refine isD 29 ?_; refine WPl.rdX (ReadR.indexEA (i := j * 256) (j := t) rfl rfl hasA ht hi1) ?_)
   | (refine isD 30 ?_; refine WPl.rdX (ReadR.loadE rfl hasA hcell) ?_)
   | (refine isD 32 ?_; refine WPl.rdX (ReadR.binE rfl rfl BinR.xor8 rfl) ?_)
   | (refine isD 33 ?_; refine WPl.rdX (ReadR.indexE (i := j) rfl rfl hasA hjl) ?_)
   | (refine isD 34 ?_; refine WPl.rdX (ReadR.indexEA (i := j * 256) (j := t) rfl rfl hasA ht hi1) ?_)
   | (refine isD 40 ?_; refine WPl.rdX (ReadR.look hwf rfl rfl memA hc0) ?_)
   | (refine isOp ?_; first | refine WPl.rd ?_ | refine WPl.sk ?_ | refine WPl.rdB ?_)
   | (refine isSt ?_; first | refine WPl.st1 ?_ | refine WPl.stA ?_ | refine WPl.stEB ?_ | refine WPl.stRB ?_)
   | (show WPl _ _ _ _ _ _ _ (⟨_, .indexAddr _ _ _, _, _, _, _⟩ :: _) _; refine WPl.rdX (ReadR.indexE rfl rfl hasA (by first | assumption | omega)) ?_)
   | (show WPl _ _ _ _ _ _ _ (⟨_, .fieldAddr _ _ _, _, _, _, _⟩ :: _) _; refine WPl.rdX (ReadR.fieldE rfl hasA (by first | assumption | omega)) ?_)
   | (show WPl _ _ _ _ _ _ _ (⟨_, .load _ _, _, _, _, _⟩ :: _) _; first | refine WPl.rdX (ReadR.loadE rfl hasA (by assumption)) ?_ | refine WPl.rdX (ReadR.loadES (by assumption) (by first | assumption | omega) rfl hasA) ?_)
   | (show WPl _ _ _ _ _ _ _ (⟨_, .slice _ _ _ _ _, _, _, _, _⟩ :: _) _; first | refine WPl.rdX (ReadR.sliceH rfl rfl hasA (by omega)) ?_ | refine WPl.rdX (ReadR.sliceL rfl rfl hasA (by omega)) ?_ | refine WPl.rdX (ReadR.sliceLH rfl rfl rfl hasA (by omega) (by omega)) ?_)
   | (refine WPl.spQ (fun hc => ?_) (fun hc => ?_) <;> try exact prA)
   | fail)
  have e0 : rowN 81 256 y.v y.ws.length (secs y.ws) = rowN 81 256 y.v y.ws.length (secs (xorT y.ws t b2 0)) := rfl
  rw [hset, e0]
  have hls' : (S.ls.set j (s0.xor t b2)).length = n := by rw [List.length_set]; exact hnl
  obtain ⟨ls', hls⟩ : ∃ ls', ls' = S.ls.set j (s0.xor t b2) := ⟨_, rfl⟩
  rw [← hls] at hls' ⊢
  first | refine WPc.loop (σ := Nat) (fun st => st ≤ y.ws.length) (fun st => [rowN 81 256 vd S.ls.length (secs ls'), rowN 81 256 y.v y.ws.length (secs (xorT y.ws t b2 st)), bag (mdel S.es (j : Int)), bx gV 79 (dvc S.fu vd mD S.cn), mp secM mD S.es]) (fun st => [(0, hD gV), (1, .int .i64 (j : Int)), (2, .int .i64 (t : Int)), (3, .int .u8 ((b2.toNat : Nat) : Int)), (41, .int .i64 (y.ws.length : Int)), (42, .int .i64 (st : Int))]) (fun st => y.ws.length - st) (0) ?_ takesA frsA (fun st km hx hk => ?_)
  · exact Nat.zero_le _
  have hkm : km = y.ws.length - st := hk
  clear hk
  by_cases hlt : st < y.ws.length
  · obtain ⟨s1, hs1⟩ : ∃ s1, y.ws[st]? = some s1 := ⟨_, List.getElem?_eq_getElem hlt⟩
    obtain ⟨b1, hb1⟩ : ∃ b1, s1.b[t]? = some b1 := ⟨_, List.getElem?_eq_getElem (by rw [s1.len]; exact ht)⟩
    have hx1 := xorT_at (t := t) (b2 := b2) hs1
    have hnx := xorT_next (t := t) (b2 := b2) hs1
    have hxl := xorT_len (ws := y.ws) (t := t) (b2 := b2) (m := st)
    obtain ⟨cur, hcur⟩ : ∃ cur, cur = xorT y.ws t b2 st := ⟨_, rfl⟩
    rw [← hcur] at hx1 hnx hxl ⊢
    have hcell1 := secs_cell hx1 hb1
    have hset1 := secs_setB (b1 := b1 ^^^ b2) hx1 ht (Sec.xor_b hb1)
    rw [hnx] at hset1
    have hsl1 := secs_len cur
    have hi3 : st * 256 < (secs cur).length := by omega
    have hi4 : st * 256 + t < (secs cur).length := by omega
    repeat' (first
     | refine WPl.nil ?_ | refine WPq.then ?_ | refine WPq.thenR ?_ | refine WPq.thenE ?_ | refine WPq.blockN ?_ | refine WPq.blockR ?_ | refine WPq.blockE ?_ | refine WPq.blockO rfl ?_ | refine WPc.seq ?_ | refine WPc.block ?_ | refine WPc.ret ?_ | refine WPc.exit ?_ | refine WPc.skip ?_ | refine WPc.region ?_
     | (refine isReg 7 ?_; refine WPc.drA [([16], [49, 51, 52, 56]), ([0, 16], [45, 49, 51, 52, 56]), ([0, 1, 16], [45, 46, 49, 51, 52, 56]), ([0, 1, 2, 16], [45, 46, 47, 49, 51, 52, 56]), ([16], [45, 46, 47, 48, 51, 52, 56]), ([0, 1, 2, 3, 4, 16], [45, 46, 47, 48, 49, 51, 52, 56]), ([16], [45, 46, 47, 48, 49, 50, 52, 56]), ([16], [45, 46, 47, 48, 49, 50, 51, 53, 56, 58]), ([0, 1, 2, 3, 4, 5, 6, 16], [45, 46, 47, 48, 49, 50, 51, 52, 56, 58]), ([0, 1, 2, 3, 4, 5, 6, 7, 8, 16], [45, 46, 47, 48, 49, 50, 51, 52, 53, 56, 58]), ([0, 1, 2, 3, 4, 5, 6, 7, 8, 9, 16], [45, 46, 47, 48, 49, 50, 51, 52, 53, 54, 56, 58]), ([16], [45, 46, 47, 48, 49, 50, 51, 52, 53, 54, 55, 58]), ([0, 1, 2, 3, 4, 5, 6, 7, 8, 9, 10, 11, 16], [45, 46, 47, 48, 49, 50, 51, 52, 53, 54, 55, 56, 58]), ([0, 1, 2, 3, 4, 5, 6, 16], [45, 46, 47, 48, 49, 50, 51, 52, 53, 54, 55, 56, 57]), ([0, 1, 2, 3, 4, 5, 6, 7, 8, 9, 10, 11, 12, 13, 16], [45, 46, 47, 48, 49, 50, 51, 52, 53, 54, 55, 56, 57, 58]), ([0, 1, 2, 3, 4, 5, 6, 7, 8, 9, 10, 11, 12, 13, 14, 16], [45, 46, 47, 48, 49, 50, 51, 52, 53, 54, 55, 56, 57, 58, 59])] [(16, 15), (16, 0), (16, 1), (16, 2), (16, 3), (16, 4), (16, 5), (16, 6), (16, 7), (16, 8), (16, 9), (16, 10), (16, 11), (16, 12), (16, 13), (16, 14)] (Γx := [rowN 81 256 y.v y.ws.length (secs cur)]) ?_; dsimp only [prev0, List.length_nil, List.length_cons])
     | (refine gAny ?_; first | (refine gD 50 ?_; refine RGl.rdX (fun e hk => by (try dsimp only [bndR, ensR, oksR, fcutR, List.append_nil, List.nil_append, List.cons_append, List.append_assoc] at hk ⊢); exact ReadR.look hwf rfl rfl memA hc0) ?_) | (refine gD 53 ?_; refine RGl.rdX (fun e hk => by (try dsimp only [bndR, ensR, oksR, fcutR, List.append_nil, List.nil_append, List.cons_append, List.append_assoc] at hk ⊢); exact ReadR.indexE (i := st) rfl rfl hasA hlt) ?_) | (refine gD 54 ?_; refine RGl.rdX (fun e hk => by (try dsimp only [bndR, ensR, oksR, fcutR, List.append_nil, List.nil_append, List.cons_append, List.append_assoc] at hk ⊢); exact ReadR.indexEA (i := st * 256) (j := t) rfl rfl hasA ht hi3) ?_) | (refine gD 55 ?_; refine RGl.rdX (fun e hk => by (try dsimp only [bndR, ensR, oksR, fcutR, List.append_nil, List.nil_append, List.cons_append, List.append_assoc] at hk ⊢); exact ReadR.loadE rfl hasA hcell1) ?_) | (refine gD 57 ?_; refine RGl.rdX (fun e hk => by (try dsimp only [bndR, ensR, oksR, fcutR, List.append_nil, List.nil_append, List.cons_append, List.append_assoc] at hk ⊢); exact ReadR.binE rfl rfl BinR.xor8 rfl) ?_) | (refine gD 58 ?_; refine RGl.rdX (fun e hk => by (try dsimp only [bndR, ensR, oksR, fcutR, List.append_nil, List.nil_append, List.cons_append, List.append_assoc] at hk ⊢); exact ReadR.indexE (i := st) rfl rfl hasA hlt) ?_) | (refine gD 59 ?_; refine RGl.rdX (fun e hk => by (try dsimp only [bndR, ensR, oksR, fcutR, List.append_nil, List.nil_append, List.cons_append, List.append_assoc] at hk ⊢); exact ReadR.indexEA (i := st * 256) (j := t) rfl rfl hasA ht hi3) ?_) | (refine gOp ?_; (refine RGl.turn (fun e hk => by (try dsimp only [bndR, ensR, oksR, fcutR, List.append_nil, List.nil_append, List.cons_append, List.append_assoc] at hk ⊢); exact OpT.storeEN (i := st * 256 + t) rfl rfl takesA rfl hi4) ?_)) | (refine gOp ?_; first | refine RGl.rdA ?_ | refine RGl.rdX (fun e hk => by (try dsimp only [bndR, ensR, oksR, fcutR, List.append_nil, List.nil_append, List.cons_append, List.append_assoc] at hk ⊢); exact readB) ?_) | (refine gSt ?_; refine RGl.stA ?_) | (refine RGl.fin (fun e hk => ?_); (try dsimp only [bndA, ensAR, oksA, List.append_nil, List.nil_append, List.cons_append, List.append_assoc] at hk ⊢); (repeat (obtain ⟨hk1, hk⟩ := hk))) | fail)
     | (refine isCond ?_; first | refine WPc.cT ?_ | refine WPc.cF ?_ | (refine WPc.cQ (fun hc => ?_) (fun hc => ?_) <;> try first | exact prA | (exfalso; first | omega)))
     | (refine isD 50 ?_; refine WPl.rdX (ReadR.look hwf rfl rfl memA hc0) ?_)
     | (refine isD 53 ?_; refine WPl.rdX (ReadR.indexE (i := st) rfl rfl hasA hlt) ?_)
     | (refine isD 54 ?_; refine WPl.rdX (ReadR.indexEA (i := st * 256) (j := t) rfl rfl hasA ht hi3) ?_)
     | (refine isD 55 ?_; refine WPl.rdX (ReadR.loadE rfl hasA hcell1) ?_)
     | (refine isD 57 ?_; refine WPl.rdX (ReadR.binE rfl rfl BinR.xor8 rfl) ?_)
     | (refine isD 58 ?_; refine WPl.rdX (ReadR.indexE (i := st) rfl rfl hasA hlt) ?_)
     | (refine isD 59 ?_; refine WPl.rdX (ReadR.indexEA (i := st * 256) (j := t) rfl rfl hasA ht hi3) ?_)
     | (refine isOp ?_; first | refine WPl.rd ?_ | refine WPl.sk ?_ | refine WPl.rdB ?_)
     | (refine isSt ?_; first | refine WPl.st1 ?_ | refine WPl.stA ?_ | refine WPl.stEB ?_ | refine WPl.stRB ?_)
     | (show WPl _ _ _ _ _ _ _ (⟨_, .indexAddr _ _ _, _, _, _, _⟩ :: _) _; refine WPl.rdX (ReadR.indexE rfl rfl hasA (by first | assumption | omega)) ?_)
     | (show WPl _ _ _ _ _ _ _ (⟨_, .fieldAddr _ _ _, _, _, _, _⟩ :: _) _; refine WPl.rdX (ReadR.fieldE rfl hasA (by first | assumption | omega)) ?_)
     | (show WPl _ _ _ _ _ _ _ (⟨_, .load _ _, _, _, _, _⟩ :: _) _; first | refine WPl.rdX (ReadR.loadE rfl hasA (by assumption)) ?_ | refine WPl.rdX (ReadR.loadES (by assumption) (by first | assumption | omega) rfl hasA) ?_)
     | (show WPl _ _ _ _ _ _ _ (⟨_, .slice _ _ _ _ _, _, _, _, _⟩ :: _) _; first | refine WPl.rdX (ReadR.sliceH rfl rfl hasA (by omega)) ?_ | refine WPl.rdX (ReadR.sliceL rfl rfl hasA (by omega)) ?_ | refine WPl.rdX (ReadR.sliceLH rfl rfl rfl hasA (by omega) (by omega)) ?_)
     | (refine WPl.spQ (fun hc => ?_) (fun hc => ?_) <;> try first | exact prA | (exfalso; first | omega))
     | fail)
    rw [hset1]
    exact WPq.rnd (st + 1) hlt (by omega)
  · rw [xorT_all (show y.ws.length ≤ st by omega)]
    repeat' (first
     | refine WPl.nil ?_ | refine WPq.then ?_ | refine WPq.thenR ?_ | refine WPq.thenE ?_ | refine WPq.blockN ?_ | refine WPq.blockR ?_ | refine WPq.blockE ?_ | refine WPq.blockO rfl ?_ | refine WPc.seq ?_ | refine WPc.block ?_ | refine WPc.ret ?_ | refine WPc.exit ?_ | refine WPc.skip ?_ | refine WPc.region ?_
     | (refine isCond ?_; first | refine WPc.cT ?_ | refine WPc.cF ?_ | (refine WPc.cQ (fun hc => ?_) (fun hc => ?_) <;> try first | exact prA | (exfalso; first | omega)))
     | (refine isOp ?_; first | refine WPl.rd ?_ | refine WPl.sk ?_ | refine WPl.rdB ?_)
     | (refine isSt ?_; first | refine WPl.st1 ?_ | refine WPl.stA ?_ | refine WPl.stEB ?_ | refine WPl.stRB ?_)
     | (show WPl _ _ _ _ _ _ _ (⟨_, .indexAddr _ _ _, _, _, _, _⟩ :: _) _; refine WPl.rdX (ReadR.indexE rfl rfl hasA (by first | assumption | omega)) ?_)
     | (show WPl _ _ _ _ _ _ _ (⟨_, .fieldAddr _ _ _, _, _, _, _⟩ :: _) _; refine WPl.rdX (ReadR.fieldE rfl hasA (by first | assumption | omega)) ?_)
     | (show WPl _ _ _ _ _ _ _ (⟨_, .load _ _, _, _, _, _⟩ :: _) _; first | refine WPl.rdX (ReadR.loadE rfl hasA (by assumption)) ?_ | refine WPl.rdX (ReadR.loadES (by assumption) (by first | assumption | omega) rfl hasA) ?_)
     | (show WPl _ _ _ _ _ _ _ (⟨_, .slice _ _ _ _ _, _, _, _, _⟩ :: _) _; first | refine WPl.rdX (ReadR.sliceH rfl rfl hasA (by omega)) ?_ | refine WPl.rdX (ReadR.sliceL rfl rfl hasA (by omega)) ?_ | refine WPl.rdX (ReadR.sliceLH rfl rfl rfl hasA (by omega) (by omega)) ?_)
     | (refine WPl.spQ (fun hc => ?_) (fun hc => ?_) <;> try first | exact prA | (exfalso; first | omega))
     | fail)
    have heq : S.ls.length = ls'.length := by omega
    rw [heq]
    cases hf : mfind S.es (j : Int) with
    | none =>
      have hyn : y = ⟨.slice none 0 0, []⟩ := by rw [hy]; with_unfolding_all (unfold mget; rw [hf]; rfl)
      have hy0 : y.ws = [] := by rw [hyn]
      rw [show (y.ws.map fun s => s.xor t b2) = y.ws by rw [hy0]; rfl]
      refine WPq.vsBack (es := S.es) (j : Int) (by rw [← hy]; exact takesA) ?_
      refine WPq.dX (ho := ownsV) (vs := [.bool true]) (dvA gV mD vd ⟨S.fu, ls', S.es, S.cn⟩) ⟨⟨S.fu, ls', S.es, S.cn⟩, rfl, ?_, ⟨h.f4, h.fb, hls', h.ok⟩, rfl⟩
      show Dv.mk S.fu ls' S.vw.ws S.cn = Dv.mk _ _ _ _
      congr 1
      funext i
      unfold updW
      by_cases hij : i = j
      · rw [if_pos hij, hij, hws, hy0]; rfl
      · rw [if_neg hij]
    | some y0 =>
      have hyy : y = y0 := by rw [hy]; exact mget_of_find hf
      have hfy : mfind S.es (j : Int) = some y := by rw [hyy]; exact hf
      obtain ⟨y', hy'⟩ : ∃ y' : Vs, y' = ⟨y.v, y.ws.map fun s => s.xor t b2⟩ := ⟨_, rfl⟩
      have hv' : y'.v = y.v := by rw [hy']
      have hw' : y'.ws = y.ws.map fun s => s.xor t b2 := by rw [hy']
      have hl' : y'.ws.length = y.ws.length := by rw [hw', List.length_map]
      rw [← mput_same (g := mD) hfy hv', ← hw', ← hv', ← hl']
      refine WPq.vsIn (es := S.es) (j : Int) y' takesA ?_
      obtain ⟨hk1', hk2', hk3'⟩ := h.ok.key _ (mfind_mem hfy)
      refine WPq.dX (ho := ownsV) (vs := [.bool true]) (dvA gV mD vd ⟨S.fu, ls', mput S.es (j : Int) y', S.cn⟩) ⟨⟨S.fu, ls', mput S.es (j : Int) y', S.cn⟩, rfl, ?_, ⟨h.f4, h.fb, hls', ⟨fun z hz => ?_, ?_, h.ok.c0, h.ok.c1⟩⟩, rfl⟩
      · show Dv.mk S.fu ls' (fun i : Nat => (mget secM (mput S.es (j : Int) y') (i : Int)).ws) S.cn = Dv.mk _ _ _ _
        congr 1
        funext i
        rw [mgetw_put, hws]
        unfold updW
        by_cases hij : i = j
        · rw [if_pos (by rw [hij]), if_pos hij, hw']
        · rw [if_neg (by omega), if_neg hij]; rfl
      · rcases mem_mput hz with rfl | hz
        · exact ⟨⟨j, rfl, hj⟩, by show y'.ws ≠ []; rw [hw']; intro h9; exact hk2' (List.map_eq_nil_iff.1 h9), by show y'.ws.length ≤ k; rw [hl']; exact hlw⟩
        · exact h.ok.key z hz
      · show (mput S.es (j : Int) y').length ≤ k
        rw [mput_len, if_pos (by with_unfolding_all (unfold mhas; rw [hfy]; rfl))]
        exact h.ok.len
end
end Go.Proofs.Ytepmikgjnmjheaa
