/- Reference of layer 3 (dev): Read, Write, Fail. -/
import Derived.Test.YtepmikgjnmjheaaEb
namespace Go.Proofs.Ytepmikgjnmjheaa
open Go.RowKit
set_option linter.unusedSimpArgs false
set_option linter.unusedVariables false
set_option maxRecDepth 20000
set_option maxHeartbeats 4000000
attribute [local irreducible] WPc WPl WPq ReadR OpT BinR HasS bx rdN rowN Take Takes Prov Triple ResF BuildP Done ag Int.decLt Int.decLe Int.instDecidableEq
attribute [local irreducible] mp rmp rg rgo bag vrow secs mput mget mfind mdel intsV skeys vault pickG fburn fb1 valsV zAt zB vers
theorem vers_app {Z : Zl} {i : Int} {z : Int × (Value × Sec)} : vers (Z ++ [z]) i = vers Z i ++ if z.1 = i then [z.2] else [] := by
  have h := vers_next (Z := Z ++ [z]) (i := i) (k := Z.length) (z := z) (by simp)
  rw [List.take_of_length_le (by simp), List.take_left] at h
  exact h
theorem RInv.burn {n k : Nat} {R : RfS} (h : RInv n k R) {j : Nat} (hj : j < 4) : RInv n k { R with fu := fburn R.fu j (R.fu.getD j 0) } := by
  refine ⟨h.one, by rw [fburn_len]; exact h.f4, fun i hi => ?_, h.nl, h.lz, h.at', h.inL, h.inZ, h.w0, h.w1⟩
  have := set_in (k := j) h.fb h.f4 (fb1_in (h.fb j hj).1 (h.fb j hj).2) i hi
  with_unfolding_all exact this
theorem RInv.mono {n k k' : Nat} {R : RfS} (h : RInv n k R) (hk : k ≤ k') : RInv n k' R := ⟨h.one, h.f4, h.fb, h.nl, Nat.le_trans h.lz hk, h.at', h.inL, h.inZ, h.w0, by have := h.w1; omega⟩
section
variable (gX : Nat) (n k : Nat) (R : RfS)
theorem rwrNo_t (i : Int) (bv : Value) (l : List UInt8) (h : RInv n k R) (hn : n ≤ 100000) (hl : l.length ≤ 100000) (hi : i < 0 ∨ (n : Int) ≤ i ∨ l.length ≠ 256) :
    Triple Try.prog 53 #[hD gX, .int .i64 i, bv] [rbx gX 51 (rdc R.vL R.vA R.vB R.fu R.wr), rdN R.vL R.L.length (valsV R.L), rb bv l] (RVal (.int .i64 1)) := by
  have hnl := h.nl
  have c9 := rhas_t gX R i (by omega)
  by_cases hh : 0 ≤ i ∧ i < (R.L.length : Int)
  · rw [show (decide (0 ≤ i) && decide (i < (R.L.length : Int))) = true by rw [decide_eq_true hh.1, decide_eq_true hh.2]; rfl] at c9
    have hne : (l.length : Int) ≠ 256 := by omega
    refine Triple.enter Try.func53 rfl Try.ntmps53 rfl (fun W => ?_)
    dsimp only [argsF, Nat.reduceAdd]
    repeat' (first
     | refine WPl.nil ?_ | refine WPq.then ?_ | refine WPq.thenR ?_ | refine WPq.thenE ?_ | refine WPq.blockN ?_ | refine WPq.blockR ?_ | refine WPq.blockE ?_ | refine WPq.blockO rfl ?_ | refine WPc.seq ?_ | refine WPc.block ?_ | refine WPc.ret ?_ | refine WPc.exit ?_ | refine WPc.skip ?_ | refine WPc.region ?_
     | (refine isCond ?_; first | refine WPc.cT ?_ | refine WPc.cF ?_ | (refine WPc.cQ (fun hc => ?_) (fun hc => ?_) <;> try exact prA))
     | (refine isC 9 ?_; refine WPl.cV c9 ?_ (hΔ := provsW))
     | (refine isD 14 ?_; refine WPl.rdX (ReadR.binE rfl rfl BinR.neq (congrArg Value.bool (decide_eq_true hne))) ?_)
     | (refine isOp ?_; first | refine WPl.rd ?_ | refine WPl.sk ?_ | refine WPl.rdB ?_)
     | (refine isSt ?_; first | refine WPl.st1 ?_ | refine WPl.stA ?_ | refine WPl.stEB ?_ | refine WPl.stRB ?_)
     | (show WPl _ _ _ _ _ _ _ (⟨_, .indexAddr _ _ _, _, _, _, _⟩ :: _) _; refine WPl.rdX (ReadR.indexE rfl rfl hasA (by first | assumption | omega)) ?_)
     | (show WPl _ _ _ _ _ _ _ (⟨_, .fieldAddr _ _ _, _, _, _, _⟩ :: _) _; refine WPl.rdX (ReadR.fieldE rfl hasA (by first | assumption | omega)) ?_)
     | (show WPl _ _ _ _ _ _ _ (⟨_, .load _ _, _, _, _, _⟩ :: _) _; first | refine WPl.rdX (ReadR.loadE rfl hasA (by assumption)) ?_ | refine WPl.rdX (ReadR.loadES (by assumption) (by first | assumption | omega) rfl hasA) ?_)
     | (show WPl _ _ _ _ _ _ _ (⟨_, .slice _ _ _ _ _, _, _, _, _⟩ :: _) _; first | refine WPl.rdX (ReadR.sliceH rfl rfl hasA (by omega)) ?_ | refine WPl.rdX (ReadR.sliceL rfl rfl hasA (by omega)) ?_ | refine WPl.rdX (ReadR.sliceLH rfl rfl rfl hasA (by omega) (by omega)) ?_)
     | (refine WPl.spQ (fun hc => ?_) (fun hc => ?_) <;> try exact prA)
     | fail)
    exact WPq.dV
  · rw [show (decide (0 ≤ i) && decide (i < (R.L.length : Int))) = false by rw [Bool.and_eq_false_iff, decide_eq_false_iff_not, decide_eq_false_iff_not]; omega] at c9
    refine Triple.enter Try.func53 rfl Try.ntmps53 rfl (fun W => ?_)
    dsimp only [argsF, Nat.reduceAdd]
    repeat' (first
     | refine WPl.nil ?_ | refine WPq.then ?_ | refine WPq.thenR ?_ | refine WPq.thenE ?_ | refine WPq.blockN ?_ | refine WPq.blockR ?_ | refine WPq.blockE ?_ | refine WPq.blockO rfl ?_ | refine WPc.seq ?_ | refine WPc.block ?_ | refine WPc.ret ?_ | refine WPc.exit ?_ | refine WPc.skip ?_ | refine WPc.region ?_
     | (refine isCond ?_; first | refine WPc.cT ?_ | refine WPc.cF ?_ | (refine WPc.cQ (fun hc => ?_) (fun hc => ?_) <;> try exact prA))
     | (refine isC 9 ?_; refine WPl.cV c9 ?_ (hΔ := provsW))
     | (refine isOp ?_; first | refine WPl.rd ?_ | refine WPl.sk ?_ | refine WPl.rdB ?_)
     | (refine isSt ?_; first | refine WPl.st1 ?_ | refine WPl.stA ?_ | refine WPl.stEB ?_ | refine WPl.stRB ?_)
     | (show WPl _ _ _ _ _ _ _ (⟨_, .indexAddr _ _ _, _, _, _, _⟩ :: _) _; refine WPl.rdX (ReadR.indexE rfl rfl hasA (by first | assumption | omega)) ?_)
     | (show WPl _ _ _ _ _ _ _ (⟨_, .fieldAddr _ _ _, _, _, _, _⟩ :: _) _; refine WPl.rdX (ReadR.fieldE rfl hasA (by first | assumption | omega)) ?_)
     | (show WPl _ _ _ _ _ _ _ (⟨_, .load _ _, _, _, _, _⟩ :: _) _; first | refine WPl.rdX (ReadR.loadE rfl hasA (by assumption)) ?_ | refine WPl.rdX (ReadR.loadES (by assumption) (by first | assumption | omega) rfl hasA) ?_)
     | (show WPl _ _ _ _ _ _ _ (⟨_, .slice _ _ _ _ _, _, _, _, _⟩ :: _) _; first | refine WPl.rdX (ReadR.sliceH rfl rfl hasA (by omega)) ?_ | refine WPl.rdX (ReadR.sliceL rfl rfl hasA (by omega)) ?_ | refine WPl.rdX (ReadR.sliceLH rfl rfl rfl hasA (by omega) (by omega)) ?_)
     | (refine WPl.spQ (fun hc => ?_) (fun hc => ?_) <;> try exact prA)
     | fail)
    exact WPq.dV
theorem rwr_t (j : Nat) (bv : Value) (s : Sec) (h : RInv n k R) (hn : n ≤ 100000) (hkb : k ≤ 90000) (hj : j < n) :
    Triple Try.prog 53 #[hD gX, .int .i64 (j : Int), bv] ([rb bv s.b] ++ rsA gX R) (RRf gX n (k + 1) (.int .i64 (R.vw.wr j s).2) (R.vw.wr j s).1) := by
  have hnl := h.nl
  have hlz := h.lz
  have hsl := s.len
  have h2 := h.fb 2 (by omega)
  have hg := getD_some (fu := R.fu) (k := 2) (by rw [h.f4]; omega)
  have c9 := rhas_t gX R (j : Int) (by omega)
  rw [show (decide (0 ≤ (j : Int)) && decide ((j : Int) < (R.L.length : Int))) = true by rw [decide_eq_true (by omega), decide_eq_true (by omega)]; rfl] at c9
  have hne : ¬ (s.b.length : Int) ≠ 256 := by omega
  have c17 := rburns_t gX R 2 (R.fu.getD 2 0) h.f4 (by omega) hg h2.1 h2.2
  by_cases h0 : R.fu.getD 2 0 = 0
  · have hf : R.vw.fails 2 = true := by show decide (R.fu.getD 2 0 = 0) = true; rw [decide_eq_true h0]
    have hw : R.vw.wr j s = (R.vw.burn 2, 3) := by unfold Dv.wr; rw [if_pos hf]
    rw [hw]
    rw [decide_eq_true h0] at c17
    refine Triple.enter Try.func53 rfl Try.ntmps53 rfl (fun W => ?_)
    dsimp only [argsF, Nat.reduceAdd]
    repeat' (first
     | refine WPl.nil ?_ | refine WPq.then ?_ | refine WPq.thenR ?_ | refine WPq.thenE ?_ | refine WPq.blockN ?_ | refine WPq.blockR ?_ | refine WPq.blockE ?_ | refine WPq.blockO rfl ?_ | refine WPc.seq ?_ | refine WPc.block ?_ | refine WPc.ret ?_ | refine WPc.exit ?_ | refine WPc.skip ?_ | refine WPc.region ?_
     | (refine isCond ?_; first | refine WPc.cT ?_ | refine WPc.cF ?_ | (refine WPc.cQ (fun hc => ?_) (fun hc => ?_) <;> try exact prA))
     | (refine isC 9 ?_; refine WPl.cV c9 ?_ (hΔ := provsW))
     | (refine isD 14 ?_; refine WPl.rdX (ReadR.binE rfl rfl BinR.neq (congrArg Value.bool (decide_eq_false hne))) ?_)
     | (refine isC 17 ?_; refine WPl.cTs (c17) ?_; (try dsimp only [putF, List.cons_append, List.nil_append]))
     | (refine isOp ?_; first | refine WPl.rd ?_ | refine WPl.sk ?_ | refine WPl.rdB ?_)
     | (refine isSt ?_; first | refine WPl.st1 ?_ | refine WPl.stA ?_ | refine WPl.stEB ?_ | refine WPl.stRB ?_)
     | (show WPl _ _ _ _ _ _ _ (⟨_, .indexAddr _ _ _, _, _, _, _⟩ :: _) _; refine WPl.rdX (ReadR.indexE rfl rfl hasA (by first | assumption | omega)) ?_)
     | (show WPl _ _ _ _ _ _ _ (⟨_, .fieldAddr _ _ _, _, _, _, _⟩ :: _) _; refine WPl.rdX (ReadR.fieldE rfl hasA (by first | assumption | omega)) ?_)
     | (show WPl _ _ _ _ _ _ _ (⟨_, .load _ _, _, _, _, _⟩ :: _) _; first | refine WPl.rdX (ReadR.loadE rfl hasA (by assumption)) ?_ | refine WPl.rdX (ReadR.loadES (by assumption) (by first | assumption | omega) rfl hasA) ?_)
     | (show WPl _ _ _ _ _ _ _ (⟨_, .slice _ _ _ _ _, _, _, _, _⟩ :: _) _; first | refine WPl.rdX (ReadR.sliceH rfl rfl hasA (by omega)) ?_ | refine WPl.rdX (ReadR.sliceL rfl rfl hasA (by omega)) ?_ | refine WPl.rdX (ReadR.sliceLH rfl rfl rfl hasA (by omega) (by omega)) ?_)
     | (refine WPl.spQ (fun hc => ?_) (fun hc => ?_) <;> try exact prA)
     | fail)
    refine WPq.dX (ho := ownsW) (vs := [.int .i64 3]) (rsA gX { R with fu := fburn R.fu 2 (R.fu.getD 2 0) }) ⟨_, rfl, rfl, (h.burn (by omega)).mono (Nat.le_succ _), rfl⟩
  · have hf : R.vw.fails 2 = false := by show decide (R.fu.getD 2 0 = 0) = false; rw [decide_eq_false h0]
    have hw : R.vw.wr j s = ({ R.vw.burn 2 with ws := updW R.vw.ws j (R.vw.ws j ++ [s]), cn := R.vw.cn + 1 }, 0) := by unfold Dv.wr; rw [if_neg (by rw [hf]; simp)]
    rw [hw]
    rw [decide_eq_false h0] at c17
    have hw0 := h.w0
    have hw1 := h.w1
    have hfl := h.f4
    obtain ⟨fu', hfu'⟩ : ∃ fu', fu' = fburn R.fu 2 (R.fu.getD 2 0) := ⟨_, rfl⟩
    rw [← hfu'] at c17
    have hbl : ([] ++ s.b : List UInt8).length = 256 := hsl
    refine Triple.enter Try.func53 rfl Try.ntmps53 rfl (fun W => ?_)
    dsimp only [argsF, Nat.reduceAdd]
    repeat' (first
     | refine WPl.nil ?_ | refine WPq.then ?_ | refine WPq.thenR ?_ | refine WPq.thenE ?_ | refine WPq.blockN ?_ | refine WPq.blockR ?_ | refine WPq.blockE ?_ | refine WPq.blockO rfl ?_ | refine WPc.seq ?_ | refine WPc.block ?_ | refine WPc.ret ?_ | refine WPc.exit ?_ | refine WPc.skip ?_ | refine WPc.region ?_
     | (refine isReg 5 ?_; refine WPc.drA [([24, 25, 26], [19, 20, 21, 22, 23, 24, 25, 26, 27, 28, 29, 30, 31, 32, 33, 34, 35]), ([24, 25, 26], [18, 20, 21, 22, 23, 24, 25, 26, 27, 28, 29, 30, 31, 32, 33, 34, 35, 36, 37]), ([24, 25, 26], [18, 19, 24, 25, 27, 28, 29, 30, 31, 32]), ([2, 24, 25, 26], [18, 19, 20, 24, 25, 27, 28, 29, 30, 31, 32]), ([2, 3, 24, 25, 26], [18, 19, 20, 21, 24, 25, 27, 28, 29, 30, 31, 32]), ([2, 3, 4, 24, 25, 26], [18, 19, 20, 21, 22, 24, 25, 27, 28, 29, 30, 31, 32]), ([24, 25, 26], [18, 19, 20, 21, 22, 23, 27, 28, 29, 30, 31, 32]), ([6, 24, 25, 26], [18, 19, 20, 21, 22, 23, 24, 27, 28, 29, 30, 31, 32]), ([2, 3, 4, 5, 6, 7, 24, 25, 26], [18, 19, 20, 21, 22, 23, 24, 25, 27, 28, 29, 30, 31, 32]), ([24, 25, 26], [18, 19, 20, 21, 22, 23, 24, 25, 26, 31, 32, 33, 34]), ([9, 24, 25, 26], [18, 19, 20, 21, 22, 23, 24, 25, 26, 27, 31, 32, 33, 34]), ([9, 10, 24, 25, 26], [18, 19, 20, 21, 22, 23, 24, 25, 26, 27, 28, 31, 32, 33, 34]), ([9, 10, 11, 24, 25, 26], [18, 19, 20, 21, 22, 23, 24, 25, 26, 27, 28, 29, 31, 32, 33, 34]), ([24, 25, 26], [18, 19, 20, 21, 22, 23, 24, 25, 26, 27, 28, 29, 30, 32]), ([24, 25, 26], [18, 19, 20, 21, 22, 23, 24, 25, 26, 27, 28, 29, 30, 31]), ([2, 3, 4, 5, 6, 7, 8, 13, 14, 24, 25, 26], [18, 19, 20, 21, 22, 23, 24, 25, 26, 27, 28, 29, 30, 31, 32]), ([2, 3, 4, 5, 6, 7, 8, 13, 14, 15, 24, 25, 26], [18, 19, 20, 21, 22, 23, 24, 25, 26, 27, 28, 29, 30, 31, 32, 33]), ([2, 3, 4, 5, 6, 7, 8, 9, 10, 11, 12, 13, 14, 15, 16, 24, 25, 26], [18, 19, 20, 21, 22, 23, 24, 25, 26, 27, 28, 29, 30, 31, 32, 33, 34]), ([0, 2, 3, 4, 5, 6, 7, 8, 9, 10, 11, 12, 13, 14, 15, 16, 17, 24, 25, 26], [18, 19, 20, 21, 22, 23, 24, 25, 26, 27, 28, 29, 30, 31, 32, 33, 34, 35]), ([0, 2, 3, 4, 5, 6, 7, 8, 9, 10, 11, 12, 13, 14, 15, 16, 17, 18, 24, 25, 26], [18, 19, 20, 21, 22, 23, 24, 25, 26, 27, 28, 29, 30, 31, 32, 33, 34, 35, 36]), ([0, 2, 3, 4, 5, 6, 7, 8, 9, 10, 11, 12, 13, 14, 15, 16, 17, 18, 19, 24, 25, 26], [18, 19, 20, 21, 22, 23, 24, 25, 26, 27, 28, 29, 30, 31, 32, 33, 34, 35, 36, 37]), ([0, 1, 2, 3, 4, 5, 6, 7, 8, 9, 10, 11, 12, 13, 14, 15, 16, 17, 18, 19, 20, 24, 25, 26], [18, 19, 20, 21, 22, 23, 24, 25, 26, 27, 28, 29, 30, 31, 32, 33, 34, 35, 36, 37]), ([0, 1, 2, 3, 4, 5, 6, 7, 8, 9, 10, 11, 12, 13, 14, 15, 16, 17, 18, 19, 20, 21, 24, 25, 26], [18, 19, 20, 21, 22, 23, 24, 25, 26, 27, 28, 29, 30, 31, 32, 33, 34, 35, 36, 37, 38]), ([0, 1, 2, 3, 4, 5, 6, 7, 8, 9, 10, 11, 12, 13, 14, 15, 16, 17, 18, 19, 20, 21, 22, 24, 25, 26], [18, 19, 20, 21, 22, 23, 24, 25, 26, 27, 28, 29, 30, 31, 32, 33, 34, 35, 36, 37, 38, 39])] [(25, 8), (13, 15), (26, 17), (24, 20), (20, 23), (25, 2), (25, 3), (25, 4), (25, 5), (25, 6), (25, 7), (26, 2), (26, 3), (26, 4), (26, 5), (26, 6), (26, 7), (26, 8), (26, 9), (26, 10), (26, 11), (26, 12), (26, 13), (26, 14), (26, 15), (26, 16), (24, 0), (24, 2), (24, 3), (24, 4), (24, 5), (24, 6), (24, 7), (24, 8), (24, 9), (24, 10), (24, 11), (24, 12), (24, 13), (24, 14), (24, 15), (24, 16), (24, 17), (24, 18), (24, 19), (20, 21), (20, 22)] (Γx := [bx gX 51 (rdc R.vL R.vA R.vB fu' R.wr), rowN 3 1 R.vA R.Z.length (intsV (zAt R.Z)), rowN 31 1 R.vB R.Z.length (valsV (zB R.Z))]) ?_; dsimp only [prev0, List.length_nil, List.length_cons])
     | (refine gAny ?_; first | (refine gC 17 ?_; refine RGl.turns (fun e hk => by (try dsimp only [bndR, ensR, oksR, fcutR, List.append_nil, List.nil_append, List.cons_append, List.append_assoc] at hk ⊢); exact OpT.callTs (c17)) ?_) | (refine gD 26 ?_; refine RGl.row (Γ1 := fun e => [rowN 3 1 R.vA R.Z.length ((intsV (zAt R.Z)))]) (m := fun e => R.Z.length + 1) (xs := fun e => (intsV (zAt R.Z)) ++ [Value.int .i64 (j : Int)]) (fun e hk => by (try dsimp only [bndR, ensR, oksR, fcutR, List.append_nil, List.nil_append, List.cons_append, List.append_assoc] at hk ⊢); exact OpT.appendN (m := R.Z.length) (m2 := 1) (xs := (intsV (zAt R.Z))) (ys := [Value.int .i64 (j : Int)]) rfl rfl takesA (hasA) rfl (fun u hu => by rw [List.mem_singleton.1 hu]; rfl) (by omega)) ?_) | (refine gD 35 ?_; refine RGl.row (Γ1 := fun e => [rowN 31 1 R.vB R.Z.length ((valsV (zB R.Z)))]) (m := fun e => R.Z.length + 1) (xs := fun e => (valsV (zB R.Z)) ++ [(e 15).1]) (fun e hk => by (try dsimp only [bndR, ensR, oksR, fcutR, List.append_nil, List.nil_append, List.cons_append, List.append_assoc] at hk ⊢); exact OpT.appendN (m := R.Z.length) (m2 := 1) (xs := (valsV (zB R.Z))) (ys := [(e 15).1]) rfl rfl takesA (hasA) rfl (fun u hu => by rw [List.mem_singleton.1 hu]; (repeat (obtain ⟨hk1, hk⟩ := hk)) <;> assumption) (by omega)) ?_) | (refine gSt ?_; refine RGl.turn (fun e hk => by (try dsimp only [bndR, ensR, oksR, fcutR, List.append_nil, List.nil_append, List.cons_append, List.append_assoc] at hk ⊢); exact OpT.store1 rfl rfl takesA (by (repeat (obtain ⟨hk1, hk⟩ := hk)) <;> assumption) (by dsimp only [sel, takeCh, upd, dropCh, appCh, setAt, chAt, Option.map_some, List.cons_append, List.nil_append, Nat.reduceSub, Nat.reduceAdd] <;> exact rfl)) ?_) | (refine gD 14 ?_; refine RGl.rdX (fun e hk => by (try dsimp only [bndR, ensR, oksR, fcutR, List.append_nil, List.nil_append, List.cons_append, List.append_assoc] at hk ⊢); exact ReadR.binE rfl rfl BinR.neq (congrArg Value.bool (decide_eq_false hne))) ?_) | (refine gOp ?_; first | refine RGl.rdA ?_ | refine RGl.rdX (fun e hk => by (try dsimp only [bndR, ensR, oksR, fcutR, List.append_nil, List.nil_append, List.cons_append, List.append_assoc] at hk ⊢); exact readB) ?_) | (refine gLit ?_; refine RGl.litA ?_) | (refine gApp ?_; refine RGl.appA ?_) | (refine gSt ?_; refine RGl.stA ?_) | (refine RGl.fin (fun e hk => ?_); (try dsimp only [bndA, ensAR, oksA, List.append_nil, List.nil_append, List.cons_append, List.append_assoc] at hk ⊢); (repeat (obtain ⟨hk1, hk⟩ := hk))) | fail)
     | (refine isCond ?_; first | refine WPc.cT ?_ | refine WPc.cF ?_ | (refine WPc.cQ (fun hc => ?_) (fun hc => ?_) <;> try exact prA))
     | (refine isC 9 ?_; refine WPl.cV c9 ?_ (hΔ := provsW))
     | (refine isD 14 ?_; refine WPl.rdX (ReadR.binE rfl rfl BinR.neq (congrArg Value.bool (decide_eq_false hne))) ?_)
     | (refine isC 17 ?_; refine WPl.cTs (c17) ?_; (try dsimp only [putF, List.cons_append, List.nil_append]))
     | (refine isOp ?_; first | refine WPl.rd ?_ | refine WPl.sk ?_ | refine WPl.rdB ?_)
     | (refine isSt ?_; first | refine WPl.st1 ?_ | refine WPl.stA ?_ | refine WPl.stEB ?_ | refine WPl.stRB ?_)
     | (show WPl _ _ _ _ _ _ _ (⟨_, .indexAddr _ _ _, _, _, _, _⟩ :: _) _; refine WPl.rdX (ReadR.indexE rfl rfl hasA (by first | assumption | omega)) ?_)
     | (show WPl _ _ _ _ _ _ _ (⟨_, .fieldAddr _ _ _, _, _, _, _⟩ :: _) _; refine WPl.rdX (ReadR.fieldE rfl hasA (by first | assumption | omega)) ?_)
     | (show WPl _ _ _ _ _ _ _ (⟨_, .load _ _, _, _, _, _⟩ :: _) _; first | refine WPl.rdX (ReadR.loadE rfl hasA (by assumption)) ?_ | refine WPl.rdX (ReadR.loadES (by assumption) (by first | assumption | omega) rfl hasA) ?_)
     | (show WPl _ _ _ _ _ _ _ (⟨_, .slice _ _ _ _ _, _, _, _, _⟩ :: _) _; first | refine WPl.rdX (ReadR.sliceH rfl rfl hasA (by omega)) ?_ | refine WPl.rdX (ReadR.sliceL rfl rfl hasA (by omega)) ?_ | refine WPl.rdX (ReadR.sliceLH rfl rfl rfl hasA (by omega) (by omega)) ?_)
     | (refine WPl.spQ (fun hc => ?_) (fun hc => ?_) <;> try exact prA)
     | fail)
    dsimp only [Nat.reduceAdd] at *
    have h8 : (e 8).1.oneCell' = true := by assumption
    have h15 : (e 15).1.oneCell' = true := by assumption
    have h17 : (e 17).1.oneCell' = true := by assumption
    obtain ⟨z, hz⟩ : ∃ z : Int × (Value × Sec), z = ((j : Int), ((e 15).1, s)) := ⟨_, rfl⟩
    rw [show nbs [] ++ s.b = s.b from rfl]
    refine WPq.vaultIn (A := ob (e 15).1 s.b) (v := (e 15).1) (s := s) .ob ?_
    rw [show valsV (zB R.Z) ++ [(e 15).1] = valsV (zB (R.Z ++ [z])) by rw [hz]; with_unfolding_all (unfold valsV zB; rw [List.map_append, List.map_append]; rfl), show intsV (zAt R.Z) ++ [Value.int .i64 (j : Int)] = intsV (zAt (R.Z ++ [z])) by rw [hz]; with_unfolding_all (unfold intsV zAt; rw [List.map_append, List.map_append]; rfl), show R.Z.length + 1 = (R.Z ++ [z]).length by rw [List.length_append]; rfl]
    refine WPq.dX (ho := ownsW) (vs := [.int .i64 0]) (rsA gX ⟨R.vL, R.L, (e 8).1, (e 17).1, R.Z ++ [z], fu', R.wr + 1, ((e 15).1, s) :: R.rs⟩) ⟨_, rfl, ?_, ?_, rfl⟩
    · show Dv.mk fu' _ (fun i : Nat => (vers (R.Z ++ [z]) (i : Int)).map (·.2)) _ = Dv.mk (fburn R.fu 2 (R.fu.getD 2 0)) _ _ _
      rw [hfu']
      congr 1
      funext i
      show _ = updW (fun j : Nat => (vers R.Z (j : Int)).map (·.2)) j ((vers R.Z (j : Int)).map (·.2) ++ [s]) i
      rw [vers_app, hz]
      unfold updW
      by_cases hij : i = j
      · subst hij; rw [if_pos rfl, if_pos rfl, List.map_append]; rfl
      · rw [if_neg (by show ¬ (j : Int) = (i : Int); omega), if_neg hij, List.append_nil]
    · have hb := h.burn (j := 2) (by omega)
      refine ⟨⟨h.one.1, h8, h17⟩, by rw [hfu']; exact hb.f4, by rw [hfu']; exact hb.fb, h.nl, by show (R.Z ++ [z]).length ≤ k + 1; rw [List.length_append]; show _ + 1 ≤ k + 1; omega, fun y hy => ?_, fun x hx => ⟨List.mem_cons_of_mem _ (h.inL x hx).1, (h.inL x hx).2⟩, fun y hy => ?_, by show 0 ≤ R.wr + 1; omega, by show R.wr + 1 ≤ ((k + 1 : Nat) : Int); omega⟩
      · rcases List.mem_append.1 hy with hy | hy
        · exact h.at' y hy
        · rw [List.mem_singleton.1 hy, hz]; exact ⟨j, rfl, hj⟩
      · rcases List.mem_append.1 hy with hy | hy
        · exact ⟨List.mem_cons_of_mem _ (h.inZ y hy).1, (h.inZ y hy).2⟩
        · rw [List.mem_singleton.1 hy, hz]; exact ⟨List.mem_cons_self .., h15⟩
def RRfr (gX n k : Nat) (er : Int) (x : Sec) (D : Dv) : Value → List Asn → Prop := fun v Γ => ∃ R c, v = .tuple #[c, .int .i64 er] ∧ c.oneCell' = true ∧ (c, x) ∈ R.rs ∧ R.vw = D ∧ RInv n k R ∧ Γ = rsA gX R
def RRfe (gX n k : Nat) (er : Int) (D : Dv) : Value → List Asn → Prop := fun v Γ => ∃ R c, v = .tuple #[c, .int .i64 er] ∧ c.oneCell' = true ∧ R.vw = D ∧ RInv n k R ∧ Γ = ob c [] :: rsA gX R
theorem nowR_vw (h : RInv n k R) (j : Nat) (hj : j < n) : (nowR R j).2 = R.vw.now j := by
  show _ = ((vers R.Z (j : Int)).map (·.2)).getLastD ((R.L.map (·.2)).getD j (secF 0))
  unfold nowR
  rw [List.getLastD_eq_getLast?, List.getLastD_eq_getLast?, List.getLast?_map]
  cases (vers R.Z (j : Int)).getLast? with
  | some x => rfl
  | none =>
    have hl : j < R.L.length := by rw [h.nl]; exact hj
    show (R.L.getD j _).2 = (R.L.map (·.2)).getD j (secF 0)
    rw [List.getD_eq_getElem?_getD, List.getD_eq_getElem?_getD, List.getElem?_map, List.getElem?_eq_getElem hl]; rfl
theorem rrd_t (j : Nat) (h : RInv n k R) (hn : n ≤ 100000) (hkb : k ≤ 100000) (hj : j < n) (h0 : R.vw.fails 1 = false) :
    Triple Try.prog 49 #[hD gX, .int .i64 (j : Int)] (rsA gX R) (RRfr gX n k 0 (R.vw.now j) (R.vw.burn 1)) := by
  have hnl := h.nl
  have h2 := h.fb 1 (by omega)
  have hg := getD_some (fu := R.fu) (k := 1) (by rw [h.f4]; omega)
  have c8 := rhas_t gX R (j : Int) (by omega)
  rw [show (decide (0 ≤ (j : Int)) && decide ((j : Int) < (R.L.length : Int))) = true by rw [decide_eq_true (by omega), decide_eq_true (by omega)]; rfl] at c8
  have c12 := rburns_t gX R 1 (R.fu.getD 1 0) h.f4 (by omega) hg h2.1 h2.2
  rw [show decide (R.fu.getD 1 0 = 0) = false from h0] at c12
  obtain ⟨fu', hfu'⟩ : ∃ fu', fu' = fburn R.fu 1 (R.fu.getD 1 0) := ⟨_, rfl⟩
  rw [← hfu'] at c12
  have hb := h.burn (j := 1) (by omega)
  rw [← hfu'] at hb
  have c16 := rnow_t gX n k { R with fu := fu' } j hb hkb hn hj
  rw [← nowR_vw n k R h j hj]
  have hin := h.now hj
  obtain ⟨x, hx⟩ : ∃ x, x = nowR R j := ⟨_, rfl⟩
  rw [show nowR { R with fu := fu' } j = x from hx.symm] at c16
  rw [← hx] at hin ⊢
  refine Triple.enter Try.func49 rfl Try.ntmps49 rfl (fun W => ?_)
  dsimp only [argsF, Nat.reduceAdd]
  repeat' (first
   | refine WPl.nil ?_ | refine WPq.then ?_ | refine WPq.thenR ?_ | refine WPq.thenE ?_ | refine WPq.blockN ?_ | refine WPq.blockR ?_ | refine WPq.blockE ?_ | refine WPq.blockO rfl ?_ | refine WPc.seq ?_ | refine WPc.block ?_ | refine WPc.ret ?_ | refine WPc.exit ?_ | refine WPc.skip ?_ | refine WPc.region ?_
   | (refine isCond ?_; first | refine WPc.cT ?_ | refine WPc.cF ?_ | (refine WPc.cQ (fun hc => ?_) (fun hc => ?_) <;> try exact prA))
   | (refine isC 8 ?_; refine WPl.cV c8 ?_ (hΔ := provsW))
   | (refine isC 12 ?_; refine WPl.cTs (c12) ?_; (try dsimp only [putF, List.cons_append, List.nil_append]))
   | (refine isC 16 ?_; refine WPl.cV c16 ?_ (hΔ := provsW))
   | (refine isOp ?_; first | refine WPl.rd ?_ | refine WPl.sk ?_ | refine WPl.rdB ?_)
   | (show WPl _ _ _ _ _ _ _ (⟨_, .indexAddr _ _ _, _, _, _, _⟩ :: _) _; refine WPl.rdX (ReadR.indexE rfl rfl hasA (by first | assumption | omega)) ?_)
   | (show WPl _ _ _ _ _ _ _ (⟨_, .fieldAddr _ _ _, _, _, _, _⟩ :: _) _; refine WPl.rdX (ReadR.fieldE rfl hasA (by first | assumption | omega)) ?_)
   | (show WPl _ _ _ _ _ _ _ (⟨_, .load _ _, _, _, _, _⟩ :: _) _; first | refine WPl.rdX (ReadR.loadE rfl hasA (by assumption)) ?_ | refine WPl.rdX (ReadR.loadES (by assumption) (by first | assumption | omega) rfl hasA) ?_)
   | (show WPl _ _ _ _ _ _ _ (⟨_, .slice _ _ _ _ _, _, _, _, _⟩ :: _) _; first | refine WPl.rdX (ReadR.sliceH rfl rfl hasA (by omega)) ?_ | refine WPl.rdX (ReadR.sliceL rfl rfl hasA (by omega)) ?_ | refine WPl.rdX (ReadR.sliceLH rfl rfl rfl hasA (by omega) (by omega)) ?_)
   | (refine WPl.spQ (fun hc => ?_) (fun hc => ?_) <;> try exact prA)
   | fail)
  refine WPq.dX (ho := ownsW) (vs := [x.1, .int .i64 0]) (rsA gX { R with fu := fu' }) ⟨{ R with fu := fu' }, x.1, rfl, hin.2, hin.1, by rw [hfu']; rfl, hb, rfl⟩
theorem rrdF_t (j : Nat) (h : RInv n k R) (hn : n ≤ 100000) (hkb : k ≤ 100000) (hj : j < n) (h0 : R.vw.fails 1 = true) :
    Triple Try.prog 49 #[hD gX, .int .i64 (j : Int)] (rsA gX R) (RRfe gX n k 3 (R.vw.burn 1)) := by
  have hnl := h.nl
  have h2 := h.fb 1 (by omega)
  have hg := getD_some (fu := R.fu) (k := 1) (by rw [h.f4]; omega)
  have c8 := rhas_t gX R (j : Int) (by omega)
  rw [show (decide (0 ≤ (j : Int)) && decide ((j : Int) < (R.L.length : Int))) = true by rw [decide_eq_true (by omega), decide_eq_true (by omega)]; rfl] at c8
  have c12 := rburns_t gX R 1 (R.fu.getD 1 0) h.f4 (by omega) hg h2.1 h2.2
  rw [show decide (R.fu.getD 1 0 = 0) = true from h0] at c12
  obtain ⟨fu', hfu'⟩ : ∃ fu', fu' = fburn R.fu 1 (R.fu.getD 1 0) := ⟨_, rfl⟩
  rw [← hfu'] at c12
  have hb := h.burn (j := 1) (by omega)
  rw [← hfu'] at hb
  refine Triple.enter Try.func49 rfl Try.ntmps49 rfl (fun W => ?_)
  dsimp only [argsF, Nat.reduceAdd]
  repeat' (first
   | refine WPl.nil ?_ | refine WPq.then ?_ | refine WPq.thenR ?_ | refine WPq.thenE ?_ | refine WPq.blockN ?_ | refine WPq.blockR ?_ | refine WPq.blockE ?_ | refine WPq.blockO rfl ?_ | refine WPc.seq ?_ | refine WPc.block ?_ | refine WPc.ret ?_ | refine WPc.exit ?_ | refine WPc.skip ?_ | refine WPc.region ?_
   | (refine isCond ?_; first | refine WPc.cT ?_ | refine WPc.cF ?_ | (refine WPc.cQ (fun hc => ?_) (fun hc => ?_) <;> try exact prA))
   | (refine isC 8 ?_; refine WPl.cV c8 ?_ (hΔ := provsW))
   | (refine isC 12 ?_; refine WPl.cTs (c12) ?_; (try dsimp only [putF, List.cons_append, List.nil_append]))
   | (refine isLit ?_; refine WPl.lit fun v13 hv13 => ?_)
   | (refine isOp ?_; first | refine WPl.rd ?_ | refine WPl.sk ?_ | refine WPl.rdB ?_)
   | (show WPl _ _ _ _ _ _ _ (⟨_, .indexAddr _ _ _, _, _, _, _⟩ :: _) _; refine WPl.rdX (ReadR.indexE rfl rfl hasA (by first | assumption | omega)) ?_)
   | (show WPl _ _ _ _ _ _ _ (⟨_, .fieldAddr _ _ _, _, _, _, _⟩ :: _) _; refine WPl.rdX (ReadR.fieldE rfl hasA (by first | assumption | omega)) ?_)
   | (show WPl _ _ _ _ _ _ _ (⟨_, .load _ _, _, _, _, _⟩ :: _) _; first | refine WPl.rdX (ReadR.loadE rfl hasA (by assumption)) ?_ | refine WPl.rdX (ReadR.loadES (by assumption) (by first | assumption | omega) rfl hasA) ?_)
   | (show WPl _ _ _ _ _ _ _ (⟨_, .slice _ _ _ _ _, _, _, _, _⟩ :: _) _; first | refine WPl.rdX (ReadR.sliceH rfl rfl hasA (by omega)) ?_ | refine WPl.rdX (ReadR.sliceL rfl rfl hasA (by omega)) ?_ | refine WPl.rdX (ReadR.sliceLH rfl rfl rfl hasA (by omega) (by omega)) ?_)
   | (refine WPl.spQ (fun hc => ?_) (fun hc => ?_) <;> try exact prA)
   | fail)
  refine WPq.dX (ho := ownsW) (vs := [v13, .int .i64 3]) (ob v13 [] :: rsA gX { R with fu := fu' }) ⟨{ R with fu := fu' }, v13, rfl, hv13, by rw [hfu']; rfl, hb, rfl⟩
theorem rfail_t (w a : Int) (h : RInv n k R) (ha : in64 a) :
    Triple Try.prog 51 #[hD gX, .int .i64 w, .int .i64 a] (rsA gX R) (RRf gX n k (.int .i64 (R.vw.fail w a).2) (R.vw.fail w a).1) := by
  by_cases hg : fgood w a = true
  · have hw : R.vw.fail w a = ({ R.vw with fu := R.vw.fu.set w.toNat a }, 0) := by unfold Dv.fail; rw [if_pos hg]
    rw [hw]
    unfold fgood at hg
    rw [Bool.and_eq_true, Bool.and_eq_true, decide_eq_true_eq, decide_eq_true_eq, decide_eq_true_eq] at hg
    obtain ⟨⟨g1, g2⟩, g3⟩ := hg
    obtain ⟨j, rfl⟩ : ∃ j : Nat, w = (j : Int) := ⟨w.toNat, by omega⟩
    have hjl : j < (intsV R.fu).length := by rw [intsV_len, h.f4]; omega
    have hj4 : j < 4 := by omega
    refine Triple.enter Try.func51 rfl Try.ntmps51 rfl (fun W => ?_)
    dsimp only [argsF, Nat.reduceAdd]
    repeat' (first
     | refine WPl.nil ?_ | refine WPq.then ?_ | refine WPq.thenR ?_ | refine WPq.thenE ?_ | refine WPq.blockN ?_ | refine WPq.blockR ?_ | refine WPq.blockE ?_ | refine WPq.blockO rfl ?_ | refine WPc.seq ?_ | refine WPc.block ?_ | refine WPc.ret ?_ | refine WPc.exit ?_ | refine WPc.skip ?_ | refine WPc.region ?_
     | (refine isCond ?_; first | refine WPc.cT ?_ | refine WPc.cF ?_ | (refine WPc.cQ (fun hc => ?_) (fun hc => ?_) <;> try exact prA))
     | (refine isD 8 ?_; refine WPl.rdX (ReadR.binE rfl rfl BinR.lss (congrArg Value.bool (decide_eq_false (by omega)))) ?_)
     | (refine isD 11 ?_; refine WPl.rdX (ReadR.binE rfl rfl BinR.gtr (congrArg Value.bool (decide_eq_false (by omega)))) ?_)
     | (refine isD 15 ?_; refine WPl.rdX (ReadR.binE rfl rfl BinR.lss (congrArg Value.bool (decide_eq_false (by omega)))) ?_)
     | (show WPl _ _ _ _ _ _ _ (⟨none, .store _ (.tmp 22) _, _, _, _, _⟩ :: _) _; refine WPl.turn (.cons takeA .nil) rfl rfl (OpT.storeR (i := j) rfl rfl (.cons takeA .nil) rfl rfl hjl rfl) ?_)
     | (refine isOp ?_; first | refine WPl.rd ?_ | refine WPl.sk ?_ | refine WPl.rdB ?_)
     | (refine isSt ?_; first | refine WPl.st1 ?_ | refine WPl.stA ?_ | refine WPl.stEB ?_ | refine WPl.stRB ?_)
     | (show WPl _ _ _ _ _ _ _ (⟨_, .indexAddr _ _ _, _, _, _, _⟩ :: _) _; refine WPl.rdX (ReadR.indexE rfl rfl hasA (by first | assumption | omega)) ?_)
     | (show WPl _ _ _ _ _ _ _ (⟨_, .fieldAddr _ _ _, _, _, _, _⟩ :: _) _; refine WPl.rdX (ReadR.fieldE rfl hasA (by first | assumption | omega)) ?_)
     | (show WPl _ _ _ _ _ _ _ (⟨_, .load _ _, _, _, _, _⟩ :: _) _; first | refine WPl.rdX (ReadR.loadE rfl hasA (by assumption)) ?_ | refine WPl.rdX (ReadR.loadES (by assumption) (by first | assumption | omega) rfl hasA) ?_)
     | (show WPl _ _ _ _ _ _ _ (⟨_, .slice _ _ _ _ _, _, _, _, _⟩ :: _) _; first | refine WPl.rdX (ReadR.sliceH rfl rfl hasA (by omega)) ?_ | refine WPl.rdX (ReadR.sliceL rfl rfl hasA (by omega)) ?_ | refine WPl.rdX (ReadR.sliceLH rfl rfl rfl hasA (by omega) (by omega)) ?_)
     | (refine WPl.spQ (fun hc => ?_) (fun hc => ?_) <;> try exact prA)
     | fail)
    have h2 : rdc R.vL R.vA R.vB (R.fu.set j a) R.wr = [(1, [R.vL]), (1, [R.vA]), (1, [R.vB]), (4, (intsV R.fu).set j (.int .i64 a)), (1, [.int .i64 R.wr])] := by rw [intsV_set]
    (try dsimp only)
    rw [← h2]
    refine WPq.dX (ho := ownsW) (vs := [.int .i64 0]) (rsA gX { R with fu := R.fu.set j a }) ⟨{ R with fu := R.fu.set j a }, rfl, rfl, ⟨h.one, by show (R.fu.set j a).length = 4; rw [List.length_set]; exact h.f4, fun i hi => set_in h.fb h.f4 ⟨by omega, ha.2⟩ i hi, h.nl, h.lz, h.at', h.inL, h.inZ, h.w0, h.w1⟩, rfl⟩
  · have hw : R.vw.fail w a = (R.vw, 1) := by unfold Dv.fail; rw [if_neg hg]
    rw [hw]
    unfold fgood at hg
    rw [Bool.and_eq_true, Bool.and_eq_true, decide_eq_true_eq, decide_eq_true_eq, decide_eq_true_eq] at hg
    refine Triple.enter Try.func51 rfl Try.ntmps51 rfl (fun W => ?_)
    dsimp only [argsF, Nat.reduceAdd]
    by_cases g1 : w < 1
    · skip
      repeat' (first
       | refine WPl.nil ?_ | refine WPq.then ?_ | refine WPq.thenR ?_ | refine WPq.thenE ?_ | refine WPq.blockN ?_ | refine WPq.blockR ?_ | refine WPq.blockE ?_ | refine WPq.blockO rfl ?_ | refine WPc.seq ?_ | refine WPc.block ?_ | refine WPc.ret ?_ | refine WPc.exit ?_ | refine WPc.skip ?_ | refine WPc.region ?_
       | (refine isCond ?_; first | refine WPc.cT ?_ | refine WPc.cF ?_ | (refine WPc.cQ (fun hc => ?_) (fun hc => ?_) <;> try exact prA))
       | (refine isD 8 ?_; refine WPl.rdX (ReadR.binE rfl rfl BinR.lss (congrArg Value.bool (decide_eq_true g1))) ?_)
       | (refine isOp ?_; first | refine WPl.rd ?_ | refine WPl.sk ?_ | refine WPl.rdB ?_)
       | (refine isSt ?_; first | refine WPl.st1 ?_ | refine WPl.stA ?_ | refine WPl.stEB ?_ | refine WPl.stRB ?_)
       | (show WPl _ _ _ _ _ _ _ (⟨_, .indexAddr _ _ _, _, _, _, _⟩ :: _) _; refine WPl.rdX (ReadR.indexE rfl rfl hasA (by first | assumption | omega)) ?_)
       | (show WPl _ _ _ _ _ _ _ (⟨_, .fieldAddr _ _ _, _, _, _, _⟩ :: _) _; refine WPl.rdX (ReadR.fieldE rfl hasA (by first | assumption | omega)) ?_)
       | (show WPl _ _ _ _ _ _ _ (⟨_, .load _ _, _, _, _, _⟩ :: _) _; first | refine WPl.rdX (ReadR.loadE rfl hasA (by assumption)) ?_ | refine WPl.rdX (ReadR.loadES (by assumption) (by first | assumption | omega) rfl hasA) ?_)
       | (show WPl _ _ _ _ _ _ _ (⟨_, .slice _ _ _ _ _, _, _, _, _⟩ :: _) _; first | refine WPl.rdX (ReadR.sliceH rfl rfl hasA (by omega)) ?_ | refine WPl.rdX (ReadR.sliceL rfl rfl hasA (by omega)) ?_ | refine WPl.rdX (ReadR.sliceLH rfl rfl rfl hasA (by omega) (by omega)) ?_)
       | (refine WPl.spQ (fun hc => ?_) (fun hc => ?_) <;> try exact prA)
       | fail)
      exact WPq.dX (ho := ownsW) (vs := [.int .i64 1]) (rsA gX R) ⟨R, rfl, rfl, h, rfl⟩
    by_cases g2 : w > 3
    · skip
      repeat' (first
       | refine WPl.nil ?_ | refine WPq.then ?_ | refine WPq.thenR ?_ | refine WPq.thenE ?_ | refine WPq.blockN ?_ | refine WPq.blockR ?_ | refine WPq.blockE ?_ | refine WPq.blockO rfl ?_ | refine WPc.seq ?_ | refine WPc.block ?_ | refine WPc.ret ?_ | refine WPc.exit ?_ | refine WPc.skip ?_ | refine WPc.region ?_
       | (refine isCond ?_; first | refine WPc.cT ?_ | refine WPc.cF ?_ | (refine WPc.cQ (fun hc => ?_) (fun hc => ?_) <;> try exact prA))
       | (refine isD 8 ?_; refine WPl.rdX (ReadR.binE rfl rfl BinR.lss (congrArg Value.bool (decide_eq_false g1))) ?_)
       | (refine isD 11 ?_; refine WPl.rdX (ReadR.binE rfl rfl BinR.gtr (congrArg Value.bool (decide_eq_true g2))) ?_)
       | (refine isOp ?_; first | refine WPl.rd ?_ | refine WPl.sk ?_ | refine WPl.rdB ?_)
       | (refine isSt ?_; first | refine WPl.st1 ?_ | refine WPl.stA ?_ | refine WPl.stEB ?_ | refine WPl.stRB ?_)
       | (show WPl _ _ _ _ _ _ _ (⟨_, .indexAddr _ _ _, _, _, _, _⟩ :: _) _; refine WPl.rdX (ReadR.indexE rfl rfl hasA (by first | assumption | omega)) ?_)
       | (show WPl _ _ _ _ _ _ _ (⟨_, .fieldAddr _ _ _, _, _, _, _⟩ :: _) _; refine WPl.rdX (ReadR.fieldE rfl hasA (by first | assumption | omega)) ?_)
       | (show WPl _ _ _ _ _ _ _ (⟨_, .load _ _, _, _, _, _⟩ :: _) _; first | refine WPl.rdX (ReadR.loadE rfl hasA (by assumption)) ?_ | refine WPl.rdX (ReadR.loadES (by assumption) (by first | assumption | omega) rfl hasA) ?_)
       | (show WPl _ _ _ _ _ _ _ (⟨_, .slice _ _ _ _ _, _, _, _, _⟩ :: _) _; first | refine WPl.rdX (ReadR.sliceH rfl rfl hasA (by omega)) ?_ | refine WPl.rdX (ReadR.sliceL rfl rfl hasA (by omega)) ?_ | refine WPl.rdX (ReadR.sliceLH rfl rfl rfl hasA (by omega) (by omega)) ?_)
       | (refine WPl.spQ (fun hc => ?_) (fun hc => ?_) <;> try exact prA)
       | fail)
      exact WPq.dX (ho := ownsW) (vs := [.int .i64 1]) (rsA gX R) ⟨R, rfl, rfl, h, rfl⟩
    have g3 : a < 0 := by omega
    repeat' (first
     | refine WPl.nil ?_ | refine WPq.then ?_ | refine WPq.thenR ?_ | refine WPq.thenE ?_ | refine WPq.blockN ?_ | refine WPq.blockR ?_ | refine WPq.blockE ?_ | refine WPq.blockO rfl ?_ | refine WPc.seq ?_ | refine WPc.block ?_ | refine WPc.ret ?_ | refine WPc.exit ?_ | refine WPc.skip ?_ | refine WPc.region ?_
     | (refine isCond ?_; first | refine WPc.cT ?_ | refine WPc.cF ?_ | (refine WPc.cQ (fun hc => ?_) (fun hc => ?_) <;> try exact prA))
     | (refine isD 8 ?_; refine WPl.rdX (ReadR.binE rfl rfl BinR.lss (congrArg Value.bool (decide_eq_false g1))) ?_)
     | (refine isD 11 ?_; refine WPl.rdX (ReadR.binE rfl rfl BinR.gtr (congrArg Value.bool (decide_eq_false g2))) ?_)
     | (refine isD 15 ?_; refine WPl.rdX (ReadR.binE rfl rfl BinR.lss (congrArg Value.bool (decide_eq_true g3))) ?_)
     | (refine isOp ?_; first | refine WPl.rd ?_ | refine WPl.sk ?_ | refine WPl.rdB ?_)
     | (refine isSt ?_; first | refine WPl.st1 ?_ | refine WPl.stA ?_ | refine WPl.stEB ?_ | refine WPl.stRB ?_)
     | (show WPl _ _ _ _ _ _ _ (⟨_, .indexAddr _ _ _, _, _, _, _⟩ :: _) _; refine WPl.rdX (ReadR.indexE rfl rfl hasA (by first | assumption | omega)) ?_)
     | (show WPl _ _ _ _ _ _ _ (⟨_, .fieldAddr _ _ _, _, _, _, _⟩ :: _) _; refine WPl.rdX (ReadR.fieldE rfl hasA (by first | assumption | omega)) ?_)
     | (show WPl _ _ _ _ _ _ _ (⟨_, .load _ _, _, _, _, _⟩ :: _) _; first | refine WPl.rdX (ReadR.loadE rfl hasA (by assumption)) ?_ | refine WPl.rdX (ReadR.loadES (by assumption) (by first | assumption | omega) rfl hasA) ?_)
     | (show WPl _ _ _ _ _ _ _ (⟨_, .slice _ _ _ _ _, _, _, _, _⟩ :: _) _; first | refine WPl.rdX (ReadR.sliceH rfl rfl hasA (by omega)) ?_ | refine WPl.rdX (ReadR.sliceL rfl rfl hasA (by omega)) ?_ | refine WPl.rdX (ReadR.sliceLH rfl rfl rfl hasA (by omega) (by omega)) ?_)
     | (refine WPl.spQ (fun hc => ?_) (fun hc => ?_) <;> try exact prA)
     | fail)
    exact WPq.dX (ho := ownsW) (vs := [.int .i64 1]) (rsA gX R) ⟨R, rfl, rfl, h, rfl⟩
theorem rrdNo_t (i : Int) (h : RInv n k R) (hn : n ≤ 100000) (hi : i < 0 ∨ (n : Int) ≤ i) :
    Triple Try.prog 49 #[hD gX, .int .i64 i] (rsA gX R) (RRfe gX n k 1 R.vw) := by
  have hnl := h.nl
  have c8 := rhas_t gX R i (by omega)
  rw [show (decide (0 ≤ i) && decide (i < (R.L.length : Int))) = false by rw [Bool.and_eq_false_iff, decide_eq_false_iff_not, decide_eq_false_iff_not]; omega] at c8
  refine Triple.enter Try.func49 rfl Try.ntmps49 rfl (fun W => ?_)
  dsimp only [argsF, Nat.reduceAdd]
  repeat' (first
   | refine WPl.nil ?_ | refine WPq.then ?_ | refine WPq.thenR ?_ | refine WPq.thenE ?_ | refine WPq.blockN ?_ | refine WPq.blockR ?_ | refine WPq.blockE ?_ | refine WPq.blockO rfl ?_ | refine WPc.seq ?_ | refine WPc.block ?_ | refine WPc.ret ?_ | refine WPc.exit ?_ | refine WPc.skip ?_ | refine WPc.region ?_
   | (refine isCond ?_; first | refine WPc.cT ?_ | refine WPc.cF ?_ | (refine WPc.cQ (fun hc => ?_) (fun hc => ?_) <;> try exact prA))
   | (refine isC 8 ?_; refine WPl.cV c8 ?_ (hΔ := provsW))
   | (refine isLit ?_; refine WPl.lit fun v10 hv10 => ?_)
   | (refine isOp ?_; first | refine WPl.rd ?_ | refine WPl.sk ?_ | refine WPl.rdB ?_)
   | (show WPl _ _ _ _ _ _ _ (⟨_, .indexAddr _ _ _, _, _, _, _⟩ :: _) _; refine WPl.rdX (ReadR.indexE rfl rfl hasA (by first | assumption | omega)) ?_)
   | (show WPl _ _ _ _ _ _ _ (⟨_, .fieldAddr _ _ _, _, _, _, _⟩ :: _) _; refine WPl.rdX (ReadR.fieldE rfl hasA (by first | assumption | omega)) ?_)
   | (show WPl _ _ _ _ _ _ _ (⟨_, .load _ _, _, _, _, _⟩ :: _) _; first | refine WPl.rdX (ReadR.loadE rfl hasA (by assumption)) ?_ | refine WPl.rdX (ReadR.loadES (by assumption) (by first | assumption | omega) rfl hasA) ?_)
   | (show WPl _ _ _ _ _ _ _ (⟨_, .slice _ _ _ _ _, _, _, _, _⟩ :: _) _; first | refine WPl.rdX (ReadR.sliceH rfl rfl hasA (by omega)) ?_ | refine WPl.rdX (ReadR.sliceL rfl rfl hasA (by omega)) ?_ | refine WPl.rdX (ReadR.sliceLH rfl rfl rfl hasA (by omega) (by omega)) ?_)
   | (refine WPl.spQ (fun hc => ?_) (fun hc => ?_) <;> try exact prA)
   | fail)
  refine WPq.dX (ho := ownsW) (vs := [v10, .int .i64 1]) (ob v10 [] :: rsA gX R) ⟨R, v10, rfl, hv10, rfl, h, rfl⟩
end
end Go.Proofs.Ytepmikgjnmjheaa
