/- Reference of layer 13 (ipfour): reading heads: contracts. -/
import Derived.Test.YteofjhjhaaafjaaIf
namespace Go.Proofs.Yteofjhjhaaafjaa
open Go.RowKit
set_option linter.unusedSimpArgs false
set_option linter.unusedVariables false
set_option maxRecDepth 20000
set_option maxHeartbeats 4000000
attribute [local irreducible] WPc WPl WPq ReadR OpT BinR HasS bx rdN rowN Take Takes Prov Triple ResF BuildP Done ag Int.decLt Int.decLe Int.instDecidableEq

theorem over_zero_one {l : List UInt8} (k : Nat) : over l k [] = l := by simp [over]
theorem r13of_t (v : Value) (l : List UInt8) (h : l.length = 4) : Triple Try.prog 78 #[v] [rb v l] (RVal (ag (adc (ofA l)))) := by
  rw [show ofA l = Adr.of4 l h by simp [ofA, h]]
  refine Triple.enter Try.func78 rfl Try.ntmps78 rfl (fun W => ?_)
  dsimp only [argsF, Nat.reduceAdd]
  repeat' (first
   | refine WPl.nil ?_ | refine WPq.then ?_ | refine WPq.thenR ?_ | refine WPq.thenE ?_ | refine WPq.blockN ?_ | refine WPq.blockR ?_ | refine WPq.blockE ?_ | refine WPq.blockO rfl ?_ | refine WPc.seq ?_ | refine WPc.block ?_ | refine WPc.ret ?_ | refine WPc.exit ?_ | refine WPc.skip ?_ | refine WPc.region ?_
   | (refine isCond ?_; first | refine WPc.cT ?_ | refine WPc.cF ?_)
   | (refine isD 3 ?_; first | (refine isAl ?_; refine WPl.nw fun g => ?_) | (refine isBx ?_; refine WPl.nw fun g => ?_))
   | (refine isD 2 ?_; first | (refine isAl ?_; refine WPl.nw fun gr => ?_) | (refine isBx ?_; refine WPl.nw fun gr => ?_))
   | (refine isOp ?_; first | refine WPl.rd ?_ | refine WPl.sk ?_ | refine WPl.rdB ?_)
   | (refine isAl ?_; refine WPl.nw fun g => ?_)
   | (refine isSt ?_; first | refine WPl.st1 ?_ | refine WPl.stA ?_ | refine WPl.stEB ?_ | refine WPl.stRB ?_)
   | fail)
  first | refine WPc.loop (σ := Nat × List UInt8) (fun p => p.1 ≤ 4 ∧ p.2 = over (List.replicate 16 0) 12 (seg l 0 p.1)) (fun p => [bx g 24 [(1, [.bool false]), (16, u8s p.2)], bx gr 24 [(1, [.bool false]), (16, u8s (List.replicate 16 0))], rb v l]) (fun p => [(0, v), (2, .pointer (some ⟨gr, 0, none⟩)), (3, .pointer (some ⟨g, 0, none⟩)), (4, .int .i64 p.1)]) (fun p => 4 - p.1) ((0, List.replicate 16 0)) ?_ takesA frsA (fun st km hx hk => ?_)
  · exact ⟨by omega, by simp [seg, over]⟩
  obtain ⟨i, c⟩ := st
  dsimp only at hx hk ⊢
  obtain ⟨hi, hc0⟩ := hx
  have hcl : c.length = 16 := by rw [hc0, over_length] <;> simp [seg_len]; omega
  by_cases hlt : i < 4
  · skip
    repeat' (first
     | refine WPl.nil ?_ | refine WPq.then ?_ | refine WPq.thenR ?_ | refine WPq.thenE ?_ | refine WPq.blockN ?_ | refine WPq.blockR ?_ | refine WPq.blockE ?_ | refine WPq.blockO rfl ?_ | refine WPc.seq ?_ | refine WPc.block ?_ | refine WPc.ret ?_ | refine WPc.exit ?_ | refine WPc.skip ?_ | refine WPc.region ?_
     | (refine isCond ?_; first | refine WPc.cT ?_ | refine WPc.cF ?_ | (refine WPc.cQ (fun hc => ?_) (fun hc => ?_) <;> try exact prA))
     | (refine isOp ?_; first | refine WPl.rd ?_ | refine WPl.sk ?_ | refine WPl.rdB ?_)
     | (refine isAl ?_; refine WPl.nw fun g => ?_)
     | (refine isSt ?_; first | refine WPl.st1 ?_ | refine WPl.stA ?_ | refine WPl.stEB ?_ | refine WPl.stRB ?_)
     | (refine WPl.spQ (fun hc => ?_) (fun hc => ?_) <;> try exact prA)
     | fail)
    exact WPq.rnd (i + 1, c.set (12 + i) (l.getD i 0)) ⟨by show i + 1 ≤ 4; omega, by
      show _ = over _ _ (seg l 0 (i + 1))
      have e := seg_snoc (l := l) (k := 0) (n := i) (by omega)
      have hs : (seg l 0 i).length = i := seg_length (by omega)
      rw [e, over_snoc _ _ _ _ (by simp; omega), ← hc0, hs, Nat.zero_add]⟩ (by show 4 - (i + 1) < km; omega)
  · obtain rfl : i = 4 := by omega
    rw [seg, List.drop_zero, List.take_of_length_le (by omega)] at hc0
    subst hc0
    repeat' (first
     | refine WPl.nil ?_ | refine WPq.then ?_ | refine WPq.thenR ?_ | refine WPq.thenE ?_ | refine WPq.blockN ?_ | refine WPq.blockR ?_ | refine WPq.blockE ?_ | refine WPq.blockO rfl ?_ | refine WPc.seq ?_ | refine WPc.block ?_ | refine WPc.ret ?_ | refine WPc.exit ?_ | refine WPc.skip ?_ | refine WPc.region ?_
     | (refine isCond ?_; first | refine WPc.cT ?_ | refine WPc.cF ?_ | (refine WPc.cQ (fun hc => ?_) (fun hc => ?_) <;> try exact prA))
     | (refine isOp ?_; first | refine WPl.rd ?_ | refine WPl.sk ?_ | refine WPl.rdB ?_)
     | (refine isAl ?_; refine WPl.nw fun g => ?_)
     | (refine isSt ?_; first | refine WPl.st1 ?_ | refine WPl.stA ?_ | refine WPl.stEB ?_ | refine WPl.stRB ?_)
     | (refine WPl.spQ (fun hc => ?_) (fun hc => ?_) <;> try exact prA)
     | fail)
    all_goals try (first | exact WPq.dV | exact WPq.dR | exact WPq.dR2 | exact WPq.dH | exact WPq.dBH | exact WPq.dT)
theorem ferr_ne {b : List UInt8} (h : ¬ ferr b = 0) : 2048 < b.length ∨ b.length < 20 ∨ byteN b 0 / 16 ≠ 4 ∨ ihl b < 20 ∨ b.length < ihl b ∨ val (seg b 2 2) ≠ b.length ∨ csum (seg b 0 (ihl b)) ≠ 0 ∨ byteN b 8 = 0 ∨ 128 ≤ byteN b 6 := by
  apply Classical.byContradiction
  intro hn
  apply h
  unfold ferr
  repeat' (first | omega | split)
theorem rf_t (v : Value) (b : List UInt8) (hl : b.length ≤ 1000000) : Triple Try.prog 38 #[v] [rb v b] (RVal (fVal b)) := by
  have hb0 := byteN_lt b 0
  have hb6 := byteN_lt b 6
  have hb8 := byteN_lt b 8
  have hihl : (4 : Int) * (((b.getD 0 0).toNat : Nat) % 16) = ((ihl b : Nat) : Int) := by unfold ihl byteN; omega
  have hih := ihl_lt b
  have hv1 := val2_lt (l := b) (k := 2)
  have u0 : byteN b 0 = (b.getD 0 0).toNat := rfl
  have u6 : byteN b 6 = (b.getD 6 0).toNat := rfl
  have u8 : byteN b 8 = (b.getD 8 0).toNat := rfl
  by_cases he : ferr b = 0
  · rw [show fVal b = .tuple #[ag (hdc (fhead b)), .int .i64 0] by unfold fVal fread; rw [if_pos he, he]]
    obtain ⟨h1, h2, h3, h4, h5, h6, h7, h8, h9⟩ := ferr_zero he
    have hv6 := val_seg2 (b := b) (i := 6) (by omega)
    have c6 := (b.getD 6 0).toNat_lt
    have c7 := (b.getD 7 0).toNat_lt
    have hd : (!decide (((((b.getD 6 0).toNat : Nat) : Int) * 256 + (((b.getD 7 0).toNat : Nat) : Int)) % 16384 = 0)) = decide (¬ val (seg b 6 2) % 16384 = 0) := by
      rw [hv6, Bool.eq_iff_iff]; unfold byteN; simp; omega
    have ha1 := (ofA (seg b 12 4)).len
    have ha2 := (ofA (seg b 16 4)).len
    refine Triple.enter Try.func38 rfl Try.ntmps38 rfl (fun W => ?_)
    dsimp only [argsF, Nat.reduceAdd]
    repeat' (first
     | refine WPl.nil ?_ | refine WPq.then ?_ | refine WPq.thenR ?_ | refine WPq.thenE ?_ | refine WPq.blockN ?_ | refine WPq.blockR ?_ | refine WPq.blockE ?_ | refine WPq.blockO rfl ?_ | refine WPc.seq ?_ | refine WPc.block ?_ | refine WPc.ret ?_ | refine WPc.exit ?_ | refine WPc.skip ?_ | refine WPc.region ?_
     | (refine isReg 8 ?_; refine WPc.drA [([], [28, 29, 30]), ([0], [22, 28, 29, 30]), ([0, 1], [22, 23, 28, 29, 30]), ([0, 1, 2], [22, 23, 24, 28, 29, 30]), ([0, 1, 2, 3], [22, 23, 24, 25, 28, 29, 30]), ([0, 1, 2, 3, 4], [22, 23, 24, 25, 26, 28, 29, 30]), ([], [22, 23, 24, 25, 26, 27]), ([6], [22, 23, 24, 25, 26, 27, 28]), ([6, 7], [5, 22, 23, 24, 25, 26, 27, 28, 29]), ([0, 1, 2, 3, 4, 5, 6, 7], [22, 23, 24, 25, 26, 27, 28, 29, 30]), ([0, 1, 2, 3, 4, 5, 6, 7, 8, 9], [5, 22, 23, 24, 25, 26, 27, 28, 29, 30])] [] (Γx := []) ?_; dsimp only [prev0, List.length_nil, List.length_cons])
     | (refine isReg 23 ?_; refine WPc.drA [([28], [73, 74, 75, 76, 77, 78, 79, 80, 81, 82, 83, 84, 85, 86, 87, 88, 89, 90, 91, 92, 93, 94]), ([0, 28], [70, 73, 74, 75, 76, 77, 78, 79, 80, 81, 82, 83, 84, 85, 86, 87, 88, 89, 90, 91, 92, 93, 94]), ([0, 1, 28], [70, 71, 73, 74, 75, 76, 77, 78, 79, 80, 81, 82, 83, 84, 85, 86, 87, 88, 89, 90, 91, 92, 93, 94]), ([28], [70, 71, 72, 74, 75, 76, 77, 78, 79, 80, 81, 82, 83, 84, 85, 86, 87, 88, 89, 90, 91, 92, 93, 94]), ([28], [70, 71, 72, 73, 77, 78, 80, 81, 82, 83, 84, 85, 86, 87, 88, 89, 90, 91, 92, 93, 94]), ([4, 28], [70, 71, 72, 73, 74, 77, 78, 80, 81, 82, 83, 84, 85, 86, 87, 88, 89, 90, 91, 92, 93, 94]), ([4, 5, 28], [70, 71, 72, 73, 74, 75, 77, 78, 80, 81, 82, 83, 84, 85, 86, 87, 88, 89, 90, 91, 92, 93, 94]), ([28], [70, 71, 72, 73, 74, 75, 76, 80, 81, 82, 83, 84, 85, 86, 87, 88, 89, 90, 91, 92, 93, 94]), ([7, 28], [70, 71, 72, 73, 74, 75, 76, 77, 80, 81, 82, 83, 84, 85, 86, 87, 88, 89, 90, 91, 92, 93, 94]), ([4, 5, 6, 7, 8, 28], [70, 71, 72, 73, 74, 75, 76, 77, 78, 80, 81, 82, 83, 84, 85, 86, 87, 88, 89, 90, 91, 92, 93, 94]), ([28], [70, 71, 72, 73, 74, 75, 76, 77, 78, 79, 85, 86, 87, 88, 92, 93, 94]), ([10, 28], [70, 71, 72, 73, 74, 75, 76, 77, 78, 79, 80, 85, 86, 87, 88, 92, 93, 94]), ([10, 11, 28], [70, 71, 72, 73, 74, 75, 76, 77, 78, 79, 80, 81, 85, 86, 87, 88, 92, 93, 94]), ([10, 11, 12, 28], [70, 71, 72, 73, 74, 75, 76, 77, 78, 79, 80, 81, 82, 85, 86, 87, 88, 92, 93, 94]), ([10, 11, 12, 13, 28], [70, 71, 72, 73, 74, 75, 76, 77, 78, 79, 80, 81, 82, 83, 85, 86, 87, 88, 92, 93, 94]), ([28], [70, 71, 72, 73, 74, 75, 76, 77, 78, 79, 80, 81, 82, 83, 84, 92, 93, 94]), ([15, 28], [70, 71, 72, 73, 74, 75, 76, 77, 78, 79, 80, 81, 82, 83, 84, 85, 92, 93, 94]), ([15, 16, 28], [70, 71, 72, 73, 74, 75, 76, 77, 78, 79, 80, 81, 82, 83, 84, 85, 86, 92, 93, 94]), ([15, 16, 17, 28], [70, 71, 72, 73, 74, 75, 76, 77, 78, 79, 80, 81, 82, 83, 84, 85, 86, 87, 92, 93, 94]), ([10, 11, 12, 13, 14, 15, 16, 17, 18, 28], [70, 71, 72, 73, 74, 75, 76, 77, 78, 79, 80, 81, 82, 83, 84, 85, 86, 87, 88, 92, 93, 94]), ([10, 11, 12, 13, 14, 15, 16, 17, 18, 19, 28], [70, 71, 72, 73, 74, 75, 76, 77, 78, 79, 80, 81, 82, 83, 84, 85, 86, 87, 88, 89, 92, 93, 94]), ([10, 11, 12, 13, 14, 15, 16, 17, 18, 19, 20, 28], [70, 71, 72, 73, 74, 75, 76, 77, 78, 79, 80, 81, 82, 83, 84, 85, 86, 87, 88, 89, 90, 92, 93, 94]), ([28], [70, 71, 72, 73, 74, 75, 76, 77, 78, 79, 80, 81, 82, 83, 84, 85, 86, 87, 88, 89, 90, 91]), ([22, 28], [70, 71, 72, 73, 74, 75, 76, 77, 78, 79, 80, 81, 82, 83, 84, 85, 86, 87, 88, 89, 90, 91, 92]), ([22, 23, 28], [70, 71, 72, 73, 74, 75, 76, 77, 78, 79, 80, 81, 82, 83, 84, 85, 86, 87, 88, 89, 90, 91, 92, 93]), ([0, 1, 2, 3, 4, 5, 6, 7, 8, 9, 10, 11, 12, 13, 14, 15, 16, 17, 18, 19, 20, 21, 22, 23, 24, 28], [70, 71, 72, 73, 74, 75, 76, 77, 78, 79, 80, 81, 82, 83, 84, 85, 86, 87, 88, 89, 90, 91, 92, 93, 94]), ([0, 1, 2, 3, 4, 5, 6, 7, 8, 9, 10, 11, 12, 13, 14, 15, 16, 17, 18, 19, 20, 21, 22, 23, 24, 25, 28], [70, 71, 72, 73, 74, 75, 76, 77, 78, 79, 80, 81, 82, 83, 84, 85, 86, 87, 88, 89, 90, 91, 92, 93, 94, 95]), ([0, 1, 2, 3, 4, 5, 6, 7, 8, 9, 10, 11, 12, 13, 14, 15, 16, 17, 18, 19, 20, 21, 22, 23, 24, 25, 26, 28], [70, 71, 72, 73, 74, 75, 76, 77, 78, 79, 80, 81, 82, 83, 84, 85, 86, 87, 88, 89, 90, 91, 92, 93, 94, 95])] [(28, 26), (28, 0), (28, 1), (28, 2), (28, 3), (28, 4), (28, 5), (28, 6), (28, 7), (28, 8), (28, 9), (28, 10), (28, 11), (28, 12), (28, 13), (28, 14), (28, 15), (28, 16), (28, 17), (28, 18), (28, 19), (28, 20), (28, 21), (28, 22), (28, 23), (28, 24), (28, 25)] (Γx := [bx gr 48 (hdc Hd.none)]) ?_; dsimp only [prev0, List.length_nil, List.length_cons])
     | (refine gAny ?_; first | (refine gCl ?_; refine RGl.vl (fun e hk => OpT.callN (rget_t v b 2 2 (by omega) (by omega) (by omega))) ?_) | (refine gCl ?_; refine RGl.vl (fun e hk => OpT.callN (rsum_t (subv 1 v 0 (ihl b)) (seg b 0 (ihl b)) (by simp [seg_len]; omega))) ?_) | (refine gCl ?_; refine RGl.vl (fun e hk => OpT.callN (r13of_t (subv 1 v 12 4) (seg b 12 4) (seg_length (by omega)))) ?_) | (refine gCl ?_; refine RGl.vl (fun e hk => OpT.callN (r13of_t (subv 1 v 16 4) (seg b 16 4) (seg_length (by omega)))) ?_) | (show RGl _ _ _ _ _ _ _ _ (⟨_, .binOp .mul _ _ _ _, _, _, _, _⟩ :: _) _ _; refine RGl.rdX (fun e hk => by (try dsimp only [bndR, ensR, oksR, fcutR, List.append_nil, List.nil_append, List.cons_append, List.append_assoc] at hk ⊢); exact ReadR.bin rfl rfl (BinR.mulT hihl (by simp only [kmin]; omega) (by simp only [kmax]; omega))) ?_) | (show RGl _ _ _ _ _ _ _ _ (⟨_, .binOp .neq _ _ _ _, _, _, _, _⟩ :: _) _ _; refine RGl.rdX (fun e hk => by (try dsimp only [bndR, ensR, oksR, fcutR, List.append_nil, List.nil_append, List.cons_append, List.append_assoc] at hk ⊢); exact ReadR.binE rfl rfl BinR.neq (congrArg Value.bool hd)) ?_) | (refine gOp ?_; first | refine RGl.rdA ?_ | refine RGl.rdX (fun e hk => by (try dsimp only [bndR, ensR, oksR, fcutR, List.append_nil, List.nil_append, List.cons_append, List.append_assoc] at hk ⊢); exact readB) ?_) | (refine gSt ?_; refine RGl.stA ?_) | (refine RGl.fin (fun e hk => ?_); (try dsimp only [bndA, ensAR, oksA, List.append_nil, List.nil_append, List.cons_append, List.append_assoc] at hk ⊢); (repeat (obtain ⟨hk1, hk⟩ := hk))) | fail)
     | (refine isCond ?_; first | refine WPc.cT ?_ | refine WPc.cF ?_ | (refine WPc.cQ (fun hc => ?_) (fun hc => ?_) <;> try exact prA))
     | (refine isD 2 ?_; first | (refine isAl ?_; refine WPl.nw fun gr => ?_) | (refine isBx ?_; refine WPl.nw fun gr => ?_))
     | (refine isCl ?_; refine WPl.cV (rget_t v b 2 2 (by omega) (by omega) (by omega)) ?_)
     | (refine isCl ?_; refine WPl.cV (rsum_t (subv 1 v 0 (ihl b)) (seg b 0 (ihl b)) (by simp [seg_len]; omega)) ?_)
     | (refine isCl ?_; refine WPl.cV (r13of_t (subv 1 v 12 4) (seg b 12 4) (seg_length (by omega))) ?_)
     | (refine isCl ?_; refine WPl.cV (r13of_t (subv 1 v 16 4) (seg b 16 4) (seg_length (by omega))) ?_)
     | (show WPl _ _ _ _ _ _ _ (⟨_, .binOp .mul _ _ _ _, _, _, _, _⟩ :: _) _; refine WPl.rdX (ReadR.bin rfl rfl (BinR.mulT hihl (by simp only [kmin]; omega) (by simp only [kmax]; omega))) ?_)
     | (refine isOp ?_; first | refine WPl.rd ?_ | refine WPl.sk ?_ | refine WPl.rdB ?_)
     | (refine isAl ?_; refine WPl.nw fun g => ?_)
     | (refine isSt ?_; first | refine WPl.st1 ?_ | refine WPl.stA ?_ | refine WPl.stEB ?_ | refine WPl.stRB ?_)
     | (refine WPl.spQ (fun hc => ?_) (fun hc => ?_) <;> try exact prA)
     | fail)
    all_goals try (first | exact WPq.dV | exact WPq.dR | exact WPq.dR2 | exact WPq.dH | exact WPq.dBH | exact WPq.dT)
  · rw [show fVal b = .tuple #[ag (hdc Hd.none), .int .i64 (ferr b)] by unfold fVal fread; rw [if_neg he]]
    have hne := ferr_ne he
    refine Triple.enter Try.func38 rfl Try.ntmps38 rfl (fun W => ?_)
    dsimp only [argsF, Nat.reduceAdd]
    repeat' (first
     | refine WPl.nil ?_ | refine WPq.then ?_ | refine WPq.thenR ?_ | refine WPq.thenE ?_ | refine WPq.blockN ?_ | refine WPq.blockR ?_ | refine WPq.blockE ?_ | refine WPq.blockO rfl ?_ | refine WPc.seq ?_ | refine WPc.block ?_ | refine WPc.ret ?_ | refine WPc.exit ?_ | refine WPc.skip ?_ | refine WPc.region ?_
     | (refine isReg 8 ?_; refine WPc.drA [([], [28, 29, 30]), ([0], [22, 28, 29, 30]), ([0, 1], [22, 23, 28, 29, 30]), ([0, 1, 2], [22, 23, 24, 28, 29, 30]), ([0, 1, 2, 3], [22, 23, 24, 25, 28, 29, 30]), ([0, 1, 2, 3, 4], [22, 23, 24, 25, 26, 28, 29, 30]), ([], [22, 23, 24, 25, 26, 27]), ([6], [22, 23, 24, 25, 26, 27, 28]), ([6, 7], [5, 22, 23, 24, 25, 26, 27, 28, 29]), ([0, 1, 2, 3, 4, 5, 6, 7], [22, 23, 24, 25, 26, 27, 28, 29, 30]), ([0, 1, 2, 3, 4, 5, 6, 7, 8, 9], [5, 22, 23, 24, 25, 26, 27, 28, 29, 30])] [] (Γx := []) ?_; dsimp only [prev0, List.length_nil, List.length_cons])
     | (refine isReg 23 ?_; refine WPc.drA [([], [73, 74, 75, 76, 77, 78, 79, 80, 81, 82, 83, 84, 85, 86, 87, 88, 89, 90, 91, 92, 93, 94]), ([0], [70, 73, 74, 75, 76, 77, 78, 79, 80, 81, 82, 83, 84, 85, 86, 87, 88, 89, 90, 91, 92, 93, 94]), ([0, 1], [70, 71, 73, 74, 75, 76, 77, 78, 79, 80, 81, 82, 83, 84, 85, 86, 87, 88, 89, 90, 91, 92, 93, 94]), ([], [70, 71, 72, 74, 75, 76, 77, 78, 79, 80, 81, 82, 83, 84, 85, 86, 87, 88, 89, 90, 91, 92, 93, 94]), ([], [70, 71, 72, 73, 77, 78, 80, 81, 82, 83, 84, 85, 86, 87, 88, 89, 90, 91, 92, 93, 94]), ([4], [70, 71, 72, 73, 74, 77, 78, 80, 81, 82, 83, 84, 85, 86, 87, 88, 89, 90, 91, 92, 93, 94]), ([4, 5], [70, 71, 72, 73, 74, 75, 77, 78, 80, 81, 82, 83, 84, 85, 86, 87, 88, 89, 90, 91, 92, 93, 94]), ([], [70, 71, 72, 73, 74, 75, 76, 80, 81, 82, 83, 84, 85, 86, 87, 88, 89, 90, 91, 92, 93, 94]), ([7], [70, 71, 72, 73, 74, 75, 76, 77, 80, 81, 82, 83, 84, 85, 86, 87, 88, 89, 90, 91, 92, 93, 94]), ([4, 5, 6, 7, 8], [70, 71, 72, 73, 74, 75, 76, 77, 78, 80, 81, 82, 83, 84, 85, 86, 87, 88, 89, 90, 91, 92, 93, 94]), ([], [70, 71, 72, 73, 74, 75, 76, 77, 78, 79, 85, 86, 87, 88, 92, 93, 94]), ([10], [70, 71, 72, 73, 74, 75, 76, 77, 78, 79, 80, 85, 86, 87, 88, 92, 93, 94]), ([10, 11], [70, 71, 72, 73, 74, 75, 76, 77, 78, 79, 80, 81, 85, 86, 87, 88, 92, 93, 94]), ([10, 11, 12], [70, 71, 72, 73, 74, 75, 76, 77, 78, 79, 80, 81, 82, 85, 86, 87, 88, 92, 93, 94]), ([10, 11, 12, 13], [70, 71, 72, 73, 74, 75, 76, 77, 78, 79, 80, 81, 82, 83, 85, 86, 87, 88, 92, 93, 94]), ([], [70, 71, 72, 73, 74, 75, 76, 77, 78, 79, 80, 81, 82, 83, 84, 92, 93, 94]), ([15], [70, 71, 72, 73, 74, 75, 76, 77, 78, 79, 80, 81, 82, 83, 84, 85, 92, 93, 94]), ([15, 16], [70, 71, 72, 73, 74, 75, 76, 77, 78, 79, 80, 81, 82, 83, 84, 85, 86, 92, 93, 94]), ([15, 16, 17], [70, 71, 72, 73, 74, 75, 76, 77, 78, 79, 80, 81, 82, 83, 84, 85, 86, 87, 92, 93, 94]), ([10, 11, 12, 13, 14, 15, 16, 17, 18], [70, 71, 72, 73, 74, 75, 76, 77, 78, 79, 80, 81, 82, 83, 84, 85, 86, 87, 88, 92, 93, 94]), ([10, 11, 12, 13, 14, 15, 16, 17, 18, 19], [70, 71, 72, 73, 74, 75, 76, 77, 78, 79, 80, 81, 82, 83, 84, 85, 86, 87, 88, 89, 92, 93, 94]), ([10, 11, 12, 13, 14, 15, 16, 17, 18, 19, 20], [70, 71, 72, 73, 74, 75, 76, 77, 78, 79, 80, 81, 82, 83, 84, 85, 86, 87, 88, 89, 90, 92, 93, 94]), ([], [70, 71, 72, 73, 74, 75, 76, 77, 78, 79, 80, 81, 82, 83, 84, 85, 86, 87, 88, 89, 90, 91]), ([22], [70, 71, 72, 73, 74, 75, 76, 77, 78, 79, 80, 81, 82, 83, 84, 85, 86, 87, 88, 89, 90, 91, 92]), ([22, 23], [70, 71, 72, 73, 74, 75, 76, 77, 78, 79, 80, 81, 82, 83, 84, 85, 86, 87, 88, 89, 90, 91, 92, 93]), ([0, 1, 2, 3, 4, 5, 6, 7, 8, 9, 10, 11, 12, 13, 14, 15, 16, 17, 18, 19, 20, 21, 22, 23, 24], [70, 71, 72, 73, 74, 75, 76, 77, 78, 79, 80, 81, 82, 83, 84, 85, 86, 87, 88, 89, 90, 91, 92, 93, 94]), ([0, 1, 2, 3, 4, 5, 6, 7, 8, 9, 10, 11, 12, 13, 14, 15, 16, 17, 18, 19, 20, 21, 22, 23, 24, 25], [70, 71, 72, 73, 74, 75, 76, 77, 78, 79, 80, 81, 82, 83, 84, 85, 86, 87, 88, 89, 90, 91, 92, 93, 94, 95]), ([0, 1, 2, 3, 4, 5, 6, 7, 8, 9, 10, 11, 12, 13, 14, 15, 16, 17, 18, 19, 20, 21, 22, 23, 24, 25, 26], [70, 71, 72, 73, 74, 75, 76, 77, 78, 79, 80, 81, 82, 83, 84, 85, 86, 87, 88, 89, 90, 91, 92, 93, 94, 95])] [] (Γx := []) ?_; dsimp only [prev0, List.length_nil, List.length_cons])
     | (refine gAny ?_; first | (refine gCl ?_; refine RGl.vl (fun e hk => OpT.callN (rget_t v b 2 2 (by omega) (by omega) (by omega))) ?_) | (refine gCl ?_; refine RGl.vl (fun e hk => OpT.callN (rsum_t (subv 1 v 0 (ihl b)) (seg b 0 (ihl b)) (by simp [seg_len]; omega))) ?_) | (show RGl _ _ _ _ _ _ _ _ (⟨_, .binOp .mul _ _ _ _, _, _, _, _⟩ :: _) _ _; refine RGl.rdX (fun e hk => by (try dsimp only [bndR, ensR, oksR, fcutR, List.append_nil, List.nil_append, List.cons_append, List.append_assoc] at hk ⊢); exact ReadR.bin rfl rfl (BinR.mulT hihl (by simp only [kmin]; omega) (by simp only [kmax]; omega))) ?_) | (refine gOp ?_; first | refine RGl.rdA ?_ | refine RGl.rdX (fun e hk => by (try dsimp only [bndR, ensR, oksR, fcutR, List.append_nil, List.nil_append, List.cons_append, List.append_assoc] at hk ⊢); exact readB) ?_) | (refine gSt ?_; refine RGl.stA ?_) | (refine RGl.fin (fun e hk => ?_); (try dsimp only [bndA, ensAR, oksA, List.append_nil, List.nil_append, List.cons_append, List.append_assoc] at hk ⊢); (repeat (obtain ⟨hk1, hk⟩ := hk))) | fail)
     | (refine isCond ?_; first | refine WPc.cT ?_ | refine WPc.cF ?_ | (refine WPc.cQ (fun hc => ?_) (fun hc => ?_) <;> try exact prA))
     | (refine isD 2 ?_; first | (refine isAl ?_; refine WPl.nw fun gr => ?_) | (refine isBx ?_; refine WPl.nw fun gr => ?_))
     | (refine isCl ?_; refine WPl.cV (rget_t v b 2 2 (by omega) (by omega) (by omega)) ?_)
     | (refine isCl ?_; refine WPl.cV (rsum_t (subv 1 v 0 (ihl b)) (seg b 0 (ihl b)) (by simp [seg_len]; omega)) ?_)
     | (show WPl _ _ _ _ _ _ _ (⟨_, .binOp .mul _ _ _ _, _, _, _, _⟩ :: _) _; refine WPl.rdX (ReadR.bin rfl rfl (BinR.mulT hihl (by simp only [kmin]; omega) (by simp only [kmax]; omega))) ?_)
     | (refine isOp ?_; first | refine WPl.rd ?_ | refine WPl.sk ?_ | refine WPl.rdB ?_)
     | (refine isAl ?_; refine WPl.nw fun g => ?_)
     | (refine isSt ?_; first | refine WPl.st1 ?_ | refine WPl.stA ?_ | refine WPl.stEB ?_ | refine WPl.stRB ?_)
     | (refine WPl.spQ (fun hc => ?_) (fun hc => ?_) <;> try exact prA)
     | fail)
    all_goals
      refine WPq.dV (hc := ?_)
      show Value.tuple #[_, Value.int .i64 _] = Value.tuple #[_, Value.int .i64 _]
      congr 5
      unfold ferr
      repeat' (first | omega | split)
end Go.Proofs.Yteofjhjhaaafjaa
