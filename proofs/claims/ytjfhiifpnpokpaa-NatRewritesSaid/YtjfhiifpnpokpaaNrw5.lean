/- What the row of natRewrites_holds needs: part 5. -/
import Derived.Test.YtjfhiifpnpokpaaNrw4
/- Reference of layer 13 (ipfour): reading heads: contracts. -/
namespace Go.Proofs.Ytjfhiifpnpokpaa
open Go.RowKit
set_option linter.unusedSimpArgs false
set_option linter.unusedVariables false
set_option maxRecDepth 20000
set_option maxHeartbeats 4000000
attribute [local irreducible] WPc WPl WPq ReadR OpT BinR HasS bx rdN rowN Take Takes Prov Triple ResF BuildP Done ag Int.decLt Int.decLe Int.instDecidableEq

theorem r13of_t (v : Value) (l : List UInt8) (h : l.length = 4) : Triple Try.prog 33 #[v] [rb v l] (RVal (ag (adc (ofA l)))) := by
  rw [show ofA l = Adr.of4 l h by simp [ofA, h]]
  refine Triple.enter Try.func33 rfl Try.ntmps33 rfl (fun W => ?_)
  dsimp only [argsF, Nat.reduceAdd]
  repeat' (first
   | refine WPl.nil ?_ | refine WPq.then ?_ | refine WPq.thenR ?_ | refine WPq.thenE ?_ | refine WPq.blockN ?_ | refine WPq.blockR ?_ | refine WPq.blockE ?_ | refine WPq.blockO rfl ?_ | refine WPc.seq ?_ | refine WPc.block ?_ | refine WPc.ret ?_ | refine WPc.exit ?_ | refine WPc.skip ?_ | refine WPc.region ?_
   | (refine isCond ?_; first | refine WPc.cT ?_ | refine WPc.cF ?_)
   | (refine isD 3 ?_; first | (refine isAl ?_; refine WPl.nw fun g => ?_) | (refine isBx ?_; refine WPl.nw fun g => ?_))
   | (refine isD 2 ?_; first | (refine isAl ?_; refine WPl.nw fun gr => ?_) | (refine isBx ?_; refine WPl.nw fun gr => ?_))
   | (refine isOp ?_; first | refine WPl.rd ?_ | refine WPl.sk ?_ | refine WPl.rdB ?_)
   | (refine isAl ?_; refine WPl.nw fun g => ?_)
   | (refine isSt ?_; first | refine WPl.st1 ?_ | refine WPl.stA ?_ | refine WPl.stEB ?_ | refine WPl.stRB ?_)
   | (show WPl _ _ _ _ _ _ _ (⟨_, .indexAddr _ _ _, _, _, _, _⟩ :: _) _; refine WPl.rdX (ReadR.indexE rfl rfl hasA (by first | assumption | omega)) ?_)
   | (show WPl _ _ _ _ _ _ _ (⟨_, .fieldAddr _ _ _, _, _, _, _⟩ :: _) _; refine WPl.rdX (ReadR.fieldE rfl hasA (by first | assumption | omega)) ?_)
   | (show WPl _ _ _ _ _ _ _ (⟨_, .load _ _, _, _, _, _⟩ :: _) _; first | refine WPl.rdX (ReadR.loadE rfl hasA (by assumption)) ?_ | refine WPl.rdX (ReadR.loadES (by assumption) (by first | assumption | omega) rfl hasA) ?_)
   | (show WPl _ _ _ _ _ _ _ (⟨_, .slice _ _ _ _ _, _, _, _, _⟩ :: _) _; first | refine WPl.rdX (ReadR.sliceH rfl rfl hasA (by omega)) ?_ | refine WPl.rdX (ReadR.sliceL rfl rfl hasA (by omega)) ?_ | refine WPl.rdX (ReadR.sliceLH rfl rfl rfl hasA (by omega) (by omega)) ?_)
   | fail)
  first | refine WPc.loop (σ := Nat × List UInt8) (fun p => p.1 ≤ 4 ∧ p.2 = over (List.replicate 16 0) 12 (seg l 0 p.1)) (fun p => [bx g 25 [(1, [.bool false]), (16, u8s p.2)], bx gr 25 [(1, [.bool false]), (16, u8s (List.replicate 16 0))], rb v l]) (fun p => [(0, v), (2, .pointer (some ⟨gr, 0, none⟩)), (3, .pointer (some ⟨g, 0, none⟩)), (4, .int .i64 p.1)]) (fun p => 4 - p.1) ((0, List.replicate 16 0)) ?_ takesA frsA (fun st km hx hk => ?_)
  · exact ⟨by omega, by simp [seg, over]⟩
  obtain ⟨i, c⟩ := st
  dsimp only at hx hk ⊢
  obtain ⟨hi, hc0⟩ := hx
  have hcl : c.length = 16 := by rw [hc0, over_length] <;> simp [seg_len]; omega
  by_cases hlt : i < 4
  · skip
    repeat' (first
     | refine WPl.nil ?_ | refine WPq.then ?_ | refine WPq.thenR ?_ | refine WPq.thenE ?_ | refine WPq.blockN ?_ | refine WPq.blockR ?_ | refine WPq.blockE ?_ | refine WPq.blockO rfl ?_ | refine WPc.seq ?_ | refine WPc.block ?_ | refine WPc.ret ?_ | refine WPc.exit ?_ | refine WPc.skip ?_ | refine WPc.region ?_
     | (refine isCond ?_; first | refine WPc.cT ?_ | refine WPc.cF ?_ | (refine WPc.cQ (fun hc => ?_) (fun hc => ?_) <;> try exact prA))
     | (refine isOp ?_; first | refine WPl.rd ?_ | refine WPl.sk ?_ | refine WPl.rdB ?_)
     | (refine isAl ?_; refine WPl.nw fun g => ?_)
     | (refine isSt ?_; first | refine WPl.st1 ?_ | refine WPl.stA ?_ | refine WPl.stEB ?_ | refine WPl.stRB ?_)
     | (show WPl _ _ _ _ _ _ _ (⟨_, .indexAddr _ _ _, _, _, _, _⟩ :: _) _; refine WPl.rdX (ReadR.indexE rfl rfl hasA (by first | assumption | omega)) ?_)
     | (show WPl _ _ _ _ _ _ _ (⟨_, .fieldAddr _ _ _, _, _, _, _⟩ :: _) _; refine WPl.rdX (ReadR.fieldE rfl hasA (by first | assumption | omega)) ?_)
     | (show WPl _ _ _ _ _ _ _ (⟨_, .load _ _, _, _, _, _⟩ :: _) _; first | refine WPl.rdX (ReadR.loadE rfl hasA (by assumption)) ?_ | refine WPl.rdX (ReadR.loadES (by assumption) (by first | assumption | omega) rfl hasA) ?_)
     | (show WPl _ _ _ _ _ _ _ (⟨_, .slice _ _ _ _ _, _, _, _, _⟩ :: _) _; first | refine WPl.rdX (ReadR.sliceH rfl rfl hasA (by omega)) ?_ | refine WPl.rdX (ReadR.sliceL rfl rfl hasA (by omega)) ?_ | refine WPl.rdX (ReadR.sliceLH rfl rfl rfl hasA (by omega) (by omega)) ?_)
     | (refine WPl.spQ (fun hc => ?_) (fun hc => ?_) <;> try exact prA)
     | fail)
    exact WPq.rnd (i + 1, c.set (12 + i) (l.getD i 0)) ⟨by show i + 1 ≤ 4; omega, by
      show _ = over _ _ (seg l 0 (i + 1))
      have e := seg_snoc (l := l) (k := 0) (n := i) (by omega)
      have hs : (seg l 0 i).length = i := seg_length (by omega)
      rw [e, over_snoc _ _ _ _ (by simp; omega), ← hc0, hs, Nat.zero_add]⟩ (by show 4 - (i + 1) < km; omega)
  · obtain rfl : i = 4 := by omega
    rw [seg, List.drop_zero, List.take_of_length_le (by omega)] at hc0
    subst hc0
    repeat' (first
     | refine WPl.nil ?_ | refine WPq.then ?_ | refine WPq.thenR ?_ | refine WPq.thenE ?_ | refine WPq.blockN ?_ | refine WPq.blockR ?_ | refine WPq.blockE ?_ | refine WPq.blockO rfl ?_ | refine WPc.seq ?_ | refine WPc.block ?_ | refine WPc.ret ?_ | refine WPc.exit ?_ | refine WPc.skip ?_ | refine WPc.region ?_
     | (refine isCond ?_; first | refine WPc.cT ?_ | refine WPc.cF ?_ | (refine WPc.cQ (fun hc => ?_) (fun hc => ?_) <;> try exact prA))
     | (refine isOp ?_; first | refine WPl.rd ?_ | refine WPl.sk ?_ | refine WPl.rdB ?_)
     | (refine isAl ?_; refine WPl.nw fun g => ?_)
     | (refine isSt ?_; first | refine WPl.st1 ?_ | refine WPl.stA ?_ | refine WPl.stEB ?_ | refine WPl.stRB ?_)
     | (show WPl _ _ _ _ _ _ _ (⟨_, .indexAddr _ _ _, _, _, _, _⟩ :: _) _; refine WPl.rdX (ReadR.indexE rfl rfl hasA (by first | assumption | omega)) ?_)
     | (show WPl _ _ _ _ _ _ _ (⟨_, .fieldAddr _ _ _, _, _, _, _⟩ :: _) _; refine WPl.rdX (ReadR.fieldE rfl hasA (by first | assumption | omega)) ?_)
     | (show WPl _ _ _ _ _ _ _ (⟨_, .load _ _, _, _, _, _⟩ :: _) _; first | refine WPl.rdX (ReadR.loadE rfl hasA (by assumption)) ?_ | refine WPl.rdX (ReadR.loadES (by assumption) (by first | assumption | omega) rfl hasA) ?_)
     | (show WPl _ _ _ _ _ _ _ (⟨_, .slice _ _ _ _ _, _, _, _, _⟩ :: _) _; first | refine WPl.rdX (ReadR.sliceH rfl rfl hasA (by omega)) ?_ | refine WPl.rdX (ReadR.sliceL rfl rfl hasA (by omega)) ?_ | refine WPl.rdX (ReadR.sliceLH rfl rfl rfl hasA (by omega) (by omega)) ?_)
     | (refine WPl.spQ (fun hc => ?_) (fun hc => ?_) <;> try exact prA)
     | fail)
    all_goals try (first | exact WPq.dTp | exact WPq.dTs | exact WPq.dV | exact WPq.dR | exact WPq.dR2 | exact WPq.dH | exact WPq.dBH | exact WPq.dT)
theorem ferr_ne {b : List UInt8} (h : ¬ ferr b = 0) : 2048 < b.length ∨ b.length < 20 ∨ byteN b 0 / 16 ≠ 4 ∨ ihl b < 20 ∨ b.length < ihl b ∨ val (seg b 2 2) ≠ b.length ∨ csum (seg b 0 (ihl b)) ≠ 0 ∨ byteN b 8 = 0 ∨ 128 ≤ byteN b 6 := by
  apply Classical.byContradiction
  intro hn
  apply h
  unfold ferr
  repeat' (first | omega | split)
theorem rf_t (v : Value) (b : List UInt8) (hl : b.length ≤ 1000000) : Triple Try.prog 18 #[v] [rb v b] (RVal (fVal b)) := by
  have hb0 := byteN_lt b 0
  have hb6 := byteN_lt b 6
  have hb8 := byteN_lt b 8
  have hihl : (4 : Int) * (((b.getD 0 0).toNat : Nat) % 16) = ((ihl b : Nat) : Int) := by unfold ihl byteN; omega
  have hih := ihl_lt b
  have hv1 := val2_lt (l := b) (k := 2)
  have u0 : byteN b 0 = (b.getD 0 0).toNat := rfl
  have u6 : byteN b 6 = (b.getD 6 0).toNat := rfl
  have u8 : byteN b 8 = (b.getD 8 0).toNat := rfl
  by_cases he : ferr b = 0
  · rw [show fVal b = .tuple #[ag (hdc (fhead b)), .int .i64 0] by unfold fVal fread; rw [if_pos he, he]]
    obtain ⟨h1, h2, h3, h4, h5, h6, h7, h8, h9⟩ := ferr_zero he
    have hv6 := val_seg2 (b := b) (i := 6) (by omega)
    have c6 := (b.getD 6 0).toNat_lt
    have c7 := (b.getD 7 0).toNat_lt
    have hd : (!decide (((((b.getD 6 0).toNat : Nat) : Int) * 256 + (((b.getD 7 0).toNat : Nat) : Int)) % 16384 = 0)) = decide (¬ val (seg b 6 2) % 16384 = 0) := by
      rw [hv6, Bool.eq_iff_iff]; unfold byteN; simp; omega
    have ha1 := (ofA (seg b 12 4)).len
    have ha2 := (ofA (seg b 16 4)).len
    refine Triple.enter Try.func18 rfl Try.ntmps18 rfl (fun W => ?_)
    dsimp only [argsF, Nat.reduceAdd]
    repeat' (first
     | refine WPl.nil ?_ | refine WPq.then ?_ | refine WPq.thenR ?_ | refine WPq.thenE ?_ | refine WPq.blockN ?_ | refine WPq.blockR ?_ | refine WPq.blockE ?_ | refine WPq.blockO rfl ?_ | refine WPc.seq ?_ | refine WPc.block ?_ | refine WPc.ret ?_ | refine WPc.exit ?_ | refine WPc.skip ?_ | refine WPc.region ?_
     | (refine isReg 8 ?_; refine WPc.drA [([], [28, 29, 30]), ([0], [22, 28, 29, 30]), ([0, 1], [22, 23, 28, 29, 30]), ([0, 1, 2], [22, 23, 24, 28, 29, 30]), ([0, 1, 2, 3], [22, 23, 24, 25, 28, 29, 30]), ([0, 1, 2, 3, 4], [22, 23, 24, 25, 26, 28, 29, 30]), ([], [22, 23, 24, 25, 26, 27]), ([6], [22, 23, 24, 25, 26, 27, 28]), ([6, 7], [5, 22, 23, 24, 25, 26, 27, 28, 29]), ([0, 1, 2, 3, 4, 5, 6, 7], [22, 23, 24, 25, 26, 27, 28, 29, 30]), ([0, 1, 2, 3, 4, 5, 6, 7, 8, 9], [5, 22, 23, 24, 25, 26, 27, 28, 29, 30])] [] (Γx := []) ?_; dsimp only [prev0, List.length_nil, List.length_cons])
     | (refine isReg 23 ?_; refine WPc.drA [([28], [73, 74, 75, 76, 77, 78, 79, 80, 81, 82, 83, 84, 85, 86, 87, 88, 89, 90, 91, 92, 93, 94]), ([0, 28], [70, 73, 74, 75, 76, 77, 78, 79, 80, 81, 82, 83, 84, 85, 86, 87, 88, 89, 90, 91, 92, 93, 94]), ([0, 1, 28], [70, 71, 73, 74, 75, 76, 77, 78, 79, 80, 81, 82, 83, 84, 85, 86, 87, 88, 89, 90, 91, 92, 93, 94]), ([28], [70, 71, 72, 74, 75, 76, 77, 78, 79, 80, 81, 82, 83, 84, 85, 86, 87, 88, 89, 90, 91, 92, 93, 94]), ([28], [70, 71, 72, 73, 77, 78, 80, 81, 82, 83, 84, 85, 86, 87, 88, 89, 90, 91, 92, 93, 94]), ([4, 28], [70, 71, 72, 73, 74, 77, 78, 80, 81, 82, 83, 84, 85, 86, 87, 88, 89, 90, 91, 92, 93, 94]), ([4, 5, 28], [70, 71, 72, 73, 74, 75, 77, 78, 80, 81, 82, 83, 84, 85, 86, 87, 88, 89, 90, 91, 92, 93, 94]), ([28], [70, 71, 72, 73, 74, 75, 76, 80, 81, 82, 83, 84, 85, 86, 87, 88, 89, 90, 91, 92, 93, 94]), ([7, 28], [70, 71, 72, 73, 74, 75, 76, 77, 80, 81, 82, 83, 84, 85, 86, 87, 88, 89, 90, 91, 92, 93, 94]), ([4, 5, 6, 7, 8, 28], [70, 71, 72, 73, 74, 75, 76, 77, 78, 80, 81, 82, 83, 84, 85, 86, 87, 88, 89, 90, 91, 92, 93, 94]), ([28], [70, 71, 72, 73, 74, 75, 76, 77, 78, 79, 85, 86, 87, 88, 92, 93, 94]), ([10, 28], [70, 71, 72, 73, 74, 75, 76, 77, 78, 79, 80, 85, 86, 87, 88, 92, 93, 94]), ([10, 11, 28], [70, 71, 72, 73, 74, 75, 76, 77, 78, 79, 80, 81, 85, 86, 87, 88, 92, 93, 94]), ([10, 11, 12, 28], [70, 71, 72, 73, 74, 75, 76, 77, 78, 79, 80, 81, 82, 85, 86, 87, 88, 92, 93, 94]), ([10, 11, 12, 13, 28], [70, 71, 72, 73, 74, 75, 76, 77, 78, 79, 80, 81, 82, 83, 85, 86, 87, 88, 92, 93, 94]), ([28], [70, 71, 72, 73, 74, 75, 76, 77, 78, 79, 80, 81, 82, 83, 84, 92, 93, 94]), ([15, 28], [70, 71, 72, 73, 74, 75, 76, 77, 78, 79, 80, 81, 82, 83, 84, 85, 92, 93, 94]), ([15, 16, 28], [70, 71, 72, 73, 74, 75, 76, 77, 78, 79, 80, 81, 82, 83, 84, 85, 86, 92, 93, 94]), ([15, 16, 17, 28], [70, 71, 72, 73, 74, 75, 76, 77, 78, 79, 80, 81, 82, 83, 84, 85, 86, 87, 92, 93, 94]), ([10, 11, 12, 13, 14, 15, 16, 17, 18, 28], [70, 71, 72, 73, 74, 75, 76, 77, 78, 79, 80, 81, 82, 83, 84, 85, 86, 87, 88, 92, 93, 94]), ([10, 11, 12, 13, 14, 15, 16, 17, 18, 19, 28], [70, 71, 72, 73, 74, 75, 76, 77, 78, 79, 80, 81, 82, 83, 84, 85, 86, 87, 88, 89, 92, 93, 94]), ([10, 11, 12, 13, 14, 15, 16, 17, 18, 19, 20, 28], [70, 71, 72, 73, 74, 75, 76, 77, 78, 79, 80, 81, 82, 83, 84, 85, 86, 87, 88, 89, 90, 92, 93, 94]), ([28], [70, 71, 72, 73, 74, 75, 76, 77, 78, 79, 80, 81, 82, 83, 84, 85, 86, 87, 88, 89, 90, 91]), ([22, 28], [70, 71, 72, 73, 74, 75, 76, 77, 78, 79, 80, 81, 82, 83, 84, 85, 86, 87, 88, 89, 90, 91, 92]), ([22, 23, 28], [70, 71, 72, 73, 74, 75, 76, 77, 78, 79, 80, 81, 82, 83, 84, 85, 86, 87, 88, 89, 90, 91, 92, 93]), ([0, 1, 2, 3, 4, 5, 6, 7, 8, 9, 10, 11, 12, 13, 14, 15, 16, 17, 18, 19, 20, 21, 22, 23, 24, 28], [70, 71, 72, 73, 74, 75, 76, 77, 78, 79, 80, 81, 82, 83, 84, 85, 86, 87, 88, 89, 90, 91, 92, 93, 94]), ([0, 1, 2, 3, 4, 5, 6, 7, 8, 9, 10, 11, 12, 13, 14, 15, 16, 17, 18, 19, 20, 21, 22, 23, 24, 25, 28], [70, 71, 72, 73, 74, 75, 76, 77, 78, 79, 80, 81, 82, 83, 84, 85, 86, 87, 88, 89, 90, 91, 92, 93, 94, 95]), ([0, 1, 2, 3, 4, 5, 6, 7, 8, 9, 10, 11, 12, 13, 14, 15, 16, 17, 18, 19, 20, 21, 22, 23, 24, 25, 26, 28], [70, 71, 72, 73, 74, 75, 76, 77, 78, 79, 80, 81, 82, 83, 84, 85, 86, 87, 88, 89, 90, 91, 92, 93, 94, 95])] [(28, 26), (28, 0), (28, 1), (28, 2), (28, 3), (28, 4), (28, 5), (28, 6), (28, 7), (28, 8), (28, 9), (28, 10), (28, 11), (28, 12), (28, 13), (28, 14), (28, 15), (28, 16), (28, 17), (28, 18), (28, 19), (28, 20), (28, 21), (28, 22), (28, 23), (28, 24), (28, 25)] (Γx := [bx gr 33 (hdc Hd.none)]) ?_; dsimp only [prev0, List.length_nil, List.length_cons])
     | (refine gAny ?_; first | (refine gCl ?_; refine RGl.vl (fun e hk => OpT.callN (rget_t v b 2 2 (by omega) (by omega) (by omega))) ?_) | (refine gCl ?_; refine RGl.vl (fun e hk => OpT.callN (rsum_t (subv 1 v 0 (ihl b)) (seg b 0 (ihl b)) (by simp [seg_len]; omega))) ?_) | (refine gCl ?_; refine RGl.vl (fun e hk => OpT.callN (r13of_t (subv 1 v 12 4) (seg b 12 4) (seg_length (by omega)))) ?_) | (refine gCl ?_; refine RGl.vl (fun e hk => OpT.callN (r13of_t (subv 1 v 16 4) (seg b 16 4) (seg_length (by omega)))) ?_) | (show RGl _ _ _ _ _ _ _ _ (⟨_, .binOp .mul _ _ _ _, _, _, _, _⟩ :: _) _ _; refine RGl.rdX (fun e hk => by (try dsimp only [bndR, ensR, oksR, fcutR, List.append_nil, List.nil_append, List.cons_append, List.append_assoc] at hk ⊢); exact ReadR.bin rfl rfl (BinR.mulT hihl (by simp only [kmin]; omega) (by simp only [kmax]; omega))) ?_) | (show RGl _ _ _ _ _ _ _ _ (⟨_, .binOp .neq _ _ _ _, _, _, _, _⟩ :: _) _ _; refine RGl.rdX (fun e hk => by (try dsimp only [bndR, ensR, oksR, fcutR, List.append_nil, List.nil_append, List.cons_append, List.append_assoc] at hk ⊢); exact ReadR.binE rfl rfl BinR.neq (congrArg Value.bool hd)) ?_) | (refine gOp ?_; first | refine RGl.rdA ?_ | refine RGl.rdX (fun e hk => by (try dsimp only [bndR, ensR, oksR, fcutR, List.append_nil, List.nil_append, List.cons_append, List.append_assoc] at hk ⊢); exact readB) ?_) | (refine gSt ?_; refine RGl.stA ?_) | (refine RGl.fin (fun e hk => ?_); (try dsimp only [bndA, ensAR, oksA, List.append_nil, List.nil_append, List.cons_append, List.append_assoc] at hk ⊢); (repeat (obtain ⟨hk1, hk⟩ := hk))) | fail)
     | (refine isCond ?_; first | refine WPc.cT ?_ | refine WPc.cF ?_ | (refine WPc.cQ (fun hc => ?_) (fun hc => ?_) <;> try exact prA))
     | (refine isD 2 ?_; first | (refine isAl ?_; refine WPl.nw fun gr => ?_) | (refine isBx ?_; refine WPl.nw fun gr => ?_))
     | (refine isCl ?_; refine WPl.cV (rget_t v b 2 2 (by omega) (by omega) (by omega)) ?_)
     | (refine isCl ?_; refine WPl.cV (rsum_t (subv 1 v 0 (ihl b)) (seg b 0 (ihl b)) (by simp [seg_len]; omega)) ?_)
     | (refine isCl ?_; refine WPl.cV (r13of_t (subv 1 v 12 4) (seg b 12 4) (seg_length (by omega))) ?_)
     | (refine isCl ?_; refine WPl.cV (r13of_t (subv 1 v 16 4) (seg b 16 4) (seg_length (by omega))) ?_)
     | (show WPl _ _ _ _ _ _ _ (⟨_, .binOp .mul _ _ _ _, _, _, _, _⟩ :: _) _; refine WPl.rdX (ReadR.bin rfl rfl (BinR.mulT hihl (by simp only [kmin]; omega) (by simp only [kmax]; omega))) ?_)
     | (refine isOp ?_; first | refine WPl.rd ?_ | refine WPl.sk ?_ | refine WPl.rdB ?_)
     | (refine isAl ?_; refine WPl.nw fun g => ?_)
     | (refine isSt ?_; first | refine WPl.st1 ?_ | refine WPl.stA ?_ | refine WPl.stEB ?_ | refine WPl.stRB ?_)
     | (show WPl _ _ _ _ _ _ _ (⟨_, .indexAddr _ _ _, _, _, _, _⟩ :: _) _; refine WPl.rdX (ReadR.indexE rfl rfl hasA (by first | assumption | omega)) ?_)
     | (show WPl _ _ _ _ _ _ _ (⟨_, .fieldAddr _ _ _, _, _, _, _⟩ :: _) _; refine WPl.rdX (ReadR.fieldE rfl hasA (by first | assumption | omega)) ?_)
     | (show WPl _ _ _ _ _ _ _ (⟨_, .load _ _, _, _, _, _⟩ :: _) _; first | refine WPl.rdX (ReadR.loadE rfl hasA (by assumption)) ?_ | refine WPl.rdX (ReadR.loadES (by assumption) (by first | assumption | omega) rfl hasA) ?_)
     | (show WPl _ _ _ _ _ _ _ (⟨_, .slice _ _ _ _ _, _, _, _, _⟩ :: _) _; first | refine WPl.rdX (ReadR.sliceH rfl rfl hasA (by omega)) ?_ | refine WPl.rdX (ReadR.sliceL rfl rfl hasA (by omega)) ?_ | refine WPl.rdX (ReadR.sliceLH rfl rfl rfl hasA (by omega) (by omega)) ?_)
     | (refine WPl.spQ (fun hc => ?_) (fun hc => ?_) <;> try exact prA)
     | fail)
    all_goals try (first | exact WPq.dTp | exact WPq.dTs | exact WPq.dV | exact WPq.dR | exact WPq.dR2 | exact WPq.dH | exact WPq.dBH | exact WPq.dT)
  · rw [show fVal b = .tuple #[ag (hdc Hd.none), .int .i64 (ferr b)] by unfold fVal fread; rw [if_neg he]]
    have hne := ferr_ne he
    refine Triple.enter Try.func18 rfl Try.ntmps18 rfl (fun W => ?_)
    dsimp only [argsF, Nat.reduceAdd]
    repeat' (first
     | refine WPl.nil ?_ | refine WPq.then ?_ | refine WPq.thenR ?_ | refine WPq.thenE ?_ | refine WPq.blockN ?_ | refine WPq.blockR ?_ | refine WPq.blockE ?_ | refine WPq.blockO rfl ?_ | refine WPc.seq ?_ | refine WPc.block ?_ | refine WPc.ret ?_ | refine WPc.exit ?_ | refine WPc.skip ?_ | refine WPc.region ?_
     | (refine isReg 8 ?_; refine WPc.drA [([], [28, 29, 30]), ([0], [22, 28, 29, 30]), ([0, 1], [22, 23, 28, 29, 30]), ([0, 1, 2], [22, 23, 24, 28, 29, 30]), ([0, 1, 2, 3], [22, 23, 24, 25, 28, 29, 30]), ([0, 1, 2, 3, 4], [22, 23, 24, 25, 26, 28, 29, 30]), ([], [22, 23, 24, 25, 26, 27]), ([6], [22, 23, 24, 25, 26, 27, 28]), ([6, 7], [5, 22, 23, 24, 25, 26, 27, 28, 29]), ([0, 1, 2, 3, 4, 5, 6, 7], [22, 23, 24, 25, 26, 27, 28, 29, 30]), ([0, 1, 2, 3, 4, 5, 6, 7, 8, 9], [5, 22, 23, 24, 25, 26, 27, 28, 29, 30])] [] (Γx := []) ?_; dsimp only [prev0, List.length_nil, List.length_cons])
     | (refine isReg 23 ?_; refine WPc.drA [([], [73, 74, 75, 76, 77, 78, 79, 80, 81, 82, 83, 84, 85, 86, 87, 88, 89, 90, 91, 92, 93, 94]), ([0], [70, 73, 74, 75, 76, 77, 78, 79, 80, 81, 82, 83, 84, 85, 86, 87, 88, 89, 90, 91, 92, 93, 94]), ([0, 1], [70, 71, 73, 74, 75, 76, 77, 78, 79, 80, 81, 82, 83, 84, 85, 86, 87, 88, 89, 90, 91, 92, 93, 94]), ([], [70, 71, 72, 74, 75, 76, 77, 78, 79, 80, 81, 82, 83, 84, 85, 86, 87, 88, 89, 90, 91, 92, 93, 94]), ([], [70, 71, 72, 73, 77, 78, 80, 81, 82, 83, 84, 85, 86, 87, 88, 89, 90, 91, 92, 93, 94]), ([4], [70, 71, 72, 73, 74, 77, 78, 80, 81, 82, 83, 84, 85, 86, 87, 88, 89, 90, 91, 92, 93, 94]), ([4, 5], [70, 71, 72, 73, 74, 75, 77, 78, 80, 81, 82, 83, 84, 85, 86, 87, 88, 89, 90, 91, 92, 93, 94]), ([], [70, 71, 72, 73, 74, 75, 76, 80, 81, 82, 83, 84, 85, 86, 87, 88, 89, 90, 91, 92, 93, 94]), ([7], [70, 71, 72, 73, 74, 75, 76, 77, 80, 81, 82, 83, 84, 85, 86, 87, 88, 89, 90, 91, 92, 93, 94]), ([4, 5, 6, 7, 8], [70, 71, 72, 73, 74, 75, 76, 77, 78, 80, 81, 82, 83, 84, 85, 86, 87, 88, 89, 90, 91, 92, 93, 94]), ([], [70, 71, 72, 73, 74, 75, 76, 77, 78, 79, 85, 86, 87, 88, 92, 93, 94]), ([10], [70, 71, 72, 73, 74, 75, 76, 77, 78, 79, 80, 85, 86, 87, 88, 92, 93, 94]), ([10, 11], [70, 71, 72, 73, 74, 75, 76, 77, 78, 79, 80, 81, 85, 86, 87, 88, 92, 93, 94]), ([10, 11, 12], [70, 71, 72, 73, 74, 75, 76, 77, 78, 79, 80, 81, 82, 85, 86, 87, 88, 92, 93, 94]), ([10, 11, 12, 13], [70, 71, 72, 73, 74, 75, 76, 77, 78, 79, 80, 81, 82, 83, 85, 86, 87, 88, 92, 93, 94]), ([], [70, 71, 72, 73, 74, 75, 76, 77, 78, 79, 80, 81, 82, 83, 84, 92, 93, 94]), ([15], [70, 71, 72, 73, 74, 75, 76, 77, 78, 79, 80, 81, 82, 83, 84, 85, 92, 93, 94]), ([15, 16], [70, 71, 72, 73, 74, 75, 76, 77, 78, 79, 80, 81, 82, 83, 84, 85, 86, 92, 93, 94]), ([15, 16, 17], [70, 71, 72, 73, 74, 75, 76, 77, 78, 79, 80, 81, 82, 83, 84, 85, 86, 87, 92, 93, 94]), ([10, 11, 12, 13, 14, 15, 16, 17, 18], [70, 71, 72, 73, 74, 75, 76, 77, 78, 79, 80, 81, 82, 83, 84, 85, 86, 87, 88, 92, 93, 94]), ([10, 11, 12, 13, 14, 15, 16, 17, 18, 19], [70, 71, 72, 73, 74, 75, 76, 77, 78, 79, 80, 81, 82, 83, 84, 85, 86, 87, 88, 89, 92, 93, 94]), ([10, 11, 12, 13, 14, 15, 16, 17, 18, 19, 20], [70, 71, 72, 73, 74, 75, 76, 77, 78, 79, 80, 81, 82, 83, 84, 85, 86, 87, 88, 89, 90, 92, 93, 94]), ([], [70, 71, 72, 73, 74, 75, 76, 77, 78, 79, 80, 81, 82, 83, 84, 85, 86, 87, 88, 89, 90, 91]), ([22], [70, 71, 72, 73, 74, 75, 76, 77, 78, 79, 80, 81, 82, 83, 84, 85, 86, 87, 88, 89, 90, 91, 92]), ([22, 23], [70, 71, 72, 73, 74, 75, 76, 77, 78, 79, 80, 81, 82, 83, 84, 85, 86, 87, 88, 89, 90, 91, 92, 93]), ([0, 1, 2, 3, 4, 5, 6, 7, 8, 9, 10, 11, 12, 13, 14, 15, 16, 17, 18, 19, 20, 21, 22, 23, 24], [70, 71, 72, 73, 74, 75, 76, 77, 78, 79, 80, 81, 82, 83, 84, 85, 86, 87, 88, 89, 90, 91, 92, 93, 94]), ([0, 1, 2, 3, 4, 5, 6, 7, 8, 9, 10, 11, 12, 13, 14, 15, 16, 17, 18, 19, 20, 21, 22, 23, 24, 25], [70, 71, 72, 73, 74, 75, 76, 77, 78, 79, 80, 81, 82, 83, 84, 85, 86, 87, 88, 89, 90, 91, 92, 93, 94, 95]), ([0, 1, 2, 3, 4, 5, 6, 7, 8, 9, 10, 11, 12, 13, 14, 15, 16, 17, 18, 19, 20, 21, 22, 23, 24, 25, 26], [70, 71, 72, 73, 74, 75, 76, 77, 78, 79, 80, 81, 82, 83, 84, 85, 86, 87, 88, 89, 90, 91, 92, 93, 94, 95])] [] (Γx := []) ?_; dsimp only [prev0, List.length_nil, List.length_cons])
     | (refine gAny ?_; first | (refine gCl ?_; refine RGl.vl (fun e hk => OpT.callN (rget_t v b 2 2 (by omega) (by omega) (by omega))) ?_) | (refine gCl ?_; refine RGl.vl (fun e hk => OpT.callN (rsum_t (subv 1 v 0 (ihl b)) (seg b 0 (ihl b)) (by simp [seg_len]; omega))) ?_) | (show RGl _ _ _ _ _ _ _ _ (⟨_, .binOp .mul _ _ _ _, _, _, _, _⟩ :: _) _ _; refine RGl.rdX (fun e hk => by (try dsimp only [bndR, ensR, oksR, fcutR, List.append_nil, List.nil_append, List.cons_append, List.append_assoc] at hk ⊢); exact ReadR.bin rfl rfl (BinR.mulT hihl (by simp only [kmin]; omega) (by simp only [kmax]; omega))) ?_) | (refine gOp ?_; first | refine RGl.rdA ?_ | refine RGl.rdX (fun e hk => by (try dsimp only [bndR, ensR, oksR, fcutR, List.append_nil, List.nil_append, List.cons_append, List.append_assoc] at hk ⊢); exact readB) ?_) | (refine gSt ?_; refine RGl.stA ?_) | (refine RGl.fin (fun e hk => ?_); (try dsimp only [bndA, ensAR, oksA, List.append_nil, List.nil_append, List.cons_append, List.append_assoc] at hk ⊢); (repeat (obtain ⟨hk1, hk⟩ := hk))) | fail)
     | (refine isCond ?_; first | refine WPc.cT ?_ | refine WPc.cF ?_ | (refine WPc.cQ (fun hc => ?_) (fun hc => ?_) <;> try exact prA))
     | (refine isD 2 ?_; first | (refine isAl ?_; refine WPl.nw fun gr => ?_) | (refine isBx ?_; refine WPl.nw fun gr => ?_))
     | (refine isCl ?_; refine WPl.cV (rget_t v b 2 2 (by omega) (by omega) (by omega)) ?_)
     | (refine isCl ?_; refine WPl.cV (rsum_t (subv 1 v 0 (ihl b)) (seg b 0 (ihl b)) (by simp [seg_len]; omega)) ?_)
     | (show WPl _ _ _ _ _ _ _ (⟨_, .binOp .mul _ _ _ _, _, _, _, _⟩ :: _) _; refine WPl.rdX (ReadR.bin rfl rfl (BinR.mulT hihl (by simp only [kmin]; omega) (by simp only [kmax]; omega))) ?_)
     | (refine isOp ?_; first | refine WPl.rd ?_ | refine WPl.sk ?_ | refine WPl.rdB ?_)
     | (refine isAl ?_; refine WPl.nw fun g => ?_)
     | (refine isSt ?_; first | refine WPl.st1 ?_ | refine WPl.stA ?_ | refine WPl.stEB ?_ | refine WPl.stRB ?_)
     | (show WPl _ _ _ _ _ _ _ (⟨_, .indexAddr _ _ _, _, _, _, _⟩ :: _) _; refine WPl.rdX (ReadR.indexE rfl rfl hasA (by first | assumption | omega)) ?_)
     | (show WPl _ _ _ _ _ _ _ (⟨_, .fieldAddr _ _ _, _, _, _, _⟩ :: _) _; refine WPl.rdX (ReadR.fieldE rfl hasA (by first | assumption | omega)) ?_)
     | (show WPl _ _ _ _ _ _ _ (⟨_, .load _ _, _, _, _, _⟩ :: _) _; first | refine WPl.rdX (ReadR.loadE rfl hasA (by assumption)) ?_ | refine WPl.rdX (ReadR.loadES (by assumption) (by first | assumption | omega) rfl hasA) ?_)
     | (show WPl _ _ _ _ _ _ _ (⟨_, .slice _ _ _ _ _, _, _, _, _⟩ :: _) _; first | refine WPl.rdX (ReadR.sliceH rfl rfl hasA (by omega)) ?_ | refine WPl.rdX (ReadR.sliceL rfl rfl hasA (by omega)) ?_ | refine WPl.rdX (ReadR.sliceLH rfl rfl rfl hasA (by omega) (by omega)) ?_)
     | (refine WPl.spQ (fun hc => ?_) (fun hc => ?_) <;> try exact prA)
     | fail)
    all_goals
      refine WPq.dV (hc := ?_)
      show Value.tuple #[_, Value.int .i64 _] = Value.tuple #[_, Value.int .i64 _]
      congr 5
      unfold ferr
      repeat' (first | omega | split)
end Go.Proofs.Ytjfhiifpnpokpaa
/- Layer 13 (ipfour): writing heads: contracts. -/
namespace Go.Proofs.Ytjfhiifpnpokpaa
open Go.RowKit
set_option linter.unusedSimpArgs false
set_option linter.unusedVariables false
set_option maxRecDepth 20000
set_option maxHeartbeats 4000000
attribute [local irreducible] WPc WPl WPq ReadR OpT BinR HasS bx rdN rowN Take Takes Prov Triple ResF BuildP Done ag Int.decLt Int.decLe Int.instDecidableEq

def fwBad (h : Hd) : Bool := h.six || (h.part || (decide (((h.hops.toNat : Nat) : Int) = 0) || (h.src.six || (h.dst.six || (!h.src.good || !h.dst.good)))))
def fwerr (h : Hd) (n : Nat) : Int := if fwBad h then 1 else if 2028 < n then 10 else 0
def fpre (h : Hd) (n : Nat) : List UInt8 := [nbs [69, 0] ++ be (20 + n) 2 ++ nbs [0, 0, 0, 0, (h.hops.toNat : Nat), (h.proto.toNat : Nat), 0, 0], h.src.bytes, h.dst.bytes].flatten
def fpkt (h : Hd) (d : List UInt8) : List UInt8 := [over (fpre h d.length) 10 (be (csum (fpre h d.length)) 2), d].flatten
def fwL (h : Hd) (d : List UInt8) : List UInt8 := if fwerr h d.length = 0 then fpkt h d else []
abbrev RW (l : List UInt8) (e : Int) : Value → List Asn → Prop := RRow2 5 1 l.length (u8s l) (.int .i64 e)
theorem fwBad_no {h : Hd} (hb : fwBad h = false) : h.six = false ∧ h.part = false ∧ ¬ ((h.hops.toNat : Nat) : Int) = 0 ∧ h.src.six = false ∧ h.dst.six = false ∧ h.src.good = true ∧ h.dst.good = true := by
  simpa [fwBad] using hb
theorem fpre_len {h : Hd} {n : Nat} (h1 : h.src.six = false) (h2 : h.dst.six = false) : (fpre h n).length = 20 := by
  have a1 := h.src.bytes_len
  have a2 := h.dst.bytes_len
  rw [h1, if_neg (by decide)] at a1
  rw [h2, if_neg (by decide)] at a2
  simp [fpre, nbs, be_length, a1, a2]
attribute [local irreducible] fpre fpkt csum over be
end Go.Proofs.Ytjfhiifpnpokpaa
/- Layer 13 (ipfour): plain facts of what is written: it is read, spoilt, cut. -/
namespace Go.Proofs.Ytjfhiifpnpokpaa
open Go.RowKit
set_option linter.unusedSimpArgs false
set_option linter.unusedVariables false
set_option maxRecDepth 20000
set_option maxHeartbeats 4000000
attribute [local irreducible] WPc WPl WPq ReadR OpT BinR HasS bx rdN rowN Take Takes Prov Triple ResF BuildP Done ag Int.decLt Int.decLe Int.instDecidableEq

theorem four_of {l : List UInt8} (h : l.length = 4) : ∃ a b c d, l = [a, b, c, d] := by
  match l, h with
  | [a, b, c, d], _ => exact ⟨a, b, c, d, rfl⟩
/-- The weight of a place in the sum. -/
def wgt (k : Nat) : Nat := if k % 2 = 0 then 256 else 1
end Go.Proofs.Ytjfhiifpnpokpaa
/- Layer 17 (nat): plain facts: a sum that is changed beside the bytes it stands for, in ones' complement. -/
namespace Go.Proofs.Ytjfhiifpnpokpaa
open Go.RowKit
set_option linter.unusedSimpArgs false
set_option linter.unusedVariables false
set_option maxRecDepth 20000
set_option maxHeartbeats 4000000
attribute [local irreducible] WPc WPl WPq ReadR OpT BinR HasS bx rdN rowN Take Takes Prov Triple ResF BuildP Done ag Int.decLt Int.decLe Int.instDecidableEq

/-- Bytes laid over others. -/
def lay (l : List UInt8) (k : Nat) (y : List UInt8) : List UInt8 := l.take k ++ y ++ l.drop (k + y.length)
theorem lay_length {l y : List UInt8} {k : Nat} (h : k + y.length ≤ l.length) : (lay l k y).length = l.length := by
  unfold lay; simp only [List.length_append, List.length_take, List.length_drop]; omega
theorem lay_seg (l : List UInt8) (k n : Nat) : l.take k ++ seg l k n ++ l.drop (k + n) = l := by
  unfold seg
  rw [List.append_assoc, ← List.drop_drop, List.take_append_drop, List.take_append_drop]
theorem wsum_ev (l m : List UInt8) (h : l.length % 2 = 0) : wsum true (l ++ m) = wsum true l + wsum true m := by
  rw [wsum_append, par_even, if_pos h]
theorem wsum_three (a b c : List UInt8) (ha : a.length % 2 = 0) (hb : b.length % 2 = 0) : wsum true (a ++ b ++ c) = wsum true a + wsum true b + wsum true c := by
  rw [wsum_ev _ _ (by rw [List.length_append]; omega), wsum_ev _ _ ha]
/-- Bytes laid at an even place change the sum of words by their own. -/
theorem wsum_lay {l y : List UInt8} {k : Nat} (h : k + y.length ≤ l.length) (hk : k % 2 = 0) (hy : y.length % 2 = 0) :
    wsum true (lay l k y) + wsum true (seg l k y.length) = wsum true l + wsum true y := by
  have hl : (l.take k).length % 2 = 0 := by rw [List.length_take, Nat.min_eq_left (by omega)]; exact hk
  have h1 : wsum true l = wsum true (l.take k) + wsum true (seg l k y.length) + wsum true (l.drop (k + y.length)) := by
    rw [← wsum_three _ _ _ hl (by rw [seg_length h]; exact hy), lay_seg]
  have h2 : wsum true (lay l k y) = wsum true (l.take k) + wsum true y + wsum true (l.drop (k + y.length)) := wsum_three _ _ _ hl hy
  omega
/-- What the change of a sum adds: the old words turned over, and the young. -/
def csteps : List UInt8 → List UInt8 → Nat
  | a :: b :: l, c :: d :: m => (65535 - (256 * a.toNat + b.toNat)) + (256 * c.toNat + d.toNat) + csteps l m
  | _, _ => 0
def chg (s : Nat) (o y : List UInt8) : Nat := 65535 - fold ((65535 - s) + csteps o y)
theorem csteps_eq : ∀ (o y : List UInt8), o.length = y.length → o.length % 2 = 0 → csteps o y + wsum true o = 65535 * (o.length / 2) + wsum true y
  | [], [], _, _ => rfl
  | [_], [_], _, h => by simp at h
  | a :: b :: l, c :: d :: m, h, h2 => by
    have ih := csteps_eq l m (by simpa using h) (by simp only [List.length_cons] at h2; omega)
    have ha := a.toNat_lt; have hb := b.toNat_lt
    simp only [csteps, wsum, List.length_cons] at *
    have : (l.length + 1 + 1) / 2 = l.length / 2 + 1 := by omega
    rw [this]
    omega
  | [], _ :: _, h, _ => by simp at h
  | _ :: _, [], h, _ => by simp at h
  | [_], _ :: _ :: _, h, _ => by simp at h
  | _ :: _ :: _, [_], h, _ => by simp at h
/-- The changed sum and the young words are the old sum and the old words, in ones' complement. -/
theorem chg_mod {s : Nat} {o y : List UInt8} (hs : s ≤ 65535) (h : o.length = y.length) (h2 : o.length % 2 = 0) :
    (chg s o y + wsum true y) % 65535 = (s + wsum true o) % 65535 := by
  have h3 := csteps_eq o y h h2
  have h4 := fold_le ((65535 - s) + csteps o y)
  have h5 := fold_mod ((65535 - s) + csteps o y)
  unfold chg
  generalize fold ((65535 - s) + csteps o y) = F at *
  generalize csteps o y = C at *
  generalize o.length / 2 = q at *
  generalize wsum true o = O at *
  generalize wsum true y = Y at *
  omega
theorem chg_le (s : Nat) (o y : List UInt8) : chg s o y ≤ 65535 := by unfold chg; omega
/-- Where zero is told as all ones, the class stays. -/
def udp (n : Nat) : Nat := if n = 0 then 65535 else n
theorem udp_mod (n : Nat) : udp n % 65535 = n % 65535 := by unfold udp; split <;> omega
theorem udp_ne (n : Nat) : udp n ≠ 0 := by unfold udp; split <;> omega
theorem udp_le {n : Nat} (h : n ≤ 65535) : udp n ≤ 65535 := by unfold udp; split <;> omega
def twoB (n : Nat) : List UInt8 := [UInt8.ofNat (n / 256), UInt8.ofNat (n % 256)]
theorem wsum_two' {n : Nat} (h : n ≤ 65535) : wsum true (twoB n) = n := by
  simp only [twoB, wsum, UInt8.toNat_ofNat']
  omega
theorem lay_get {l y : List UInt8} {k : Nat} (h : k + y.length ≤ l.length) (i : Nat) :
    (lay l k y)[i]? = if i < k ∨ k + y.length ≤ i then l[i]? else y[i - k]? := by
  unfold lay
  have hk : (l.take k).length = k := by rw [List.length_take]; omega
  by_cases h1 : i < k
  · rw [if_pos (Or.inl h1), List.append_assoc, List.getElem?_append_left (by omega), List.getElem?_take, if_pos h1]
  · by_cases h2 : k + y.length ≤ i
    · rw [if_pos (Or.inr h2), List.getElem?_append_right (by rw [List.length_append]; omega), List.getElem?_drop, List.length_append, hk]
      congr 1; omega
    · rw [if_neg (by omega), List.append_assoc, List.getElem?_append_right (by omega), hk, List.getElem?_append_left (by omega)]
/-- Good stays good: a row with a sum in it, bytes of which (beside the sum) and the sum are laid anew, weighs the same in ones' complement. -/
theorem lay_good {l y : List UInt8} {k j s n : Nat} (hk : k % 2 = 0) (hj : j % 2 = 0) (hy : y.length % 2 = 0) (h : k + y.length ≤ l.length) (hj2 : j + 2 ≤ l.length)
    (hap : j + 2 ≤ k ∨ k + y.length ≤ j) (hs : seg l j 2 = twoB s) (hs1 : s ≤ 65535) (hn : n ≤ 65535) (hm : n % 65535 = chg s (seg l k y.length) y % 65535) :
    wsum true (lay (lay l k y) j (twoB n)) % 65535 = wsum true l % 65535 := by
  have h1 := wsum_lay h hk hy
  have h2 := wsum_lay (l := lay l k y) (y := twoB n) (k := j) (by rw [lay_length h]; exact hj2) hj (by simp [twoB])
  have h3 : seg (lay l k y) j 2 = seg l j 2 := by
    apply List.ext_getElem?
    intro i
    unfold seg
    rw [List.getElem?_take, List.getElem?_take, List.getElem?_drop, List.getElem?_drop]
    by_cases hi : i < 2
    · rw [if_pos hi, if_pos hi, lay_get h, if_pos (by omega)]
    · rw [if_neg hi, if_neg hi]
  have h4 : (twoB n).length = 2 := rfl
  rw [h4, h3, hs, wsum_two' hs1, wsum_two' hn] at h2
  have h5 := chg_mod (s := s) (o := seg l k y.length) (y := y) hs1 (seg_length h) (by rw [seg_length h]; exact hy)
  generalize wsum true (lay (lay l k y) j (twoB n)) = W2 at *
  generalize wsum true (lay l k y) = W1 at *
  generalize wsum true l = W at *
  generalize chg s (seg l k y.length) y = C at *
  generalize wsum true (seg l k y.length) = O at *
  generalize wsum true y = Y at *
  omega

end Go.Proofs.Ytjfhiifpnpokpaa
/- Layer 17 (nat): plain facts: a head of four whose address and sum are laid anew. -/
namespace Go.Proofs.Ytjfhiifpnpokpaa
open Go.RowKit
set_option linter.unusedSimpArgs false
set_option linter.unusedVariables false
set_option maxRecDepth 20000
set_option maxHeartbeats 4000000
attribute [local irreducible] WPc WPl WPq ReadR OpT BinR HasS bx rdN rowN Take Takes Prov Triple ResF BuildP Done ag Int.decLt Int.decLe Int.instDecidableEq

theorem seg_lay_out {l y : List UInt8} {k i n : Nat} (h : k + y.length ≤ l.length) (ho : i + n ≤ k ∨ k + y.length ≤ i) : seg (lay l k y) i n = seg l i n := by
  apply List.ext_getElem?
  intro t
  unfold seg
  rw [List.getElem?_take, List.getElem?_take, List.getElem?_drop, List.getElem?_drop]
  by_cases ht : t < n
  · rw [if_pos ht, if_pos ht, lay_get h, if_pos (by omega)]
  · rw [if_neg ht, if_neg ht]
theorem seg_lay_at {l y : List UInt8} {k : Nat} (h : k + y.length ≤ l.length) : seg (lay l k y) k y.length = y := by
  apply List.ext_getElem?
  intro t
  unfold seg
  rw [List.getElem?_take, List.getElem?_drop]
  by_cases ht : t < y.length
  · rw [if_pos ht, lay_get h, if_neg (by omega)]; congr 1; omega
  · rw [if_neg ht, List.getElem?_eq_none (by omega)]
theorem seg_lay_in {l y : List UInt8} {k m : Nat} (h : k + y.length ≤ m) (hm : m ≤ l.length) : seg (lay l k y) 0 m = lay (seg l 0 m) k y := by
  have hl : (seg l 0 m).length = m := seg_length (by omega)
  apply List.ext_getElem?
  intro t
  rw [lay_get (by omega)]
  unfold seg
  rw [List.getElem?_take, List.getElem?_drop, List.getElem?_take, List.getElem?_drop]
  by_cases ht : t < m
  · rw [if_pos ht, if_pos ht, lay_get (by omega), Nat.zero_add]
  · rw [if_neg ht, if_neg ht, if_pos (by omega)]
theorem getD_lay {l y : List UInt8} {k i : Nat} (h : k + y.length ≤ l.length) (ho : i < k ∨ k + y.length ≤ i) : (lay l k y).getD i 0 = l.getD i 0 := by
  rw [List.getD_eq_getElem?_getD, List.getD_eq_getElem?_getD, lay_get h, if_pos ho]
theorem byteN_lay {l y : List UInt8} {k i : Nat} (h : k + y.length ≤ l.length) (ho : i < k ∨ k + y.length ≤ i) : byteN (lay l k y) i = byteN l i := by
  unfold byteN; rw [getD_lay h ho]
/-- What is laid behind the head leaves it. -/
theorem ferr_lay_behind {b y : List UInt8} {k : Nat} (h : k + y.length ≤ b.length) (hk : ihl b ≤ k) (h20 : 20 ≤ k) : ferr (lay b k y) = ferr b ∧ fread (lay b k y) = fread b := by
  have e0 : byteN (lay b k y) 0 = byteN b 0 := byteN_lay h (by omega)
  have ei : ihl (lay b k y) = ihl b := by unfold ihl; rw [e0]
  have e1 : ferr (lay b k y) = ferr b := by
    unfold ferr
    rw [ei, e0, lay_length h, seg_lay_out h (by omega), seg_lay_out h (by omega), byteN_lay h (by omega), byteN_lay h (by omega)]
  refine ⟨e1, ?_⟩
  unfold fread
  rw [e1]
  unfold fhead
  rw [ei, getD_lay h (by omega), getD_lay h (by omega), seg_lay_out h (by omega), seg_lay_out h (by omega), seg_lay_out h (by omega)]
theorem seg_twoB {b : List UInt8} {j : Nat} (h : j + 2 ≤ b.length) : seg b j 2 = twoB (val (seg b j 2)) := by
  have h1 := val_seg2 h
  have h2 := byteN_lt b j
  have h3 := byteN_lt b (j + 1)
  have e : seg b j 2 = [b.getD j 0, b.getD (j + 1) 0] := by
    apply List.ext_getElem?
    intro t
    unfold seg
    rw [List.getElem?_take, List.getElem?_drop]
    match t with
    | 0 => simp [List.getD_eq_getElem?_getD, List.getElem?_eq_getElem (show j < b.length by omega)]
    | 1 => simp [List.getD_eq_getElem?_getD, List.getElem?_eq_getElem (show j + 1 < b.length by omega)]
    | t + 2 => rw [if_neg (by omega)]; simp
  rw [h1, e]
  unfold twoB byteN
  unfold byteN at h2 h3
  have a1 : (256 * (b.getD j 0).toNat + (b.getD (j + 1) 0).toNat) / 256 = (b.getD j 0).toNat := by omega
  have a2 : (256 * (b.getD j 0).toNat + (b.getD (j + 1) 0).toNat) % 256 = (b.getD (j + 1) 0).toNat := by omega
  rw [a1, a2, UInt8.ofNat_toNat, UInt8.ofNat_toNat]
theorem wsum_pos {l : List UInt8} (h : l.getD 0 0 ≠ 0) : wsum true l ≠ 0 := by
  cases l with
  | nil => exact absurd rfl h
  | cons a l =>
    have : a.toNat ≠ 0 := fun h0 => h (UInt8.toNat_inj.mp (by simpa using h0))
    simp only [wsum]; omega

/-- A head of four with another address and its sum changed: it is read, and is it but for that address. -/
theorem fread_addr {b y : List UInt8} {k n : Nat} (he : ferr b = 0) (hk : k = 12 ∨ k = 16) (hy : y.length = 4) (hn : n ≤ 65535)
    (hm : n % 65535 = chg (val (seg b 10 2)) (seg b k y.length) y % 65535) :
    ferr (lay (lay b k y) 10 (twoB n)) = 0 ∧
    fread (lay (lay b k y) 10 (twoB n)) = if k = 12 then { fread b with src := ofA y } else { fread b with dst := ofA y } := by
  obtain ⟨q1, q2, q3, q4, q5, q6, q7, q8, q9⟩ := ferr_zero he
  have q0 := ihl_lt b
  have t2 : (twoB n).length = 2 := rfl
  have L1 : k + y.length ≤ b.length := by omega
  have L2 : 10 + (twoB n).length ≤ (lay b k y).length := by rw [lay_length L1, t2]; omega
  have E : ∀ i, (i < 10 ∨ 12 ≤ i) → (i < k ∨ k + 4 ≤ i) → (lay (lay b k y) 10 (twoB n)).getD i 0 = b.getD i 0 := fun i h1 h2 => by
    rw [getD_lay L2 (by omega), getD_lay L1 (by omega)]
  have N : ∀ i, (i < 10 ∨ 12 ≤ i) → (i < k ∨ k + 4 ≤ i) → byteN (lay (lay b k y) 10 (twoB n)) i = byteN b i := fun i h1 h2 => by unfold byteN; rw [E i h1 h2]
  have G : ∀ i m, (i + m ≤ 10 ∨ 12 ≤ i) → (i + m ≤ k ∨ k + 4 ≤ i) → seg (lay (lay b k y) 10 (twoB n)) i m = seg b i m := fun i m h1 h2 => by
    rw [seg_lay_out L2 (by omega), seg_lay_out L1 (by omega)]
  have A : seg (lay (lay b k y) 10 (twoB n)) k 4 = y := by
    rw [seg_lay_out L2 (by omega)]
    have := seg_lay_at L1
    rwa [hy] at this
  have ei : ihl (lay (lay b k y) 10 (twoB n)) = ihl b := by unfold ihl; rw [N 0 (by omega) (by omega)]
  have el : (lay (lay b k y) 10 (twoB n)).length = b.length := by rw [lay_length L2, lay_length L1]
  have C : csum (seg (lay (lay b k y) 10 (twoB n)) 0 (ihl b)) = 0 := by
    have H1 : k + y.length ≤ (seg b 0 (ihl b)).length := by rw [seg_length (by omega)]; omega
    rw [seg_lay_in (by omega) (by rw [lay_length L1]; omega), seg_lay_in (by omega) (by omega)]
    rw [csum_zero] at q7 ⊢
    have s1 : ∀ i m, i + m ≤ ihl b → seg (seg b 0 (ihl b)) i m = seg b i m := fun i m hi => by
      apply List.ext_getElem?
      intro t
      unfold seg
      rw [List.getElem?_take, List.getElem?_take, List.getElem?_drop, List.getElem?_drop, List.getElem?_take, List.getElem?_drop]
      by_cases ht : t < m
      · rw [if_pos ht, if_pos ht, if_pos (by omega), Nat.zero_add]
      · rw [if_neg ht, if_neg ht]
    have v2 : val (seg b 10 2) ≤ 65535 := by
      have := val_seg2 (b := b) (i := 10) (by omega)
      have := byteN_lt b 10; have := byteN_lt b (10 + 1)
      omega
    refine ⟨?_, ?_⟩
    · rw [lay_good (s := val (seg b 10 2)) (by omega) (by decide) (by omega) H1 (by rw [seg_length (by omega)]; omega) (by omega)
        (by rw [s1 _ _ (by omega)]; exact seg_twoB (by omega)) v2 hn (by rw [s1 _ _ (by omega)]; exact hm)]
      exact q7.1
    · apply wsum_pos
      rw [getD_lay (by rw [lay_length H1, seg_length (by omega), t2]; omega) (by omega), getD_lay H1 (by omega)]
      have : (seg b 0 (ihl b)).getD 0 0 = b.getD 0 0 := by
        rw [List.getD_eq_getElem?_getD, List.getD_eq_getElem?_getD]; unfold seg; rw [List.getElem?_take, List.getElem?_drop, if_pos (by omega)]
      rw [this]
      intro h0
      unfold byteN at q3
      rw [h0] at q3
      simp at q3
  have R : ferr (lay (lay b k y) 10 (twoB n)) = 0 := by
    unfold ferr
    rw [ei, el, N 0 (by omega) (by omega), N 8 (by omega) (by omega), N 6 (by omega) (by omega), G 2 2 (by omega) (by omega), C]
    rw [if_neg (by omega), if_neg (by omega), if_neg (by omega), if_neg (by omega), if_neg (by omega), if_neg (by omega), if_neg (by omega), if_neg (by omega), if_neg (by omega), if_neg (by omega)]
  refine ⟨R, ?_⟩
  unfold fread
  rw [if_pos R, if_pos he]
  unfold fhead
  rw [ei, E 9 (by omega) (by omega), E 8 (by omega) (by omega), G 6 2 (by omega) (by omega)]
  rcases hk with rfl | rfl
  · rw [if_pos rfl, A, G 16 4 (by omega) (by omega)]
  · rw [if_neg (by decide), A, G 12 4 (by omega) (by omega)]

end Go.Proofs.Ytjfhiifpnpokpaa
/- Reference of layer 13 (ipfour): a packet is written: contracts. -/
namespace Go.Proofs.Ytjfhiifpnpokpaa
open Go.RowKit
set_option linter.unusedSimpArgs false
set_option linter.unusedVariables false
set_option maxRecDepth 20000
set_option maxHeartbeats 4000000
attribute [local irreducible] WPc WPl WPq ReadR OpT BinR HasS bx rdN rowN Take Takes Prov Triple ResF BuildP Done ag Int.decLt Int.decLe Int.instDecidableEq
theorem ReadR.convT {P : Program} {n : Nat} {Γ : List Asn} {F : List (Nat × Value)} {d : Option Tmp} {ty : TypeId} {pos : String} {af : Array Edge} {gd : Option (Nat × Bool)} {T1 T2 : TypeId} {k1 k2 : IntKind} {x : Operand} {a c : Int} [h2 : IntI P T2 k2] (hc : k2.wrap a = c) (h1 : (P.underlying T1).isSome = true) (hx : evF F x = some (.int k1 a)) : ReadR P n Γ F ⟨d, .convert T1 T2 x, ty, pos, af, gd⟩ (.int k2 c) := hc ▸ ReadR.convW h1 hx
attribute [local irreducible] be
theorem rfour_t (a : Adr) (h : a.six = false) (hg : a.good = true) : Triple Try.prog 52 #[ag (adc a)] [] (RVal (.bool true)) := by
  have g1 := rgood_t a
  have l1 := a.len
  rw [hg] at g1
  refine Triple.enter Try.func52 rfl Try.ntmps52 rfl (fun W => ?_)
  dsimp only [argsF, Nat.reduceAdd]
  repeat' (first
   | refine WPl.nil ?_ | refine WPq.then ?_ | refine WPq.thenR ?_ | refine WPq.thenE ?_ | refine WPq.blockN ?_ | refine WPq.blockR ?_ | refine WPq.blockE ?_ | refine WPq.blockO rfl ?_ | refine WPc.seq ?_ | refine WPc.block ?_ | refine WPc.ret ?_ | refine WPc.exit ?_ | refine WPc.skip ?_ | refine WPc.region ?_
   | (refine isCond ?_; first | refine WPc.cT ?_ | refine WPc.cF ?_ | (refine WPc.cQ (fun hc => ?_) (fun hc => ?_) <;> try exact prA))
   | (refine isC 8 ?_; refine WPl.cV (g1) ?_)
   | (refine isOp ?_; first | refine WPl.rd ?_ | refine WPl.sk ?_ | refine WPl.rdB ?_)
   | (refine isBx ?_; refine WPl.nw fun g => ?_)
   | (show WPl _ _ _ _ _ _ _ (⟨_, .indexAddr _ _ _, _, _, _, _⟩ :: _) _; refine WPl.rdX (ReadR.indexE rfl rfl hasA (by first | assumption | omega)) ?_)
   | (show WPl _ _ _ _ _ _ _ (⟨_, .fieldAddr _ _ _, _, _, _, _⟩ :: _) _; refine WPl.rdX (ReadR.fieldE rfl hasA (by first | assumption | omega)) ?_)
   | (show WPl _ _ _ _ _ _ _ (⟨_, .load _ _, _, _, _, _⟩ :: _) _; first | refine WPl.rdX (ReadR.loadE rfl hasA (by assumption)) ?_ | refine WPl.rdX (ReadR.loadES (by assumption) (by first | assumption | omega) rfl hasA) ?_)
   | (show WPl _ _ _ _ _ _ _ (⟨_, .slice _ _ _ _ _, _, _, _, _⟩ :: _) _; first | refine WPl.rdX (ReadR.sliceH rfl rfl hasA (by omega)) ?_ | refine WPl.rdX (ReadR.sliceL rfl rfl hasA (by omega)) ?_ | refine WPl.rdX (ReadR.sliceLH rfl rfl rfl hasA (by omega) (by omega)) ?_)
   | (refine WPl.spQ (fun hc => ?_) (fun hc => ?_) <;> try exact prA)
   | fail)
  all_goals try (first | exact WPq.dTp | exact WPq.dTs | exact WPq.dV | exact WPq.dR | exact WPq.dR2 | exact WPq.dH | exact WPq.dBH | exact WPq.dT)
theorem over_cons (x : UInt8) (l n : List UInt8) (k : Nat) : over (x :: l) (k + 1) n = x :: over l k n := by
  unfold over
  rw [List.take_succ_cons, List.cons_append, show k + 1 + n.length = (k + n.length) + 1 by omega, List.drop_succ_cons]
theorem over2 (a b : UInt8) : ∀ (l : List UInt8) (k : Nat), k + 2 ≤ l.length → over l k [a, b] = (l.set k a).set (k + 1) b
  | x :: y :: l, 0, _ => by simp [over]
  | x :: l, k + 1, h => by
    rw [over_cons, over2 a b l k (by simpa using h)]
    rfl
  | [], 0, h => by simp at h
  | [x], 0, h => by simp at h
theorem over_set2 {l : List UInt8} {k n : Nat} (hk : k + 2 ≤ l.length) : (l.set k (UInt8.ofNat (n / 256))).set (k + 1) (UInt8.ofNat n) = over l k (be n 2) := by rw [be2, over2 _ _ l k hk]
theorem wrap_hi {n : Nat} (h : n ≤ 65535) : IntKind.u8.wrap ((n : Int) / 256) = (((UInt8.ofNat (n / 256)).toNat : Nat) : Int) := by rw [IntKind.wrap_u8, u8_of]; omega
theorem wrap_lo {n : Nat} (h : n ≤ 65535) : IntKind.u8.wrap ((n : Int) % 256) = (((UInt8.ofNat n).toNat : Nat) : Int) := by rw [IntKind.wrap_u8, u8_of]; omega
theorem rfwrite_t (h : Hd) (vd : Value) (d : List UInt8) (hd : d.length ≤ 1000) (hb : fwBad h = false) : Triple Try.prog 39 #[ag (hdc h), vd] [rb vd d] (RW (fpkt h d) 0) := by
  have l1 := h.src.len
  have l2 := h.dst.len
  obtain ⟨b1, b2, b3, b4, b5, b6, b7⟩ := fwBad_no hb
  have g1 := rfour_t h.src b4 b6
  have g2 := rfour_t h.dst b5 b7
  have a1 := h.src.bytes_le
  have a2 := h.dst.bytes_le
  have hb2 := be_length (20 + d.length) 2
  have hpl := fpre_len (h := h) (n := d.length) b4 b5
  have hpe : nbs [69, 0] ++ be (20 + d.length) 2 ++ nbs [0, 0, 0, 0, (h.hops.toNat : Nat), (h.proto.toNat : Nat), 0, 0] ++ h.src.bytes ++ h.dst.bytes = fpre h d.length := by unfold fpre; simp
  have hcl := csum_le (fpre h d.length)
  have c1 := fun v => rsum_t v (fpre h d.length) (by omega)
  have hres : (((fpre h d.length).set 10 (UInt8.ofNat (csum (fpre h d.length) / 256))).set 11 (UInt8.ofNat (csum (fpre h d.length)))) ++ d = fpkt h d := by rw [over_set2 (by omega)]; unfold fpkt; simp
  have hsl : ((fpre h d.length).set 10 (UInt8.ofNat (csum (fpre h d.length) / 256))).length = 20 := by rw [List.length_set]; exact hpl
  rw [← hres]
  obtain ⟨s, hs⟩ : ∃ s, s = csum (fpre h d.length) := ⟨_, rfl⟩
  rw [← hs] at c1 hcl hsl ⊢
  rw [← hpe] at c1 hpl hsl ⊢
  have hw1 := wrap_hi hcl
  have hw2 := wrap_lo hcl
  clear hs hpe hres
  refine Triple.enter Try.func39 rfl Try.ntmps39 rfl (fun W => ?_)
  dsimp only [argsF, Nat.reduceAdd]
  repeat' (first
   | refine WPl.nil ?_ | refine WPq.then ?_ | refine WPq.thenR ?_ | refine WPq.thenE ?_ | refine WPq.blockN ?_ | refine WPq.blockR ?_ | refine WPq.blockE ?_ | refine WPq.blockO rfl ?_ | refine WPc.seq ?_ | refine WPc.block ?_ | refine WPc.ret ?_ | refine WPc.exit ?_ | refine WPc.skip ?_ | refine WPc.region ?_
   | (refine isReg 7 ?_; refine WPc.drA [([10], [50, 51, 52, 54, 55]), ([10], [49, 54, 55]), ([1, 10], [49, 50, 54, 55]), ([1, 2, 10], [49, 50, 51, 54, 55]), ([0, 1, 2, 3, 10], [49, 50, 51, 52, 54, 55]), ([10], [49, 50, 51, 52, 53]), ([5, 10], [49, 50, 51, 52, 53, 54]), ([0, 1, 2, 3, 4, 5, 6, 10], [49, 50, 51, 52, 53, 54, 55]), ([0, 1, 2, 3, 4, 5, 6, 7, 10], [49, 50, 51, 52, 53, 54, 55, 56]), ([0, 1, 2, 3, 4, 5, 6, 7, 8, 10], [49, 50, 51, 52, 53, 54, 55, 56, 57])] [(10, 4), (4, 8), (10, 0), (10, 1), (10, 2), (10, 3), (4, 7)] (Γx := [ob w (nbs [69, 0] ++ be (20 + d.length) 2 ++ nbs [0, 0, 0, 0, (h.hops.toNat : Nat), (h.proto.toNat : Nat), 0, 0])]) ?_; dsimp only [prev0, List.length_nil, List.length_cons])
   | (refine gAny ?_; first | (refine gC 13 ?_; refine RGl.vl (fun e hk => OpT.callN (g1)) ?_) | (refine gC 19 ?_; refine RGl.vl (fun e hk => OpT.callN (g2)) ?_) | (refine gC 41 ?_; refine RGl.row (Γ1 := fun _ => []) (fun e hk => OpT.callN (rput_t _ (nbs [69, 0]) (20 + d.length) 2 (by omega) (by omega) (by simp [nbs]))) ?_) | (refine gC 52 ?_; refine RGl.row (Γ1 := fun _ => []) (fun e hk => OpT.callN (rbytes_t h.src)) ?_) | (refine gC 56 ?_; refine RGl.row (Γ1 := fun _ => []) (fun e hk => OpT.callN (rbytes_t h.dst)) ?_) | (refine gC 59 ?_; refine RGl.vl (fun e hk => OpT.callN (c1 _)) ?_) | (refine gD 64 ?_; refine RGl.rdX (fun e hk => by (try dsimp only [bndR, ensR, oksR, fcutR, List.append_nil, List.nil_append, List.cons_append, List.append_assoc] at hk ⊢); exact ReadR.convT hw1 rfl rfl) ?_) | (refine gD 67 ?_; refine RGl.rdX (fun e hk => by (try dsimp only [bndR, ensR, oksR, fcutR, List.append_nil, List.nil_append, List.cons_append, List.append_assoc] at hk ⊢); exact ReadR.convT hw2 rfl rfl) ?_) | (refine gOp ?_; first | refine RGl.rdA ?_ | refine RGl.rdX (fun e hk => by (try dsimp only [bndR, ensR, oksR, fcutR, List.append_nil, List.nil_append, List.cons_append, List.append_assoc] at hk ⊢); exact readB) ?_) | (refine gApp ?_; refine RGl.appA ?_) | (refine RGl.fin (fun e hk => ?_); (try dsimp only [bndA, ensAR, oksA, List.append_nil, List.nil_append, List.cons_append, List.append_assoc] at hk ⊢); (repeat (obtain ⟨hk1, hk⟩ := hk))) | fail)
   | (refine isCond ?_; first | refine WPc.cT ?_ | refine WPc.cF ?_ | (refine WPc.cQ (fun hc => ?_) (fun hc => ?_) <;> try exact prA))
   | (refine isLit ?_; refine WPl.lit fun v hv => ?_)
   | (refine isD 72 ?_; refine WPl.app (h63 := by rw [List.length_set, List.length_set]; omega) fun v hv => ?_)
   | (refine isApp ?_; refine WPl.app fun w hw => ?_)
   | (refine isC 13 ?_; refine WPl.cV (g1) ?_)
   | (refine isC 19 ?_; refine WPl.cV (g2) ?_)
   | (refine isC 41 ?_; refine WPl.cR (rput_t _ (nbs [69, 0]) (20 + d.length) 2 (by omega) (by omega) (by simp [nbs])) fun v hv => ?_)
   | (refine isC 52 ?_; refine WPl.cR (rbytes_t h.src) fun v hv => ?_)
   | (refine isC 56 ?_; refine WPl.cR (rbytes_t h.dst) fun v hv => ?_)
   | (refine isC 59 ?_; refine WPl.cV (c1 _) ?_)
   | (refine isD 64 ?_; refine WPl.rdX (ReadR.convT hw1 rfl rfl) ?_)
   | (refine isD 67 ?_; refine WPl.rdX (ReadR.convT hw2 rfl rfl) ?_)
   | (refine isOp ?_; first | refine WPl.rd ?_ | refine WPl.sk ?_ | refine WPl.rdB ?_)
   | (refine isBx ?_; refine WPl.nw fun g => ?_)
   | (refine isSt ?_; first | refine WPl.st1 ?_ | refine WPl.stA ?_ | refine WPl.stEB ?_ | refine WPl.stRB ?_)
   | (show WPl _ _ _ _ _ _ _ (⟨_, .indexAddr _ _ _, _, _, _, _⟩ :: _) _; refine WPl.rdX (ReadR.indexE rfl rfl hasA (by first | assumption | omega)) ?_)
   | (show WPl _ _ _ _ _ _ _ (⟨_, .fieldAddr _ _ _, _, _, _, _⟩ :: _) _; refine WPl.rdX (ReadR.fieldE rfl hasA (by first | assumption | omega)) ?_)
   | (show WPl _ _ _ _ _ _ _ (⟨_, .load _ _, _, _, _, _⟩ :: _) _; first | refine WPl.rdX (ReadR.loadE rfl hasA (by assumption)) ?_ | refine WPl.rdX (ReadR.loadES (by assumption) (by first | assumption | omega) rfl hasA) ?_)
   | (show WPl _ _ _ _ _ _ _ (⟨_, .slice _ _ _ _ _, _, _, _, _⟩ :: _) _; first | refine WPl.rdX (ReadR.sliceH rfl rfl hasA (by omega)) ?_ | refine WPl.rdX (ReadR.sliceL rfl rfl hasA (by omega)) ?_ | refine WPl.rdX (ReadR.sliceLH rfl rfl rfl hasA (by omega) (by omega)) ?_)
   | (refine WPl.spQ (fun hc => ?_) (fun hc => ?_) <;> try exact prA)
   | fail)
  all_goals try (first | exact WPq.dTp | exact WPq.dTs | exact WPq.dV | exact WPq.dR | exact WPq.dR2 | exact WPq.dH | exact WPq.dBH | exact WPq.dT)
end Go.Proofs.Ytjfhiifpnpokpaa
/- Layer 15 (seg): what is summed, and reading: contracts. -/
namespace Go.Proofs.Ytjfhiifpnpokpaa
open Go.RowKit
set_option linter.unusedSimpArgs false
set_option linter.unusedVariables false
set_option maxRecDepth 20000
set_option maxHeartbeats 4000000
attribute [local irreducible] WPc WPl WPq ReadR OpT BinR HasS bx rdN rowN Take Takes Prov Triple ResF BuildP Done ag Int.decLt Int.decLe Int.instDecidableEq

/-- What a segment is summed with. -/
def psu (h : Hd) (n : Nat) : List UInt8 :=
  if h.six then [h.src.bytes, h.dst.bytes].flatten ++ be n 4 ++ nbs [0, 0, 0, (h.proto.toNat : Nat)] else [h.src.bytes, h.dst.bytes].flatten ++ nbs [0, (h.proto.toNat : Nat)] ++ be n 2
theorem psu_len (h : Hd) (n : Nat) : (psu h n).length ≤ 40 := by
  have a1 := h.src.bytes_le
  have a2 := h.dst.bytes_le
  unfold psu
  split <;> simp [be_length, nbs] <;> omega
attribute [local irreducible] be
theorem pseudo_t (h : Hd) (k : Int) (n : Nat) (hkw : IntKind.u64.wrap k = (n : Int)) (hn : n < 18446744073709551616) : Triple Try.prog 72 #[ag (hdc h), .int .i64 k] [] (ROb (psu h n)) := by
  have l1 := h.src.len
  have l2 := h.dst.len
  have a1 := h.src.bytes_le
  have a2 := h.dst.bytes_le
  have hb4 := be_length n 4
  have hb2 := be_length n 2
  obtain ⟨p, hp⟩ : ∃ p, p = [h.src.bytes, h.dst.bytes].flatten := ⟨_, rfl⟩
  have hpl : p.length ≤ 32 := by rw [hp]; simp; omega
  cases hs : h.six with
  | true =>
    rw [show psu h n = p ++ be n 4 ++ nbs [0, 0, 0, (h.proto.toNat : Nat)] by unfold psu; rw [if_pos hs, hp]]
    refine Triple.enter Try.func72 rfl Try.ntmps72 rfl (fun W => ?_)
    dsimp only [argsF, Nat.reduceAdd]
    repeat' (first
     | refine WPl.nil ?_ | refine WPq.then ?_ | refine WPq.thenR ?_ | refine WPq.thenE ?_ | refine WPq.blockN ?_ | refine WPq.blockR ?_ | refine WPq.blockE ?_ | refine WPq.blockO rfl ?_ | refine WPc.seq ?_ | refine WPc.block ?_ | refine WPc.ret ?_ | refine WPc.exit ?_ | refine WPc.skip ?_ | refine WPc.region ?_
     | (refine isReg 1 ?_; refine WPc.drA [([], [9, 10]), ([0], [6, 9, 10]), ([0, 1], [6, 7, 9, 10]), ([], [6, 7, 8]), ([3], [6, 7, 8, 9]), ([0, 1, 2, 3, 4], [6, 7, 8, 9, 10]), ([0, 1, 2, 3, 4, 5], [6, 7, 8, 9, 10, 11]), ([0, 1, 2, 3, 4, 5, 6], [6, 7, 8, 9, 10, 11, 12]), ([0, 1, 2, 3, 4, 5, 6, 7], [6, 7, 8, 9, 10, 11, 12, 13])] [] (Γx := []) ?_; dsimp only [prev0, List.length_nil, List.length_cons])
     | (refine isReg 3 ?_; refine WPc.drA [([], [17, 18, 20, 21, 22]), ([], [16, 20, 21, 22]), ([1], [16, 17, 20, 21, 22]), ([0, 1, 2], [16, 17, 18, 20, 21, 22]), ([], [16, 17, 18, 19]), ([4], [16, 17, 18, 19, 20]), ([4, 5], [16, 17, 18, 19, 20, 21]), ([0, 1, 2, 3, 4, 5, 6], [16, 17, 18, 19, 20, 21, 22]), ([0, 1, 2, 3, 4, 5, 6, 7], [16, 17, 18, 19, 20, 21, 22, 23])] [(3, 7)] (Γx := []) ?_; dsimp only [prev0, List.length_nil, List.length_cons])
     | (refine gAny ?_; first | (refine gC 8 ?_; refine RGl.row (Γ1 := fun _ => []) (fun e hk => OpT.callN (addrBytes_t h.src)) ?_) | (refine gC 11 ?_; refine RGl.row (Γ1 := fun _ => []) (fun e hk => OpT.callN (addrBytes_t h.dst)) ?_) | (refine gC 13 ?_; refine RGl.row (Γ1 := fun _ => []) (fun e hk => OpT.callN (bytesE_t _ [_, _] [h.src.bytes, h.dst.bytes] p hp.symm rfl (by simp; omega) (by simp))) ?_) | (refine gC 19 ?_; refine RGl.row (Γ1 := fun _ => []) (fun e hk => OpT.callN (put_t _ p n 4 (by omega) (by omega) (by omega) (by omega))) ?_) | (refine gD 18 ?_; refine RGl.rdX (fun e hk => by (try dsimp only [bndR, ensR, oksR, fcutR, List.append_nil, List.nil_append, List.cons_append, List.append_assoc] at hk ⊢); exact ReadR.convT hkw rfl rfl) ?_) | (refine gOp ?_; first | refine RGl.rdA ?_ | refine RGl.rdX (fun e hk => by (try dsimp only [bndR, ensR, oksR, fcutR, List.append_nil, List.nil_append, List.cons_append, List.append_assoc] at hk ⊢); exact readB) ?_) | (refine gLit ?_; refine RGl.litA ?_) | (refine gApp ?_; refine RGl.appA ?_) | (refine RGl.fin (fun e hk => ?_); (try dsimp only [bndA, ensAR, oksA, List.append_nil, List.nil_append, List.cons_append, List.append_assoc] at hk ⊢); (repeat (obtain ⟨hk1, hk⟩ := hk))) | fail)
     | (refine isCond ?_; first | refine WPc.cT ?_ | refine WPc.cF ?_ | (refine WPc.cQ (fun hc => ?_) (fun hc => ?_) <;> try exact prA))
     | (refine isLit ?_; refine WPl.lit fun v hv => ?_)
     | (refine isLit ?_; refine WPl.lits fun v hv => ?_)
     | (refine isApp ?_; refine WPl.app fun v hv => ?_)
     | (refine isC 8 ?_; refine WPl.cR (addrBytes_t h.src) fun v hv => ?_)
     | (refine isC 11 ?_; refine WPl.cR (addrBytes_t h.dst) fun v hv => ?_)
     | (refine isC 13 ?_; refine WPl.cR (bytesE_t _ [_, _] [h.src.bytes, h.dst.bytes] p hp.symm rfl (by simp; omega) (by simp)) fun v hv => ?_)
     | (refine isD 18 ?_; refine WPl.rdX (ReadR.convT hkw rfl rfl) ?_)
     | (refine isC 19 ?_; refine WPl.cR (put_t _ p n 4 (by omega) (by omega) (by omega) (by omega)) fun v hv => ?_)
     | (refine isOp ?_; first | refine WPl.rd ?_ | refine WPl.sk ?_ | refine WPl.rdB ?_)
     | (refine isBx ?_; refine WPl.nw fun g => ?_)
     | (show WPl _ _ _ _ _ _ _ (⟨_, .indexAddr _ _ _, _, _, _, _⟩ :: _) _; refine WPl.rdX (ReadR.indexE rfl rfl hasA (by first | assumption | omega)) ?_)
     | (show WPl _ _ _ _ _ _ _ (⟨_, .fieldAddr _ _ _, _, _, _, _⟩ :: _) _; refine WPl.rdX (ReadR.fieldE rfl hasA (by first | assumption | omega)) ?_)
     | (show WPl _ _ _ _ _ _ _ (⟨_, .load _ _, _, _, _, _⟩ :: _) _; first | refine WPl.rdX (ReadR.loadE rfl hasA (by assumption)) ?_ | refine WPl.rdX (ReadR.loadES (by assumption) (by first | assumption | omega) rfl hasA) ?_)
     | (show WPl _ _ _ _ _ _ _ (⟨_, .slice _ _ _ _ _, _, _, _, _⟩ :: _) _; first | refine WPl.rdX (ReadR.sliceH rfl rfl hasA (by omega)) ?_ | refine WPl.rdX (ReadR.sliceL rfl rfl hasA (by omega)) ?_ | refine WPl.rdX (ReadR.sliceLH rfl rfl rfl hasA (by omega) (by omega)) ?_)
     | (refine WPl.spQ (fun hc => ?_) (fun hc => ?_) <;> try exact prA)
     | fail)
    all_goals try (first | exact WPq.dTp | exact WPq.dTs | exact WPq.dV | exact WPq.dR | exact WPq.dR2 | exact WPq.dH | exact WPq.dBH | exact WPq.dT)
  | false =>
    rw [show psu h n = p ++ nbs [0, (h.proto.toNat : Nat)] ++ be n 2 by unfold psu; rw [if_neg (by rw [hs]; decide), hp]]
    refine Triple.enter Try.func72 rfl Try.ntmps72 rfl (fun W => ?_)
    dsimp only [argsF, Nat.reduceAdd]
    repeat' (first
     | refine WPl.nil ?_ | refine WPq.then ?_ | refine WPq.thenR ?_ | refine WPq.thenE ?_ | refine WPq.blockN ?_ | refine WPq.blockR ?_ | refine WPq.blockE ?_ | refine WPq.blockO rfl ?_ | refine WPc.seq ?_ | refine WPc.block ?_ | refine WPc.ret ?_ | refine WPc.exit ?_ | refine WPc.skip ?_ | refine WPc.region ?_
     | (refine isReg 1 ?_; refine WPc.drA [([], [9, 10]), ([0], [6, 9, 10]), ([0, 1], [6, 7, 9, 10]), ([], [6, 7, 8]), ([3], [6, 7, 8, 9]), ([0, 1, 2, 3, 4], [6, 7, 8, 9, 10]), ([0, 1, 2, 3, 4, 5], [6, 7, 8, 9, 10, 11]), ([0, 1, 2, 3, 4, 5, 6], [6, 7, 8, 9, 10, 11, 12]), ([0, 1, 2, 3, 4, 5, 6, 7], [6, 7, 8, 9, 10, 11, 12, 13])] [] (Γx := []) ?_; dsimp only [prev0, List.length_nil, List.length_cons])
     | (refine isReg 3 ?_; refine WPc.drA [([], [17, 18, 20, 21, 22]), ([], [16, 20, 21, 22]), ([1], [16, 17, 20, 21, 22]), ([0, 1, 2], [16, 17, 18, 20, 21, 22]), ([], [16, 17, 18, 19]), ([4], [16, 17, 18, 19, 20]), ([4, 5], [16, 17, 18, 19, 20, 21]), ([0, 1, 2, 3, 4, 5, 6], [16, 17, 18, 19, 20, 21, 22]), ([0, 1, 2, 3, 4, 5, 6, 7], [16, 17, 18, 19, 20, 21, 22, 23])] [(3, 7)] (Γx := []) ?_; dsimp only [prev0, List.length_nil, List.length_cons])
     | (refine gAny ?_; first | (refine gC 8 ?_; refine RGl.row (Γ1 := fun _ => []) (fun e hk => OpT.callN (addrBytes_t h.src)) ?_) | (refine gC 11 ?_; refine RGl.row (Γ1 := fun _ => []) (fun e hk => OpT.callN (addrBytes_t h.dst)) ?_) | (refine gC 13 ?_; refine RGl.row (Γ1 := fun _ => []) (fun e hk => OpT.callN (bytesE_t _ [_, _] [h.src.bytes, h.dst.bytes] p hp.symm rfl (by simp; omega) (by simp))) ?_) | (refine gC 31 ?_; refine RGl.row (Γ1 := fun _ => []) (fun e hk => OpT.callN (put_t _ (p ++ nbs [0, (h.proto.toNat : Nat)]) n 2 (by simp [nbs]; omega) (by omega) (by omega) (by omega))) ?_) | (refine gD 30 ?_; refine RGl.rdX (fun e hk => by (try dsimp only [bndR, ensR, oksR, fcutR, List.append_nil, List.nil_append, List.cons_append, List.append_assoc] at hk ⊢); exact ReadR.convT hkw rfl rfl) ?_) | (refine gOp ?_; first | refine RGl.rdA ?_ | refine RGl.rdX (fun e hk => by (try dsimp only [bndR, ensR, oksR, fcutR, List.append_nil, List.nil_append, List.cons_append, List.append_assoc] at hk ⊢); exact readB) ?_) | (refine gLit ?_; refine RGl.litA ?_) | (refine gApp ?_; refine RGl.appA ?_) | (refine RGl.fin (fun e hk => ?_); (try dsimp only [bndA, ensAR, oksA, List.append_nil, List.nil_append, List.cons_append, List.append_assoc] at hk ⊢); (repeat (obtain ⟨hk1, hk⟩ := hk))) | fail)
     | (refine isCond ?_; first | refine WPc.cT ?_ | refine WPc.cF ?_ | (refine WPc.cQ (fun hc => ?_) (fun hc => ?_) <;> try exact prA))
     | (refine isLit ?_; refine WPl.lit fun v hv => ?_)
     | (refine isLit ?_; refine WPl.lits fun v hv => ?_)
     | (refine isApp ?_; refine WPl.app fun v hv => ?_)
     | (refine isC 8 ?_; refine WPl.cR (addrBytes_t h.src) fun v hv => ?_)
     | (refine isC 11 ?_; refine WPl.cR (addrBytes_t h.dst) fun v hv => ?_)
     | (refine isC 13 ?_; refine WPl.cR (bytesE_t _ [_, _] [h.src.bytes, h.dst.bytes] p hp.symm rfl (by simp; omega) (by simp)) fun v hv => ?_)
     | (refine isD 30 ?_; refine WPl.rdX (ReadR.convT hkw rfl rfl) ?_)
     | (refine isC 31 ?_; refine WPl.cR (put_t _ (p ++ nbs [0, (h.proto.toNat : Nat)]) n 2 (by simp [nbs]; omega) (by omega) (by omega) (by omega)) fun v hv => ?_)
     | (refine isOp ?_; first | refine WPl.rd ?_ | refine WPl.sk ?_ | refine WPl.rdB ?_)
     | (refine isBx ?_; refine WPl.nw fun g => ?_)
     | (show WPl _ _ _ _ _ _ _ (⟨_, .indexAddr _ _ _, _, _, _, _⟩ :: _) _; refine WPl.rdX (ReadR.indexE rfl rfl hasA (by first | assumption | omega)) ?_)
     | (show WPl _ _ _ _ _ _ _ (⟨_, .fieldAddr _ _ _, _, _, _, _⟩ :: _) _; refine WPl.rdX (ReadR.fieldE rfl hasA (by first | assumption | omega)) ?_)
     | (show WPl _ _ _ _ _ _ _ (⟨_, .load _ _, _, _, _, _⟩ :: _) _; first | refine WPl.rdX (ReadR.loadE rfl hasA (by assumption)) ?_ | refine WPl.rdX (ReadR.loadES (by assumption) (by first | assumption | omega) rfl hasA) ?_)
     | (show WPl _ _ _ _ _ _ _ (⟨_, .slice _ _ _ _ _, _, _, _, _⟩ :: _) _; first | refine WPl.rdX (ReadR.sliceH rfl rfl hasA (by omega)) ?_ | refine WPl.rdX (ReadR.sliceL rfl rfl hasA (by omega)) ?_ | refine WPl.rdX (ReadR.sliceLH rfl rfl rfl hasA (by omega) (by omega)) ?_)
     | (refine WPl.spQ (fun hc => ?_) (fun hc => ?_) <;> try exact prA)
     | fail)
    all_goals try (first | exact WPq.dTp | exact WPq.dTs | exact WPq.dV | exact WPq.dR | exact WPq.dR2 | exact WPq.dH | exact WPq.dBH | exact WPq.dT)
theorem rpseudo_t (h : Hd) (k : Int) (n : Nat) (hkw : IntKind.u64.wrap k = (n : Int)) (hn : n < 18446744073709551616) : Triple Try.prog 17 #[ag (hdc h), .int .i64 k] [] (ROb (psu h n)) := by
  have l1 := h.src.len
  have l2 := h.dst.len
  have a1 := h.src.bytes_le
  have a2 := h.dst.bytes_le
  have hb4 := be_length n 4
  have hb2 := be_length n 2
  have hpe : [h.src.bytes, h.dst.bytes].flatten = h.src.bytes ++ h.dst.bytes := by simp
  cases hs : h.six with
  | true =>
    rw [show psu h n = h.src.bytes ++ h.dst.bytes ++ be n 4 ++ nbs [0, 0, 0, (h.proto.toNat : Nat)] by unfold psu; rw [if_pos hs, hpe]]
    refine Triple.enter Try.func17 rfl Try.ntmps17 rfl (fun W => ?_)
    dsimp only [argsF, Nat.reduceAdd]
    repeat' (first
     | refine WPl.nil ?_ | refine WPq.then ?_ | refine WPq.thenR ?_ | refine WPq.thenE ?_ | refine WPq.blockN ?_ | refine WPq.blockR ?_ | refine WPq.blockE ?_ | refine WPq.blockO rfl ?_ | refine WPc.seq ?_ | refine WPc.block ?_ | refine WPc.ret ?_ | refine WPc.exit ?_ | refine WPc.skip ?_ | refine WPc.region ?_
     | (refine isReg 1 ?_; refine WPc.drA [([], [9, 10]), ([0], [6, 9, 10]), ([0, 1], [6, 7, 9, 10]), ([], [6, 7, 8]), ([3], [6, 7, 8, 9]), ([0, 1, 2, 3, 4], [6, 7, 8, 9, 10]), ([0, 1, 2, 3, 4, 5], [6, 7, 8, 9, 10, 11]), ([0, 1, 2, 3, 4, 5, 6], [6, 7, 8, 9, 10, 11, 12])] [(2, 6), (2, 5)] (Γx := []) ?_; dsimp only [prev0, List.length_nil, List.length_cons])
     | (refine isReg 3 ?_; refine WPc.drA [([], [16, 17, 19, 20, 21]), ([], [15, 19, 20, 21]), ([1], [15, 16, 19, 20, 21]), ([0, 1, 2], [15, 16, 17, 19, 20, 21]), ([], [15, 16, 17, 18]), ([4], [15, 16, 17, 18, 19]), ([4, 5], [15, 16, 17, 18, 19, 20]), ([0, 1, 2, 3, 4, 5, 6], [15, 16, 17, 18, 19, 20, 21]), ([0, 1, 2, 3, 4, 5, 6, 7], [15, 16, 17, 18, 19, 20, 21, 22])] [(3, 7)] (Γx := []) ?_; dsimp only [prev0, List.length_nil, List.length_cons])
     | (refine gAny ?_; first | (refine gC 8 ?_; refine RGl.row (Γ1 := fun _ => []) (fun e hk => OpT.callN (rbytes_t h.src)) ?_) | (refine gC 11 ?_; refine RGl.row (Γ1 := fun _ => []) (fun e hk => OpT.callN (rbytes_t h.dst)) ?_) | (refine gC 18 ?_; refine RGl.row (Γ1 := fun _ => []) (fun e hk => OpT.callN (rput_t _ (h.src.bytes ++ h.dst.bytes) n 4 (by omega) (by omega) (by simp; omega))) ?_) | (refine gD 17 ?_; refine RGl.rdX (fun e hk => by (try dsimp only [bndR, ensR, oksR, fcutR, List.append_nil, List.nil_append, List.cons_append, List.append_assoc] at hk ⊢); exact ReadR.convT hkw rfl rfl) ?_) | (refine gOp ?_; first | refine RGl.rdA ?_ | refine RGl.rdX (fun e hk => by (try dsimp only [bndR, ensR, oksR, fcutR, List.append_nil, List.nil_append, List.cons_append, List.append_assoc] at hk ⊢); exact readB) ?_) | (refine gLit ?_; refine RGl.litA ?_) | (refine gApp ?_; refine RGl.appA ?_) | (refine RGl.fin (fun e hk => ?_); (try dsimp only [bndA, ensAR, oksA, List.append_nil, List.nil_append, List.cons_append, List.append_assoc] at hk ⊢); (repeat (obtain ⟨hk1, hk⟩ := hk))) | fail)
     | (refine isCond ?_; first | refine WPc.cT ?_ | refine WPc.cF ?_ | (refine WPc.cQ (fun hc => ?_) (fun hc => ?_) <;> try exact prA))
     | (refine isLit ?_; refine WPl.lit fun v hv => ?_)
     | (refine isApp ?_; refine WPl.app fun v hv => ?_)
     | (refine isC 8 ?_; refine WPl.cR (rbytes_t h.src) fun v hv => ?_)
     | (refine isC 11 ?_; refine WPl.cR (rbytes_t h.dst) fun v hv => ?_)
     | (refine isD 17 ?_; refine WPl.rdX (ReadR.convT hkw rfl rfl) ?_)
     | (refine isC 18 ?_; refine WPl.cR (rput_t _ (h.src.bytes ++ h.dst.bytes) n 4 (by omega) (by omega) (by simp; omega)) fun v hv => ?_)
     | (refine isOp ?_; first | refine WPl.rd ?_ | refine WPl.sk ?_ | refine WPl.rdB ?_)
     | (refine isBx ?_; refine WPl.nw fun g => ?_)
     | (show WPl _ _ _ _ _ _ _ (⟨_, .indexAddr _ _ _, _, _, _, _⟩ :: _) _; refine WPl.rdX (ReadR.indexE rfl rfl hasA (by first | assumption | omega)) ?_)
     | (show WPl _ _ _ _ _ _ _ (⟨_, .fieldAddr _ _ _, _, _, _, _⟩ :: _) _; refine WPl.rdX (ReadR.fieldE rfl hasA (by first | assumption | omega)) ?_)
     | (show WPl _ _ _ _ _ _ _ (⟨_, .load _ _, _, _, _, _⟩ :: _) _; first | refine WPl.rdX (ReadR.loadE rfl hasA (by assumption)) ?_ | refine WPl.rdX (ReadR.loadES (by assumption) (by first | assumption | omega) rfl hasA) ?_)
     | (show WPl _ _ _ _ _ _ _ (⟨_, .slice _ _ _ _ _, _, _, _, _⟩ :: _) _; first | refine WPl.rdX (ReadR.sliceH rfl rfl hasA (by omega)) ?_ | refine WPl.rdX (ReadR.sliceL rfl rfl hasA (by omega)) ?_ | refine WPl.rdX (ReadR.sliceLH rfl rfl rfl hasA (by omega) (by omega)) ?_)
     | (refine WPl.spQ (fun hc => ?_) (fun hc => ?_) <;> try exact prA)
     | fail)
    all_goals try (first | exact WPq.dTp | exact WPq.dTs | exact WPq.dV | exact WPq.dR | exact WPq.dR2 | exact WPq.dH | exact WPq.dBH | exact WPq.dT)
  | false =>
    rw [show psu h n = h.src.bytes ++ h.dst.bytes ++ nbs [0, (h.proto.toNat : Nat)] ++ be n 2 by unfold psu; rw [if_neg (by rw [hs]; decide), hpe]]
    refine Triple.enter Try.func17 rfl Try.ntmps17 rfl (fun W => ?_)
    dsimp only [argsF, Nat.reduceAdd]
    repeat' (first
     | refine WPl.nil ?_ | refine WPq.then ?_ | refine WPq.thenR ?_ | refine WPq.thenE ?_ | refine WPq.blockN ?_ | refine WPq.blockR ?_ | refine WPq.blockE ?_ | refine WPq.blockO rfl ?_ | refine WPc.seq ?_ | refine WPc.block ?_ | refine WPc.ret ?_ | refine WPc.exit ?_ | refine WPc.skip ?_ | refine WPc.region ?_
     | (refine isReg 1 ?_; refine WPc.drA [([], [9, 10]), ([0], [6, 9, 10]), ([0, 1], [6, 7, 9, 10]), ([], [6, 7, 8]), ([3], [6, 7, 8, 9]), ([0, 1, 2, 3, 4], [6, 7, 8, 9, 10]), ([0, 1, 2, 3, 4, 5], [6, 7, 8, 9, 10, 11]), ([0, 1, 2, 3, 4, 5, 6], [6, 7, 8, 9, 10, 11, 12])] [(2, 6), (2, 5)] (Γx := []) ?_; dsimp only [prev0, List.length_nil, List.length_cons])
     | (refine isReg 3 ?_; refine WPc.drA [([], [16, 17, 19, 20, 21]), ([], [15, 19, 20, 21]), ([1], [15, 16, 19, 20, 21]), ([0, 1, 2], [15, 16, 17, 19, 20, 21]), ([], [15, 16, 17, 18]), ([4], [15, 16, 17, 18, 19]), ([4, 5], [15, 16, 17, 18, 19, 20]), ([0, 1, 2, 3, 4, 5, 6], [15, 16, 17, 18, 19, 20, 21]), ([0, 1, 2, 3, 4, 5, 6, 7], [15, 16, 17, 18, 19, 20, 21, 22])] [(3, 7)] (Γx := []) ?_; dsimp only [prev0, List.length_nil, List.length_cons])
     | (refine gAny ?_; first | (refine gC 8 ?_; refine RGl.row (Γ1 := fun _ => []) (fun e hk => OpT.callN (rbytes_t h.src)) ?_) | (refine gC 11 ?_; refine RGl.row (Γ1 := fun _ => []) (fun e hk => OpT.callN (rbytes_t h.dst)) ?_) | (refine gC 30 ?_; refine RGl.row (Γ1 := fun _ => []) (fun e hk => OpT.callN (rput_t _ (h.src.bytes ++ h.dst.bytes ++ nbs [0, (h.proto.toNat : Nat)]) n 2 (by omega) (by omega) (by simp [nbs]; omega))) ?_) | (refine gD 29 ?_; refine RGl.rdX (fun e hk => by (try dsimp only [bndR, ensR, oksR, fcutR, List.append_nil, List.nil_append, List.cons_append, List.append_assoc] at hk ⊢); exact ReadR.convT hkw rfl rfl) ?_) | (refine gOp ?_; first | refine RGl.rdA ?_ | refine RGl.rdX (fun e hk => by (try dsimp only [bndR, ensR, oksR, fcutR, List.append_nil, List.nil_append, List.cons_append, List.append_assoc] at hk ⊢); exact readB) ?_) | (refine gLit ?_; refine RGl.litA ?_) | (refine gApp ?_; refine RGl.appA ?_) | (refine RGl.fin (fun e hk => ?_); (try dsimp only [bndA, ensAR, oksA, List.append_nil, List.nil_append, List.cons_append, List.append_assoc] at hk ⊢); (repeat (obtain ⟨hk1, hk⟩ := hk))) | fail)
     | (refine isCond ?_; first | refine WPc.cT ?_ | refine WPc.cF ?_ | (refine WPc.cQ (fun hc => ?_) (fun hc => ?_) <;> try exact prA))
     | (refine isLit ?_; refine WPl.lit fun v hv => ?_)
     | (refine isApp ?_; refine WPl.app fun v hv => ?_)
     | (refine isC 8 ?_; refine WPl.cR (rbytes_t h.src) fun v hv => ?_)
     | (refine isC 11 ?_; refine WPl.cR (rbytes_t h.dst) fun v hv => ?_)
     | (refine isD 29 ?_; refine WPl.rdX (ReadR.convT hkw rfl rfl) ?_)
     | (refine isC 30 ?_; refine WPl.cR (rput_t _ (h.src.bytes ++ h.dst.bytes ++ nbs [0, (h.proto.toNat : Nat)]) n 2 (by omega) (by omega) (by simp [nbs]; omega)) fun v hv => ?_)
     | (refine isOp ?_; first | refine WPl.rd ?_ | refine WPl.sk ?_ | refine WPl.rdB ?_)
     | (refine isBx ?_; refine WPl.nw fun g => ?_)
     | (show WPl _ _ _ _ _ _ _ (⟨_, .indexAddr _ _ _, _, _, _, _⟩ :: _) _; refine WPl.rdX (ReadR.indexE rfl rfl hasA (by first | assumption | omega)) ?_)
     | (show WPl _ _ _ _ _ _ _ (⟨_, .fieldAddr _ _ _, _, _, _, _⟩ :: _) _; refine WPl.rdX (ReadR.fieldE rfl hasA (by first | assumption | omega)) ?_)
     | (show WPl _ _ _ _ _ _ _ (⟨_, .load _ _, _, _, _, _⟩ :: _) _; first | refine WPl.rdX (ReadR.loadE rfl hasA (by assumption)) ?_ | refine WPl.rdX (ReadR.loadES (by assumption) (by first | assumption | omega) rfl hasA) ?_)
     | (show WPl _ _ _ _ _ _ _ (⟨_, .slice _ _ _ _ _, _, _, _, _⟩ :: _) _; first | refine WPl.rdX (ReadR.sliceH rfl rfl hasA (by omega)) ?_ | refine WPl.rdX (ReadR.sliceL rfl rfl hasA (by omega)) ?_ | refine WPl.rdX (ReadR.sliceLH rfl rfl rfl hasA (by omega) (by omega)) ?_)
     | (refine WPl.spQ (fun hc => ?_) (fun hc => ?_) <;> try exact prA)
     | fail)
    all_goals try (first | exact WPq.dTp | exact WPq.dTs | exact WPq.dV | exact WPq.dR | exact WPq.dR2 | exact WPq.dH | exact WPq.dBH | exact WPq.dT)
attribute [local irreducible] psu
def sgood (h : Hd) (b : List UInt8) : Bool := decide (csum (psu h b.length ++ b) = 0)
theorem wrapLen {n : Nat} (h : n < 9223372036854775808) : IntKind.u64.wrap ((n : Nat) : Int) = (n : Int) := by rw [IntKind.wrap_u64]; omega
theorem sgood_t (h : Hd) (vb : Value) (b : List UInt8) (hl : b.length ≤ 100000) : Triple Try.prog 65 #[ag (hdc h), vb] [rb vb b] (RVal (.bool (sgood h b))) := by
  have l1 := h.src.len
  have l2 := h.dst.len
  have hp := psu_len h b.length
  refine Triple.enter Try.func65 rfl Try.ntmps65 rfl (fun W => ?_)
  dsimp only [argsF, Nat.reduceAdd]
  repeat' (first
   | refine WPl.nil ?_ | refine WPq.then ?_ | refine WPq.thenR ?_ | refine WPq.thenE ?_ | refine WPq.blockN ?_ | refine WPq.blockR ?_ | refine WPq.blockE ?_ | refine WPq.blockO rfl ?_ | refine WPc.seq ?_ | refine WPc.block ?_ | refine WPc.ret ?_ | refine WPc.exit ?_ | refine WPc.skip ?_ | refine WPc.region ?_
   | (refine isCond ?_; first | refine WPc.cT ?_ | refine WPc.cF ?_ | (refine WPc.cQ (fun hc => ?_) (fun hc => ?_) <;> try exact prA))
   | (refine isLit ?_; refine WPl.lits fun v hv => ?_)
   | (refine isC 8 ?_; refine WPl.cR (pseudo_t h b.length b.length (wrapLen (by omega)) (by omega)) fun v hv => ?_)
   | (refine isC 11 ?_; refine WPl.cV (igood_t _ [_, _] [psu h b.length, b] (sgood h b) (by simp [sgood]) rfl (by simp; omega) (by simp)) ?_)
   | (refine isOp ?_; first | refine WPl.rd ?_ | refine WPl.sk ?_ | refine WPl.rdB ?_)
   | (refine isBx ?_; refine WPl.nw fun g => ?_)
   | (show WPl _ _ _ _ _ _ _ (⟨_, .indexAddr _ _ _, _, _, _, _⟩ :: _) _; refine WPl.rdX (ReadR.indexE rfl rfl hasA (by first | assumption | omega)) ?_)
   | (show WPl _ _ _ _ _ _ _ (⟨_, .fieldAddr _ _ _, _, _, _, _⟩ :: _) _; refine WPl.rdX (ReadR.fieldE rfl hasA (by first | assumption | omega)) ?_)
   | (show WPl _ _ _ _ _ _ _ (⟨_, .load _ _, _, _, _, _⟩ :: _) _; first | refine WPl.rdX (ReadR.loadE rfl hasA (by assumption)) ?_ | refine WPl.rdX (ReadR.loadES (by assumption) (by first | assumption | omega) rfl hasA) ?_)
   | (show WPl _ _ _ _ _ _ _ (⟨_, .slice _ _ _ _ _, _, _, _, _⟩ :: _) _; first | refine WPl.rdX (ReadR.sliceH rfl rfl hasA (by omega)) ?_ | refine WPl.rdX (ReadR.sliceL rfl rfl hasA (by omega)) ?_ | refine WPl.rdX (ReadR.sliceLH rfl rfl rfl hasA (by omega) (by omega)) ?_)
   | (refine WPl.spQ (fun hc => ?_) (fun hc => ?_) <;> try exact prA)
   | fail)
  all_goals try (first | exact WPq.dTp | exact WPq.dTs | exact WPq.dV | exact WPq.dR | exact WPq.dR2 | exact WPq.dH | exact WPq.dBH | exact WPq.dT)
theorem rsgood_t (h : Hd) (vb : Value) (b : List UInt8) (hl : b.length ≤ 100000) : Triple Try.prog 36 #[ag (hdc h), vb] [rb vb b] (RVal (.bool (sgood h b))) := by
  have l1 := h.src.len
  have l2 := h.dst.len
  have hp := psu_len h b.length
  have hc := csum_le (psu h b.length ++ b)
  refine Triple.enter Try.func36 rfl Try.ntmps36 rfl (fun W => ?_)
  dsimp only [argsF, Nat.reduceAdd]
  repeat' (first
   | refine WPl.nil ?_ | refine WPq.then ?_ | refine WPq.thenR ?_ | refine WPq.thenE ?_ | refine WPq.blockN ?_ | refine WPq.blockR ?_ | refine WPq.blockE ?_ | refine WPq.blockO rfl ?_ | refine WPc.seq ?_ | refine WPc.block ?_ | refine WPc.ret ?_ | refine WPc.exit ?_ | refine WPc.skip ?_ | refine WPc.region ?_
   | (refine isCond ?_; first | refine WPc.cT ?_ | refine WPc.cF ?_ | (refine WPc.cQ (fun hc => ?_) (fun hc => ?_) <;> try exact prA))
   | (refine isApp ?_; refine WPl.app fun v hv => ?_)
   | (refine isC 8 ?_; refine WPl.cR (rpseudo_t h b.length b.length (wrapLen (by omega)) (by omega)) fun v hv => ?_)
   | (refine isC 11 ?_; refine WPl.cV (rsum_t _ (psu h b.length ++ b) (by simp; omega)) ?_)
   | (refine isOp ?_; first | refine WPl.rd ?_ | refine WPl.sk ?_ | refine WPl.rdB ?_)
   | (refine isBx ?_; refine WPl.nw fun g => ?_)
   | (show WPl _ _ _ _ _ _ _ (⟨_, .indexAddr _ _ _, _, _, _, _⟩ :: _) _; refine WPl.rdX (ReadR.indexE rfl rfl hasA (by first | assumption | omega)) ?_)
   | (show WPl _ _ _ _ _ _ _ (⟨_, .fieldAddr _ _ _, _, _, _, _⟩ :: _) _; refine WPl.rdX (ReadR.fieldE rfl hasA (by first | assumption | omega)) ?_)
   | (show WPl _ _ _ _ _ _ _ (⟨_, .load _ _, _, _, _, _⟩ :: _) _; first | refine WPl.rdX (ReadR.loadE rfl hasA (by assumption)) ?_ | refine WPl.rdX (ReadR.loadES (by assumption) (by first | assumption | omega) rfl hasA) ?_)
   | (show WPl _ _ _ _ _ _ _ (⟨_, .slice _ _ _ _ _, _, _, _, _⟩ :: _) _; first | refine WPl.rdX (ReadR.sliceH rfl rfl hasA (by omega)) ?_ | refine WPl.rdX (ReadR.sliceL rfl rfl hasA (by omega)) ?_ | refine WPl.rdX (ReadR.sliceLH rfl rfl rfl hasA (by omega) (by omega)) ?_)
   | (refine WPl.spQ (fun hc => ?_) (fun hc => ?_) <;> try exact prA)
   | fail)
  exact WPq.dV (hc := by unfold sgood; exact boolV (by omega))
theorem port_t (vb : Value) (b : List UInt8) (k : Nat) (hk : k + 2 ≤ b.length) (hl : b.length ≤ 100000) : Triple Try.prog 57 #[vb, .int .i64 (k : Int)] [rb vb b] (RVal (.int .u16 (val (seg b k 2) : Nat))) := by
  have hv := val2_lt (l := b) (k := k)
  refine Triple.enter Try.func57 rfl Try.ntmps57 rfl (fun W => ?_)
  dsimp only [argsF, Nat.reduceAdd]
  repeat' (first
   | refine WPl.nil ?_ | refine WPq.then ?_ | refine WPq.thenR ?_ | refine WPq.thenE ?_ | refine WPq.blockN ?_ | refine WPq.blockR ?_ | refine WPq.blockE ?_ | refine WPq.blockO rfl ?_ | refine WPc.seq ?_ | refine WPc.block ?_ | refine WPc.ret ?_ | refine WPc.exit ?_ | refine WPc.skip ?_ | refine WPc.region ?_
   | (refine isCond ?_; first | refine WPc.cT ?_ | refine WPc.cF ?_ | (refine WPc.cQ (fun hc => ?_) (fun hc => ?_) <;> try exact prA))
   | (refine isC 10 ?_; refine WPl.cV (get_t vb b k 2 (by omega) (by omega) (by omega) (by omega)) ?_)
   | (refine isOp ?_; first | refine WPl.rd ?_ | refine WPl.sk ?_ | refine WPl.rdB ?_)
   | (show WPl _ _ _ _ _ _ _ (⟨_, .indexAddr _ _ _, _, _, _, _⟩ :: _) _; refine WPl.rdX (ReadR.indexE rfl rfl hasA (by first | assumption | omega)) ?_)
   | (show WPl _ _ _ _ _ _ _ (⟨_, .fieldAddr _ _ _, _, _, _, _⟩ :: _) _; refine WPl.rdX (ReadR.fieldE rfl hasA (by first | assumption | omega)) ?_)
   | (show WPl _ _ _ _ _ _ _ (⟨_, .load _ _, _, _, _, _⟩ :: _) _; first | refine WPl.rdX (ReadR.loadE rfl hasA (by assumption)) ?_ | refine WPl.rdX (ReadR.loadES (by assumption) (by first | assumption | omega) rfl hasA) ?_)
   | (show WPl _ _ _ _ _ _ _ (⟨_, .slice _ _ _ _ _, _, _, _, _⟩ :: _) _; first | refine WPl.rdX (ReadR.sliceH rfl rfl hasA (by omega)) ?_ | refine WPl.rdX (ReadR.sliceL rfl rfl hasA (by omega)) ?_ | refine WPl.rdX (ReadR.sliceLH rfl rfl rfl hasA (by omega) (by omega)) ?_)
   | (refine WPl.spQ (fun hc => ?_) (fun hc => ?_) <;> try exact prA)
   | fail)
  all_goals try (first | exact WPq.dTp | exact WPq.dTs | exact WPq.dV | exact WPq.dR | exact WPq.dR2 | exact WPq.dH | exact WPq.dBH | exact WPq.dT)
/-- A segment's head. -/
structure Sg where
  src : Nat
  dst : Nat
  flags : UInt8
  sumAt : Int
  zero : Bool
  data : Int
abbrev sgc (s : Sg) : Ch := [(1, [.int .u16 (s.src : Int)]), (1, [.int .u16 (s.dst : Int)]), (1, [.int .u8 ((s.flags.toNat : Nat) : Int)]), (1, [.int .i64 s.sumAt]), (1, [.bool s.zero]), (1, [.int .i64 s.data])]
def Sg.none : Sg := ⟨0, 0, 0, 0, false, 0⟩
def tN (b : List UInt8) : Nat := 4 * (byteN b 12 / 16)
def tcpE (h : Hd) (b : List UInt8) : Int := if b.length < 20 then 9 else if tN b < 20 then 4 else if b.length < tN b then 9 else if sgood h b = false then 5 else 0
def udpE (h : Hd) (b : List UInt8) : Int :=
  if b.length < 8 then 9 else if val (seg b 4 2) < 8 then 4 else if b.length < val (seg b 4 2) then 9 else if val (seg b 4 2) < b.length then 10
  else if val (seg b 6 2) = 0 ∧ h.six = true then 4 else if ¬ val (seg b 6 2) = 0 ∧ sgood h b = false then 5 else 0
def tcpS (b : List UInt8) : Sg := ⟨0, 0, b.getD 13 0, 16, false, tN b⟩
def udpS (b : List UInt8) : Sg := ⟨0, 0, 0, 6, decide (val (seg b 6 2) = 0), 8⟩
attribute [local irreducible] sgood
theorem tcp_no (h : Hd) (vb : Value) (b : List UInt8) (hl : b.length ≤ 100000) (he : tcpE h b ≠ 0) : Triple Try.prog 55 #[ag (hdc h), vb] [rb vb b] (RVal (.tuple #[ag (sgc Sg.none), .int .i64 (tcpE h b)])) := by
  have l1 := h.src.len
  have l2 := h.dst.len
  have u0 : byteN b 12 = (b.getD 12 0).toNat := rfl
  have hu := byteN_lt b 12
  have hg := sgood_t h vb b hl
  have htn : tN b = 4 * (byteN b 12 / 16) := rfl
  cases hsg : sgood h b with
  | true =>
    rw [hsg] at hg
    have h0 : tcpE h b = (if b.length < 20 then 9 else if tN b < 20 then 4 else if b.length < tN b then 9 else 0) := by unfold tcpE; rw [hsg]; simp
    rw [h0] at he ⊢
    have hne : b.length < 20 ∨ tN b < 20 ∨ b.length < tN b := by
      apply Classical.byContradiction
      intro hn
      apply he
      repeat' (first | omega | split)
    refine Triple.enter Try.func55 rfl Try.ntmps55 rfl (fun W => ?_)
    dsimp only [argsF, Nat.reduceAdd]
    repeat' (first
     | refine WPl.nil ?_ | refine WPq.then ?_ | refine WPq.thenR ?_ | refine WPq.thenE ?_ | refine WPq.blockN ?_ | refine WPq.blockR ?_ | refine WPq.blockE ?_ | refine WPq.blockO rfl ?_ | refine WPc.seq ?_ | refine WPc.block ?_ | refine WPc.ret ?_ | refine WPc.exit ?_ | refine WPc.skip ?_ | refine WPc.region ?_
     | (refine isCond ?_; first | refine WPc.cT ?_ | refine WPc.cF ?_ | (refine WPc.cQ (fun hc => ?_) (fun hc => ?_) <;> try exact prA))
     | (refine isC 30 ?_; refine WPl.cV (hg) ?_)
     | (refine isOp ?_; first | refine WPl.rd ?_ | refine WPl.sk ?_ | refine WPl.rdB ?_)
     | (refine isAl ?_; refine WPl.nw fun g => ?_)
     | (refine isBx ?_; refine WPl.nw fun g => ?_)
     | (refine isSt ?_; first | refine WPl.st1 ?_ | refine WPl.stA ?_ | refine WPl.stEB ?_ | refine WPl.stRB ?_)
     | (show WPl _ _ _ _ _ _ _ (⟨_, .indexAddr _ _ _, _, _, _, _⟩ :: _) _; refine WPl.rdX (ReadR.indexE rfl rfl hasA (by first | assumption | omega)) ?_)
     | (show WPl _ _ _ _ _ _ _ (⟨_, .fieldAddr _ _ _, _, _, _, _⟩ :: _) _; refine WPl.rdX (ReadR.fieldE rfl hasA (by first | assumption | omega)) ?_)
     | (show WPl _ _ _ _ _ _ _ (⟨_, .load _ _, _, _, _, _⟩ :: _) _; first | refine WPl.rdX (ReadR.loadE rfl hasA (by assumption)) ?_ | refine WPl.rdX (ReadR.loadES (by assumption) (by first | assumption | omega) rfl hasA) ?_)
     | (show WPl _ _ _ _ _ _ _ (⟨_, .slice _ _ _ _ _, _, _, _, _⟩ :: _) _; first | refine WPl.rdX (ReadR.sliceH rfl rfl hasA (by omega)) ?_ | refine WPl.rdX (ReadR.sliceL rfl rfl hasA (by omega)) ?_ | refine WPl.rdX (ReadR.sliceLH rfl rfl rfl hasA (by omega) (by omega)) ?_)
     | (refine WPl.spQ (fun hc => ?_) (fun hc => ?_) <;> try exact prA)
     | fail)
    all_goals
      refine WPq.dV (hc := ?_)
      show Value.tuple #[_, Value.int .i64 _] = Value.tuple #[_, Value.int .i64 _]
      congr 5
      repeat' (first | omega | split)
  | false =>
    rw [hsg] at hg
    have h0 : tcpE h b = (if b.length < 20 then 9 else if tN b < 20 then 4 else if b.length < tN b then 9 else 5) := by unfold tcpE; rw [hsg]; simp
    rw [h0]
    refine Triple.enter Try.func55 rfl Try.ntmps55 rfl (fun W => ?_)
    dsimp only [argsF, Nat.reduceAdd]
    repeat' (first
     | refine WPl.nil ?_ | refine WPq.then ?_ | refine WPq.thenR ?_ | refine WPq.thenE ?_ | refine WPq.blockN ?_ | refine WPq.blockR ?_ | refine WPq.blockE ?_ | refine WPq.blockO rfl ?_ | refine WPc.seq ?_ | refine WPc.block ?_ | refine WPc.ret ?_ | refine WPc.exit ?_ | refine WPc.skip ?_ | refine WPc.region ?_
     | (refine isCond ?_; first | refine WPc.cT ?_ | refine WPc.cF ?_ | (refine WPc.cQ (fun hc => ?_) (fun hc => ?_) <;> try exact prA))
     | (refine isC 30 ?_; refine WPl.cV (hg) ?_)
     | (refine isOp ?_; first | refine WPl.rd ?_ | refine WPl.sk ?_ | refine WPl.rdB ?_)
     | (refine isAl ?_; refine WPl.nw fun g => ?_)
     | (refine isBx ?_; refine WPl.nw fun g => ?_)
     | (refine isSt ?_; first | refine WPl.st1 ?_ | refine WPl.stA ?_ | refine WPl.stEB ?_ | refine WPl.stRB ?_)
     | (show WPl _ _ _ _ _ _ _ (⟨_, .indexAddr _ _ _, _, _, _, _⟩ :: _) _; refine WPl.rdX (ReadR.indexE rfl rfl hasA (by first | assumption | omega)) ?_)
     | (show WPl _ _ _ _ _ _ _ (⟨_, .fieldAddr _ _ _, _, _, _, _⟩ :: _) _; refine WPl.rdX (ReadR.fieldE rfl hasA (by first | assumption | omega)) ?_)
     | (show WPl _ _ _ _ _ _ _ (⟨_, .load _ _, _, _, _, _⟩ :: _) _; first | refine WPl.rdX (ReadR.loadE rfl hasA (by assumption)) ?_ | refine WPl.rdX (ReadR.loadES (by assumption) (by first | assumption | omega) rfl hasA) ?_)
     | (show WPl _ _ _ _ _ _ _ (⟨_, .slice _ _ _ _ _, _, _, _, _⟩ :: _) _; first | refine WPl.rdX (ReadR.sliceH rfl rfl hasA (by omega)) ?_ | refine WPl.rdX (ReadR.sliceL rfl rfl hasA (by omega)) ?_ | refine WPl.rdX (ReadR.sliceLH rfl rfl rfl hasA (by omega) (by omega)) ?_)
     | (refine WPl.spQ (fun hc => ?_) (fun hc => ?_) <;> try exact prA)
     | fail)
    all_goals
      refine WPq.dV (hc := ?_)
      show Value.tuple #[_, Value.int .i64 _] = Value.tuple #[_, Value.int .i64 _]
      congr 5
      repeat' (first | omega | split)
theorem tcp_yes (h : Hd) (vb : Value) (b : List UInt8) (hl : b.length ≤ 100000) (he : tcpE h b = 0) : Triple Try.prog 55 #[ag (hdc h), vb] [rb vb b] (RVal (.tuple #[ag (sgc (tcpS b)), .int .i64 0])) := by
  have l1 := h.src.len
  have l2 := h.dst.len
  have hu := byteN_lt b 12
  have hg := sgood_t h vb b hl
  have htn : tN b = 4 * (byteN b 12 / 16) := rfl
  have hmul : (4 : Int) * ((((b.getD 12 0).toNat : Nat) : Int) / 2 ^ 4) = ((tN b : Nat) : Int) := by rw [htn]; unfold byteN; omega
  have hf : 20 ≤ b.length ∧ 20 ≤ tN b ∧ tN b ≤ b.length ∧ sgood h b = true := by
    unfold tcpE at he
    repeat' (split at he)
    all_goals first | omega | (cases he; done) | skip
    exact ⟨by omega, by omega, by omega, by simpa using ‹¬ sgood h b = false›⟩
  obtain ⟨f1, f2, f3, f4⟩ := hf
  rw [f4] at hg
  refine Triple.enter Try.func55 rfl Try.ntmps55 rfl (fun W => ?_)
  dsimp only [argsF, Nat.reduceAdd]
  repeat' (first
   | refine WPl.nil ?_ | refine WPq.then ?_ | refine WPq.thenR ?_ | refine WPq.thenE ?_ | refine WPq.blockN ?_ | refine WPq.blockR ?_ | refine WPq.blockE ?_ | refine WPq.blockO rfl ?_ | refine WPc.seq ?_ | refine WPc.block ?_ | refine WPc.ret ?_ | refine WPc.exit ?_ | refine WPc.skip ?_ | refine WPc.region ?_
   | (refine isCond ?_; first | refine WPc.cT ?_ | refine WPc.cF ?_ | (refine WPc.cQ (fun hc => ?_) (fun hc => ?_) <;> try exact prA))
   | (refine isC 30 ?_; refine WPl.cV (hg) ?_)
   | (refine isD 16 ?_; refine WPl.rdX (ReadR.bin rfl rfl (BinR.mulT hmul (by simp only [kmin]; omega) (by simp only [kmax]; omega))) ?_)
   | (refine isOp ?_; first | refine WPl.rd ?_ | refine WPl.sk ?_ | refine WPl.rdB ?_)
   | (refine isAl ?_; refine WPl.nw fun g => ?_)
   | (refine isBx ?_; refine WPl.nw fun g => ?_)
   | (refine isSt ?_; first | refine WPl.st1 ?_ | refine WPl.stA ?_ | refine WPl.stEB ?_ | refine WPl.stRB ?_)
   | (show WPl _ _ _ _ _ _ _ (⟨_, .indexAddr _ _ _, _, _, _, _⟩ :: _) _; refine WPl.rdX (ReadR.indexE rfl rfl hasA (by first | assumption | omega)) ?_)
   | (show WPl _ _ _ _ _ _ _ (⟨_, .fieldAddr _ _ _, _, _, _, _⟩ :: _) _; refine WPl.rdX (ReadR.fieldE rfl hasA (by first | assumption | omega)) ?_)
   | (show WPl _ _ _ _ _ _ _ (⟨_, .load _ _, _, _, _, _⟩ :: _) _; first | refine WPl.rdX (ReadR.loadE rfl hasA (by assumption)) ?_ | refine WPl.rdX (ReadR.loadES (by assumption) (by first | assumption | omega) rfl hasA) ?_)
   | (show WPl _ _ _ _ _ _ _ (⟨_, .slice _ _ _ _ _, _, _, _, _⟩ :: _) _; first | refine WPl.rdX (ReadR.sliceH rfl rfl hasA (by omega)) ?_ | refine WPl.rdX (ReadR.sliceL rfl rfl hasA (by omega)) ?_ | refine WPl.rdX (ReadR.sliceLH rfl rfl rfl hasA (by omega) (by omega)) ?_)
   | (refine WPl.spQ (fun hc => ?_) (fun hc => ?_) <;> try exact prA)
   | fail)
  all_goals try (first | exact WPq.dTp | exact WPq.dTs | exact WPq.dV | exact WPq.dR | exact WPq.dR2 | exact WPq.dH | exact WPq.dBH | exact WPq.dT)
theorem udp_no (h : Hd) (vb : Value) (b : List UInt8) (hl : b.length ≤ 100000) (he : udpE h b ≠ 0) : Triple Try.prog 56 #[ag (hdc h), vb] [rb vb b] (RVal (.tuple #[ag (sgc Sg.none), .int .i64 (udpE h b)])) := by
  have l1 := h.src.len
  have l2 := h.dst.len
  have hv4 := val2_lt (l := b) (k := 4)
  have hv6 := val2_lt (l := b) (k := 6)
  have hg := sgood_t h vb b hl
  cases hsx : h.six with
  | true =>
    cases hsg : sgood h b with
    | true =>
      rw [hsg] at hg
      have h0 : udpE h b = (if b.length < 8 then 9 else if val (seg b 4 2) < 8 then 4 else if b.length < val (seg b 4 2) then 9 else if val (seg b 4 2) < b.length then 10 else if val (seg b 6 2) = 0 then 4 else 0) := by unfold udpE; rw [hsg, hsx]; simp
      rw [h0] at he ⊢
      have hne : b.length < 8 ∨ val (seg b 4 2) < 8 ∨ val (seg b 4 2) ≠ b.length ∨ val (seg b 6 2) = 0 := by
        apply Classical.byContradiction
        intro hn
        apply he
        repeat' (first | omega | split)
      refine Triple.enter Try.func56 rfl Try.ntmps56 rfl (fun W => ?_)
      dsimp only [argsF, Nat.reduceAdd]
      repeat' (first
       | refine WPl.nil ?_ | refine WPq.then ?_ | refine WPq.thenR ?_ | refine WPq.thenE ?_ | refine WPq.blockN ?_ | refine WPq.blockR ?_ | refine WPq.blockE ?_ | refine WPq.blockO rfl ?_ | refine WPc.seq ?_ | refine WPc.block ?_ | refine WPc.ret ?_ | refine WPc.exit ?_ | refine WPc.skip ?_ | refine WPc.region ?_
       | (refine isCond ?_; first | refine WPc.cT ?_ | refine WPc.cF ?_ | (refine WPc.cQ (fun hc => ?_) (fun hc => ?_) <;> try exact prA))
       | (refine isC 47 ?_; refine WPl.cV (hg) ?_)
       | (refine isC 13 ?_; refine WPl.cV (port_t vb b 4 (by omega) hl) ?_)
       | (refine isC 16 ?_; refine WPl.cV (port_t vb b 6 (by omega) hl) ?_)
       | (refine isOp ?_; first | refine WPl.rd ?_ | refine WPl.sk ?_ | refine WPl.rdB ?_)
       | (refine isAl ?_; refine WPl.nw fun g => ?_)
       | (refine isBx ?_; refine WPl.nw fun g => ?_)
       | (refine isSt ?_; first | refine WPl.st1 ?_ | refine WPl.stA ?_ | refine WPl.stEB ?_ | refine WPl.stRB ?_)
       | (show WPl _ _ _ _ _ _ _ (⟨_, .indexAddr _ _ _, _, _, _, _⟩ :: _) _; refine WPl.rdX (ReadR.indexE rfl rfl hasA (by first | assumption | omega)) ?_)
       | (show WPl _ _ _ _ _ _ _ (⟨_, .fieldAddr _ _ _, _, _, _, _⟩ :: _) _; refine WPl.rdX (ReadR.fieldE rfl hasA (by first | assumption | omega)) ?_)
       | (show WPl _ _ _ _ _ _ _ (⟨_, .load _ _, _, _, _, _⟩ :: _) _; first | refine WPl.rdX (ReadR.loadE rfl hasA (by assumption)) ?_ | refine WPl.rdX (ReadR.loadES (by assumption) (by first | assumption | omega) rfl hasA) ?_)
       | (show WPl _ _ _ _ _ _ _ (⟨_, .slice _ _ _ _ _, _, _, _, _⟩ :: _) _; first | refine WPl.rdX (ReadR.sliceH rfl rfl hasA (by omega)) ?_ | refine WPl.rdX (ReadR.sliceL rfl rfl hasA (by omega)) ?_ | refine WPl.rdX (ReadR.sliceLH rfl rfl rfl hasA (by omega) (by omega)) ?_)
       | (refine WPl.spQ (fun hc => ?_) (fun hc => ?_) <;> try exact prA)
       | fail)
      all_goals
        refine WPq.dV (hc := ?_)
        show Value.tuple #[_, Value.int .i64 _] = Value.tuple #[_, Value.int .i64 _]
        congr 5
        repeat' (first | omega | split)
    | false =>
      rw [hsg] at hg
      have h0 : udpE h b = (if b.length < 8 then 9 else if val (seg b 4 2) < 8 then 4 else if b.length < val (seg b 4 2) then 9 else if val (seg b 4 2) < b.length then 10 else if val (seg b 6 2) = 0 then 4 else 5) := by unfold udpE; rw [hsg, hsx]; by_cases hz : val (seg b 6 2) = 0 <;> simp [hz]
      rw [h0]
      refine Triple.enter Try.func56 rfl Try.ntmps56 rfl (fun W => ?_)
      dsimp only [argsF, Nat.reduceAdd]
      repeat' (first
       | refine WPl.nil ?_ | refine WPq.then ?_ | refine WPq.thenR ?_ | refine WPq.thenE ?_ | refine WPq.blockN ?_ | refine WPq.blockR ?_ | refine WPq.blockE ?_ | refine WPq.blockO rfl ?_ | refine WPc.seq ?_ | refine WPc.block ?_ | refine WPc.ret ?_ | refine WPc.exit ?_ | refine WPc.skip ?_ | refine WPc.region ?_
       | (refine isCond ?_; first | refine WPc.cT ?_ | refine WPc.cF ?_ | (refine WPc.cQ (fun hc => ?_) (fun hc => ?_) <;> try exact prA))
       | (refine isC 47 ?_; refine WPl.cV (hg) ?_)
       | (refine isC 13 ?_; refine WPl.cV (port_t vb b 4 (by omega) hl) ?_)
       | (refine isC 16 ?_; refine WPl.cV (port_t vb b 6 (by omega) hl) ?_)
       | (refine isOp ?_; first | refine WPl.rd ?_ | refine WPl.sk ?_ | refine WPl.rdB ?_)
       | (refine isAl ?_; refine WPl.nw fun g => ?_)
       | (refine isBx ?_; refine WPl.nw fun g => ?_)
       | (refine isSt ?_; first | refine WPl.st1 ?_ | refine WPl.stA ?_ | refine WPl.stEB ?_ | refine WPl.stRB ?_)
       | (show WPl _ _ _ _ _ _ _ (⟨_, .indexAddr _ _ _, _, _, _, _⟩ :: _) _; refine WPl.rdX (ReadR.indexE rfl rfl hasA (by first | assumption | omega)) ?_)
       | (show WPl _ _ _ _ _ _ _ (⟨_, .fieldAddr _ _ _, _, _, _, _⟩ :: _) _; refine WPl.rdX (ReadR.fieldE rfl hasA (by first | assumption | omega)) ?_)
       | (show WPl _ _ _ _ _ _ _ (⟨_, .load _ _, _, _, _, _⟩ :: _) _; first | refine WPl.rdX (ReadR.loadE rfl hasA (by assumption)) ?_ | refine WPl.rdX (ReadR.loadES (by assumption) (by first | assumption | omega) rfl hasA) ?_)
       | (show WPl _ _ _ _ _ _ _ (⟨_, .slice _ _ _ _ _, _, _, _, _⟩ :: _) _; first | refine WPl.rdX (ReadR.sliceH rfl rfl hasA (by omega)) ?_ | refine WPl.rdX (ReadR.sliceL rfl rfl hasA (by omega)) ?_ | refine WPl.rdX (ReadR.sliceLH rfl rfl rfl hasA (by omega) (by omega)) ?_)
       | (refine WPl.spQ (fun hc => ?_) (fun hc => ?_) <;> try exact prA)
       | fail)
      all_goals
        refine WPq.dV (hc := ?_)
        show Value.tuple #[_, Value.int .i64 _] = Value.tuple #[_, Value.int .i64 _]
        congr 5
        repeat' (first | omega | split)
  | false =>
    cases hsg : sgood h b with
    | true =>
      rw [hsg] at hg
      have h0 : udpE h b = (if b.length < 8 then 9 else if val (seg b 4 2) < 8 then 4 else if b.length < val (seg b 4 2) then 9 else if val (seg b 4 2) < b.length then 10 else 0) := by unfold udpE; rw [hsg, hsx]; simp
      rw [h0] at he ⊢
      have hne : b.length < 8 ∨ val (seg b 4 2) < 8 ∨ val (seg b 4 2) ≠ b.length := by
        apply Classical.byContradiction
        intro hn
        apply he
        repeat' (first | omega | split)
      refine Triple.enter Try.func56 rfl Try.ntmps56 rfl (fun W => ?_)
      dsimp only [argsF, Nat.reduceAdd]
      repeat' (first
       | refine WPl.nil ?_ | refine WPq.then ?_ | refine WPq.thenR ?_ | refine WPq.thenE ?_ | refine WPq.blockN ?_ | refine WPq.blockR ?_ | refine WPq.blockE ?_ | refine WPq.blockO rfl ?_ | refine WPc.seq ?_ | refine WPc.block ?_ | refine WPc.ret ?_ | refine WPc.exit ?_ | refine WPc.skip ?_ | refine WPc.region ?_
       | (refine isCond ?_; first | refine WPc.cT ?_ | refine WPc.cF ?_ | (refine WPc.cQ (fun hc => ?_) (fun hc => ?_) <;> try exact prA))
       | (refine isC 47 ?_; refine WPl.cV (hg) ?_)
       | (refine isC 13 ?_; refine WPl.cV (port_t vb b 4 (by omega) hl) ?_)
       | (refine isC 16 ?_; refine WPl.cV (port_t vb b 6 (by omega) hl) ?_)
       | (refine isOp ?_; first | refine WPl.rd ?_ | refine WPl.sk ?_ | refine WPl.rdB ?_)
       | (refine isAl ?_; refine WPl.nw fun g => ?_)
       | (refine isBx ?_; refine WPl.nw fun g => ?_)
       | (refine isSt ?_; first | refine WPl.st1 ?_ | refine WPl.stA ?_ | refine WPl.stEB ?_ | refine WPl.stRB ?_)
       | (show WPl _ _ _ _ _ _ _ (⟨_, .indexAddr _ _ _, _, _, _, _⟩ :: _) _; refine WPl.rdX (ReadR.indexE rfl rfl hasA (by first | assumption | omega)) ?_)
       | (show WPl _ _ _ _ _ _ _ (⟨_, .fieldAddr _ _ _, _, _, _, _⟩ :: _) _; refine WPl.rdX (ReadR.fieldE rfl hasA (by first | assumption | omega)) ?_)
       | (show WPl _ _ _ _ _ _ _ (⟨_, .load _ _, _, _, _, _⟩ :: _) _; first | refine WPl.rdX (ReadR.loadE rfl hasA (by assumption)) ?_ | refine WPl.rdX (ReadR.loadES (by assumption) (by first | assumption | omega) rfl hasA) ?_)
       | (show WPl _ _ _ _ _ _ _ (⟨_, .slice _ _ _ _ _, _, _, _, _⟩ :: _) _; first | refine WPl.rdX (ReadR.sliceH rfl rfl hasA (by omega)) ?_ | refine WPl.rdX (ReadR.sliceL rfl rfl hasA (by omega)) ?_ | refine WPl.rdX (ReadR.sliceLH rfl rfl rfl hasA (by omega) (by omega)) ?_)
       | (refine WPl.spQ (fun hc => ?_) (fun hc => ?_) <;> try exact prA)
       | fail)
      all_goals
        refine WPq.dV (hc := ?_)
        show Value.tuple #[_, Value.int .i64 _] = Value.tuple #[_, Value.int .i64 _]
        congr 5
        repeat' (first | omega | split)
    | false =>
      rw [hsg] at hg
      have h0 : udpE h b = (if b.length < 8 then 9 else if val (seg b 4 2) < 8 then 4 else if b.length < val (seg b 4 2) then 9 else if val (seg b 4 2) < b.length then 10 else if ¬ val (seg b 6 2) = 0 then 5 else 0) := by unfold udpE; rw [hsg, hsx]; simp
      rw [h0] at he ⊢
      have hne : b.length < 8 ∨ val (seg b 4 2) < 8 ∨ val (seg b 4 2) ≠ b.length ∨ ¬ val (seg b 6 2) = 0 := by
        apply Classical.byContradiction
        intro hn
        apply he
        repeat' (first | omega | split)
      refine Triple.enter Try.func56 rfl Try.ntmps56 rfl (fun W => ?_)
      dsimp only [argsF, Nat.reduceAdd]
      repeat' (first
       | refine WPl.nil ?_ | refine WPq.then ?_ | refine WPq.thenR ?_ | refine WPq.thenE ?_ | refine WPq.blockN ?_ | refine WPq.blockR ?_ | refine WPq.blockE ?_ | refine WPq.blockO rfl ?_ | refine WPc.seq ?_ | refine WPc.block ?_ | refine WPc.ret ?_ | refine WPc.exit ?_ | refine WPc.skip ?_ | refine WPc.region ?_
       | (refine isCond ?_; first | refine WPc.cT ?_ | refine WPc.cF ?_ | (refine WPc.cQ (fun hc => ?_) (fun hc => ?_) <;> try exact prA))
       | (refine isC 47 ?_; refine WPl.cV (hg) ?_)
       | (refine isC 13 ?_; refine WPl.cV (port_t vb b 4 (by omega) hl) ?_)
       | (refine isC 16 ?_; refine WPl.cV (port_t vb b 6 (by omega) hl) ?_)
       | (refine isOp ?_; first | refine WPl.rd ?_ | refine WPl.sk ?_ | refine WPl.rdB ?_)
       | (refine isAl ?_; refine WPl.nw fun g => ?_)
       | (refine isBx ?_; refine WPl.nw fun g => ?_)
       | (refine isSt ?_; first | refine WPl.st1 ?_ | refine WPl.stA ?_ | refine WPl.stEB ?_ | refine WPl.stRB ?_)
       | (show WPl _ _ _ _ _ _ _ (⟨_, .indexAddr _ _ _, _, _, _, _⟩ :: _) _; refine WPl.rdX (ReadR.indexE rfl rfl hasA (by first | assumption | omega)) ?_)
       | (show WPl _ _ _ _ _ _ _ (⟨_, .fieldAddr _ _ _, _, _, _, _⟩ :: _) _; refine WPl.rdX (ReadR.fieldE rfl hasA (by first | assumption | omega)) ?_)
       | (show WPl _ _ _ _ _ _ _ (⟨_, .load _ _, _, _, _, _⟩ :: _) _; first | refine WPl.rdX (ReadR.loadE rfl hasA (by assumption)) ?_ | refine WPl.rdX (ReadR.loadES (by assumption) (by first | assumption | omega) rfl hasA) ?_)
       | (show WPl _ _ _ _ _ _ _ (⟨_, .slice _ _ _ _ _, _, _, _, _⟩ :: _) _; first | refine WPl.rdX (ReadR.sliceH rfl rfl hasA (by omega)) ?_ | refine WPl.rdX (ReadR.sliceL rfl rfl hasA (by omega)) ?_ | refine WPl.rdX (ReadR.sliceLH rfl rfl rfl hasA (by omega) (by omega)) ?_)
       | (refine WPl.spQ (fun hc => ?_) (fun hc => ?_) <;> try exact prA)
       | fail)
      all_goals
        refine WPq.dV (hc := ?_)
        show Value.tuple #[_, Value.int .i64 _] = Value.tuple #[_, Value.int .i64 _]
        congr 5
        repeat' (first | omega | split)
theorem udpE_zero {h : Hd} {b : List UInt8} (he : udpE h b = 0) : 8 ≤ b.length ∧ val (seg b 4 2) = b.length ∧ (val (seg b 6 2) = 0 ∧ h.six = false ∨ ¬ val (seg b 6 2) = 0 ∧ sgood h b = true) := by
  unfold udpE at he
  repeat' (split at he)
  all_goals first | omega | (cases he; done) | skip
  rename_i h1 h2 h3 h4 h5 h6
  refine ⟨by omega, by omega, ?_⟩
  by_cases hz : val (seg b 6 2) = 0
  · exact .inl ⟨hz, by simpa [hz] using h5⟩
  · exact .inr ⟨hz, by simpa [hz] using h6⟩
theorem udp_yes (h : Hd) (vb : Value) (b : List UInt8) (hl : b.length ≤ 100000) (he : udpE h b = 0) : Triple Try.prog 56 #[ag (hdc h), vb] [rb vb b] (RVal (.tuple #[ag (sgc (udpS b)), .int .i64 0])) := by
  have l1 := h.src.len
  have l2 := h.dst.len
  have hv4 := val2_lt (l := b) (k := 4)
  have hv6 := val2_lt (l := b) (k := 6)
  have hg := sgood_t h vb b hl
  obtain ⟨f1, f2, f3⟩ := udpE_zero he
  rcases f3 with ⟨f3, f4⟩ | ⟨f3, f4⟩
  · rw [show udpS b = ⟨0, 0, 0, 6, true, 8⟩ by unfold udpS; rw [decide_eq_true f3]]
    refine Triple.enter Try.func56 rfl Try.ntmps56 rfl (fun W => ?_)
    dsimp only [argsF, Nat.reduceAdd]
    repeat' (first
     | refine WPl.nil ?_ | refine WPq.then ?_ | refine WPq.thenR ?_ | refine WPq.thenE ?_ | refine WPq.blockN ?_ | refine WPq.blockR ?_ | refine WPq.blockE ?_ | refine WPq.blockO rfl ?_ | refine WPc.seq ?_ | refine WPc.block ?_ | refine WPc.ret ?_ | refine WPc.exit ?_ | refine WPc.skip ?_ | refine WPc.region ?_
     | (refine isCond ?_; first | refine WPc.cT ?_ | refine WPc.cF ?_ | (refine WPc.cQ (fun hc => ?_) (fun hc => ?_) <;> try exact prA))
     | (refine isC 13 ?_; refine WPl.cV (port_t vb b 4 (by omega) hl) ?_)
     | (refine isC 16 ?_; refine WPl.cV (port_t vb b 6 (by omega) hl) ?_)
     | (refine isD 17 ?_; refine WPl.rdX (ReadR.binE rfl rfl BinR.eql (congrArg Value.bool (decide_eq_true (by rw [f3]; rfl)))) ?_)
     | (refine isOp ?_; first | refine WPl.rd ?_ | refine WPl.sk ?_ | refine WPl.rdB ?_)
     | (refine isAl ?_; refine WPl.nw fun g => ?_)
     | (refine isBx ?_; refine WPl.nw fun g => ?_)
     | (refine isSt ?_; first | refine WPl.st1 ?_ | refine WPl.stA ?_ | refine WPl.stEB ?_ | refine WPl.stRB ?_)
     | (show WPl _ _ _ _ _ _ _ (⟨_, .indexAddr _ _ _, _, _, _, _⟩ :: _) _; refine WPl.rdX (ReadR.indexE rfl rfl hasA (by first | assumption | omega)) ?_)
     | (show WPl _ _ _ _ _ _ _ (⟨_, .fieldAddr _ _ _, _, _, _, _⟩ :: _) _; refine WPl.rdX (ReadR.fieldE rfl hasA (by first | assumption | omega)) ?_)
     | (show WPl _ _ _ _ _ _ _ (⟨_, .load _ _, _, _, _, _⟩ :: _) _; first | refine WPl.rdX (ReadR.loadE rfl hasA (by assumption)) ?_ | refine WPl.rdX (ReadR.loadES (by assumption) (by first | assumption | omega) rfl hasA) ?_)
     | (show WPl _ _ _ _ _ _ _ (⟨_, .slice _ _ _ _ _, _, _, _, _⟩ :: _) _; first | refine WPl.rdX (ReadR.sliceH rfl rfl hasA (by omega)) ?_ | refine WPl.rdX (ReadR.sliceL rfl rfl hasA (by omega)) ?_ | refine WPl.rdX (ReadR.sliceLH rfl rfl rfl hasA (by omega) (by omega)) ?_)
     | (refine WPl.spQ (fun hc => ?_) (fun hc => ?_) <;> try exact prA)
     | fail)
    all_goals try (first | exact WPq.dTp | exact WPq.dTs | exact WPq.dV | exact WPq.dR | exact WPq.dR2 | exact WPq.dH | exact WPq.dBH | exact WPq.dT)
  · rw [f4] at hg
    rw [show udpS b = ⟨0, 0, 0, 6, false, 8⟩ by unfold udpS; rw [decide_eq_false f3]]
    refine Triple.enter Try.func56 rfl Try.ntmps56 rfl (fun W => ?_)
    dsimp only [argsF, Nat.reduceAdd]
    repeat' (first
     | refine WPl.nil ?_ | refine WPq.then ?_ | refine WPq.thenR ?_ | refine WPq.thenE ?_ | refine WPq.blockN ?_ | refine WPq.blockR ?_ | refine WPq.blockE ?_ | refine WPq.blockO rfl ?_ | refine WPc.seq ?_ | refine WPc.block ?_ | refine WPc.ret ?_ | refine WPc.exit ?_ | refine WPc.skip ?_ | refine WPc.region ?_
     | (refine isCond ?_; first | refine WPc.cT ?_ | refine WPc.cF ?_ | (refine WPc.cQ (fun hc => ?_) (fun hc => ?_) <;> try exact prA))
     | (refine isC 47 ?_; refine WPl.cV (hg) ?_)
     | (refine isC 13 ?_; refine WPl.cV (port_t vb b 4 (by omega) hl) ?_)
     | (refine isC 16 ?_; refine WPl.cV (port_t vb b 6 (by omega) hl) ?_)
     | (refine isD 17 ?_; refine WPl.rdX (ReadR.binE rfl rfl BinR.eql (congrArg Value.bool (decide_eq_false (by omega)))) ?_)
     | (refine isOp ?_; first | refine WPl.rd ?_ | refine WPl.sk ?_ | refine WPl.rdB ?_)
     | (refine isAl ?_; refine WPl.nw fun g => ?_)
     | (refine isBx ?_; refine WPl.nw fun g => ?_)
     | (refine isSt ?_; first | refine WPl.st1 ?_ | refine WPl.stA ?_ | refine WPl.stEB ?_ | refine WPl.stRB ?_)
     | (show WPl _ _ _ _ _ _ _ (⟨_, .indexAddr _ _ _, _, _, _, _⟩ :: _) _; refine WPl.rdX (ReadR.indexE rfl rfl hasA (by first | assumption | omega)) ?_)
     | (show WPl _ _ _ _ _ _ _ (⟨_, .fieldAddr _ _ _, _, _, _, _⟩ :: _) _; refine WPl.rdX (ReadR.fieldE rfl hasA (by first | assumption | omega)) ?_)
     | (show WPl _ _ _ _ _ _ _ (⟨_, .load _ _, _, _, _, _⟩ :: _) _; first | refine WPl.rdX (ReadR.loadE rfl hasA (by assumption)) ?_ | refine WPl.rdX (ReadR.loadES (by assumption) (by first | assumption | omega) rfl hasA) ?_)
     | (show WPl _ _ _ _ _ _ _ (⟨_, .slice _ _ _ _ _, _, _, _, _⟩ :: _) _; first | refine WPl.rdX (ReadR.sliceH rfl rfl hasA (by omega)) ?_ | refine WPl.rdX (ReadR.sliceL rfl rfl hasA (by omega)) ?_ | refine WPl.rdX (ReadR.sliceLH rfl rfl rfl hasA (by omega) (by omega)) ?_)
     | (refine WPl.spQ (fun hc => ?_) (fun hc => ?_) <;> try exact prA)
     | fail)
    all_goals try (first | exact WPq.dTp | exact WPq.dTs | exact WPq.dV | exact WPq.dR | exact WPq.dR2 | exact WPq.dH | exact WPq.dBH | exact WPq.dT)
end Go.Proofs.Ytjfhiifpnpokpaa
/- Layer 15 (seg): reading, whole, and the reference's: contracts. -/
namespace Go.Proofs.Ytjfhiifpnpokpaa
open Go.RowKit
set_option linter.unusedSimpArgs false
set_option linter.unusedVariables false
set_option maxRecDepth 20000
set_option maxHeartbeats 4000000
attribute [local irreducible] WPc WPl WPq ReadR OpT BinR HasS bx rdN rowN Take Takes Prov Triple ResF BuildP Done ag Int.decLt Int.decLe Int.instDecidableEq
attribute [local irreducible] psu sgood tcpE udpE

def sgE0 (h : Hd) (b : List UInt8) : Int := if h.proto.toNat = 6 then tcpE h b else if h.proto.toNat = 17 then udpE h b else 6
def sg0 (h : Hd) (b : List UInt8) : Sg := if h.proto.toNat = 6 then tcpS b else udpS b
def pz (b : List UInt8) : Bool := decide (val (seg b 0 2) = 0 ∨ val (seg b 2 2) = 0)
def sgE (h : Hd) (b : List UInt8) : Int := if sgE0 h b = 0 then (if pz b then 4 else 0) else sgE0 h b
def Sg.at (s : Sg) (b : List UInt8) : Sg := ⟨val (seg b 0 2), val (seg b 2 2), s.flags, s.sumAt, s.zero, s.data⟩
def sgR (h : Hd) (b : List UInt8) : Sg := if sgE h b = 0 then (sg0 h b).at b else Sg.none
abbrev gVal (h : Hd) (b : List UInt8) : Value := .tuple #[ag (sgc (sgR h b)), .int .i64 (sgE h b)]
theorem tcpE_zero {h : Hd} {b : List UInt8} (he : tcpE h b = 0) : 20 ≤ b.length ∧ 20 ≤ tN b ∧ tN b ≤ b.length ∧ sgood h b = true := by
  unfold tcpE at he
  repeat' (split at he)
  all_goals first | omega | (cases he; done) | skip
  exact ⟨by omega, by omega, by omega, by simpa using ‹¬ sgood h b = false›⟩
theorem sgE0_len {h : Hd} {b : List UInt8} (he : sgE0 h b = 0) : 8 ≤ b.length := by
  unfold sgE0 at he
  repeat' (split at he)
  · exact Nat.le_trans (by omega) (tcpE_zero he).1
  · exact (udpE_zero he).1
  · cases he
theorem pz_no {b : List UInt8} (h : pz b = false) : ¬ val (seg b 0 2) = 0 ∧ ¬ val (seg b 2 2) = 0 := by simpa [pz] using h
theorem sread_t (h : Hd) (vb : Value) (b : List UInt8) (hl : b.length ≤ 100000) : Triple Try.prog 41 #[ag (hdc h), vb] [rb vb b] (RVal (gVal h b)) := by
  have l1 := h.src.len
  have l2 := h.dst.len
  have hv0 := val2_lt (l := b) (k := 0)
  have hv2 := val2_lt (l := b) (k := 2)
  by_cases he : sgE0 h b = 0
  · have hbl := sgE0_len he
    cases hz : pz b with
    | true =>
      have hz' : val (seg b 0 2) = 0 ∨ val (seg b 2 2) = 0 := by simpa [pz] using hz
      have hE : sgE h b = 4 := by unfold sgE; rw [if_pos he, hz]; rfl
      rw [show gVal h b = .tuple #[ag (sgc Sg.none), .int .i64 4] by unfold gVal sgR; rw [hE, if_neg (by omega)]]
      by_cases h6 : h.proto.toNat = 6
      · have ht := tcp_yes h vb b hl (by unfold sgE0 at he; rw [if_pos h6] at he; exact he)
        refine Triple.enter Try.func41 rfl Try.ntmps41 rfl (fun W => ?_)
        dsimp only [argsF, Nat.reduceAdd]
        repeat' (first
         | refine WPl.nil ?_ | refine WPq.then ?_ | refine WPq.thenR ?_ | refine WPq.thenE ?_ | refine WPq.blockN ?_ | refine WPq.blockR ?_ | refine WPq.blockE ?_ | refine WPq.blockO rfl ?_ | refine WPc.seq ?_ | refine WPc.block ?_ | refine WPc.ret ?_ | refine WPc.exit ?_ | refine WPc.skip ?_ | refine WPc.region ?_
         | (refine isCond ?_; first | refine WPc.cT ?_ | refine WPc.cF ?_ | (refine WPc.cQ (fun hc => ?_) (fun hc => ?_) <;> try exact prA))
         | (refine isC 13 ?_; refine WPl.cV (ht) ?_)
         | (refine isC 29 ?_; refine WPl.cV (port_t vb b 0 (by omega) hl) ?_)
         | (refine isC 31 ?_; refine WPl.cV (port_t vb b 2 (by omega) hl) ?_)
         | (refine isOp ?_; first | refine WPl.rd ?_ | refine WPl.sk ?_ | refine WPl.rdB ?_)
         | (refine isAl ?_; refine WPl.nw fun g => ?_)
         | (refine isBx ?_; refine WPl.nw fun g => ?_)
         | (refine isSt ?_; first | refine WPl.st1 ?_ | refine WPl.stA ?_ | refine WPl.stEB ?_ | refine WPl.stRB ?_)
         | (show WPl _ _ _ _ _ _ _ (⟨_, .indexAddr _ _ _, _, _, _, _⟩ :: _) _; refine WPl.rdX (ReadR.indexE rfl rfl hasA (by first | assumption | omega)) ?_)
         | (show WPl _ _ _ _ _ _ _ (⟨_, .fieldAddr _ _ _, _, _, _, _⟩ :: _) _; refine WPl.rdX (ReadR.fieldE rfl hasA (by first | assumption | omega)) ?_)
         | (show WPl _ _ _ _ _ _ _ (⟨_, .load _ _, _, _, _, _⟩ :: _) _; first | refine WPl.rdX (ReadR.loadE rfl hasA (by assumption)) ?_ | refine WPl.rdX (ReadR.loadES (by assumption) (by first | assumption | omega) rfl hasA) ?_)
         | (show WPl _ _ _ _ _ _ _ (⟨_, .slice _ _ _ _ _, _, _, _, _⟩ :: _) _; first | refine WPl.rdX (ReadR.sliceH rfl rfl hasA (by omega)) ?_ | refine WPl.rdX (ReadR.sliceL rfl rfl hasA (by omega)) ?_ | refine WPl.rdX (ReadR.sliceLH rfl rfl rfl hasA (by omega) (by omega)) ?_)
         | (refine WPl.spQ (fun hc => ?_) (fun hc => ?_) <;> try exact prA)
         | fail)
        all_goals try (first | exact WPq.dTp | exact WPq.dTs | exact WPq.dV | exact WPq.dR | exact WPq.dR2 | exact WPq.dH | exact WPq.dBH | exact WPq.dT)
      · by_cases h17 : h.proto.toNat = 17
        · have ht := udp_yes h vb b hl (by unfold sgE0 at he; rw [if_neg h6, if_pos h17] at he; exact he)
          refine Triple.enter Try.func41 rfl Try.ntmps41 rfl (fun W => ?_)
          dsimp only [argsF, Nat.reduceAdd]
          repeat' (first
           | refine WPl.nil ?_ | refine WPq.then ?_ | refine WPq.thenR ?_ | refine WPq.thenE ?_ | refine WPq.blockN ?_ | refine WPq.blockR ?_ | refine WPq.blockE ?_ | refine WPq.blockO rfl ?_ | refine WPc.seq ?_ | refine WPc.block ?_ | refine WPc.ret ?_ | refine WPc.exit ?_ | refine WPc.skip ?_ | refine WPc.region ?_
           | (refine isCond ?_; first | refine WPc.cT ?_ | refine WPc.cF ?_ | (refine WPc.cQ (fun hc => ?_) (fun hc => ?_) <;> try exact prA))
           | (refine isC 21 ?_; refine WPl.cV (ht) ?_)
           | (refine isC 29 ?_; refine WPl.cV (port_t vb b 0 (by omega) hl) ?_)
           | (refine isC 31 ?_; refine WPl.cV (port_t vb b 2 (by omega) hl) ?_)
           | (refine isOp ?_; first | refine WPl.rd ?_ | refine WPl.sk ?_ | refine WPl.rdB ?_)
           | (refine isAl ?_; refine WPl.nw fun g => ?_)
           | (refine isBx ?_; refine WPl.nw fun g => ?_)
           | (refine isSt ?_; first | refine WPl.st1 ?_ | refine WPl.stA ?_ | refine WPl.stEB ?_ | refine WPl.stRB ?_)
           | (show WPl _ _ _ _ _ _ _ (⟨_, .indexAddr _ _ _, _, _, _, _⟩ :: _) _; refine WPl.rdX (ReadR.indexE rfl rfl hasA (by first | assumption | omega)) ?_)
           | (show WPl _ _ _ _ _ _ _ (⟨_, .fieldAddr _ _ _, _, _, _, _⟩ :: _) _; refine WPl.rdX (ReadR.fieldE rfl hasA (by first | assumption | omega)) ?_)
           | (show WPl _ _ _ _ _ _ _ (⟨_, .load _ _, _, _, _, _⟩ :: _) _; first | refine WPl.rdX (ReadR.loadE rfl hasA (by assumption)) ?_ | refine WPl.rdX (ReadR.loadES (by assumption) (by first | assumption | omega) rfl hasA) ?_)
           | (show WPl _ _ _ _ _ _ _ (⟨_, .slice _ _ _ _ _, _, _, _, _⟩ :: _) _; first | refine WPl.rdX (ReadR.sliceH rfl rfl hasA (by omega)) ?_ | refine WPl.rdX (ReadR.sliceL rfl rfl hasA (by omega)) ?_ | refine WPl.rdX (ReadR.sliceLH rfl rfl rfl hasA (by omega) (by omega)) ?_)
           | (refine WPl.spQ (fun hc => ?_) (fun hc => ?_) <;> try exact prA)
           | fail)
          all_goals try (first | exact WPq.dTp | exact WPq.dTs | exact WPq.dV | exact WPq.dR | exact WPq.dR2 | exact WPq.dH | exact WPq.dBH | exact WPq.dT)
        · unfold sgE0 at he; rw [if_neg h6, if_neg h17] at he; cases he
    | false =>
      obtain ⟨z1, z2⟩ := pz_no hz
      have hE : sgE h b = 0 := by unfold sgE; rw [if_pos he, hz]; rfl
      by_cases h6 : h.proto.toNat = 6
      · have ht := tcp_yes h vb b hl (by unfold sgE0 at he; rw [if_pos h6] at he; exact he)
        rw [show gVal h b = .tuple #[ag (sgc ((tcpS b).at b)), .int .i64 0] by unfold gVal sgR sg0; rw [hE, if_pos rfl, if_pos h6]]
        refine Triple.enter Try.func41 rfl Try.ntmps41 rfl (fun W => ?_)
        dsimp only [argsF, Nat.reduceAdd]
        repeat' (first
         | refine WPl.nil ?_ | refine WPq.then ?_ | refine WPq.thenR ?_ | refine WPq.thenE ?_ | refine WPq.blockN ?_ | refine WPq.blockR ?_ | refine WPq.blockE ?_ | refine WPq.blockO rfl ?_ | refine WPc.seq ?_ | refine WPc.block ?_ | refine WPc.ret ?_ | refine WPc.exit ?_ | refine WPc.skip ?_ | refine WPc.region ?_
         | (refine isCond ?_; first | refine WPc.cT ?_ | refine WPc.cF ?_ | (refine WPc.cQ (fun hc => ?_) (fun hc => ?_) <;> try exact prA))
         | (refine isC 13 ?_; refine WPl.cV (ht) ?_)
         | (refine isC 29 ?_; refine WPl.cV (port_t vb b 0 (by omega) hl) ?_)
         | (refine isC 31 ?_; refine WPl.cV (port_t vb b 2 (by omega) hl) ?_)
         | (refine isOp ?_; first | refine WPl.rd ?_ | refine WPl.sk ?_ | refine WPl.rdB ?_)
         | (refine isAl ?_; refine WPl.nw fun g => ?_)
         | (refine isBx ?_; refine WPl.nw fun g => ?_)
         | (refine isSt ?_; first | refine WPl.st1 ?_ | refine WPl.stA ?_ | refine WPl.stEB ?_ | refine WPl.stRB ?_)
         | (show WPl _ _ _ _ _ _ _ (⟨_, .indexAddr _ _ _, _, _, _, _⟩ :: _) _; refine WPl.rdX (ReadR.indexE rfl rfl hasA (by first | assumption | omega)) ?_)
         | (show WPl _ _ _ _ _ _ _ (⟨_, .fieldAddr _ _ _, _, _, _, _⟩ :: _) _; refine WPl.rdX (ReadR.fieldE rfl hasA (by first | assumption | omega)) ?_)
         | (show WPl _ _ _ _ _ _ _ (⟨_, .load _ _, _, _, _, _⟩ :: _) _; first | refine WPl.rdX (ReadR.loadE rfl hasA (by assumption)) ?_ | refine WPl.rdX (ReadR.loadES (by assumption) (by first | assumption | omega) rfl hasA) ?_)
         | (show WPl _ _ _ _ _ _ _ (⟨_, .slice _ _ _ _ _, _, _, _, _⟩ :: _) _; first | refine WPl.rdX (ReadR.sliceH rfl rfl hasA (by omega)) ?_ | refine WPl.rdX (ReadR.sliceL rfl rfl hasA (by omega)) ?_ | refine WPl.rdX (ReadR.sliceLH rfl rfl rfl hasA (by omega) (by omega)) ?_)
         | (refine WPl.spQ (fun hc => ?_) (fun hc => ?_) <;> try exact prA)
         | fail)
        all_goals try (first | exact WPq.dTp | exact WPq.dTs | exact WPq.dV | exact WPq.dR | exact WPq.dR2 | exact WPq.dH | exact WPq.dBH | exact WPq.dT)
      · by_cases h17 : h.proto.toNat = 17
        · have ht := udp_yes h vb b hl (by unfold sgE0 at he; rw [if_neg h6, if_pos h17] at he; exact he)
          rw [show gVal h b = .tuple #[ag (sgc ((udpS b).at b)), .int .i64 0] by unfold gVal sgR sg0; rw [hE, if_pos rfl, if_neg h6]]
          refine Triple.enter Try.func41 rfl Try.ntmps41 rfl (fun W => ?_)
          dsimp only [argsF, Nat.reduceAdd]
          repeat' (first
           | refine WPl.nil ?_ | refine WPq.then ?_ | refine WPq.thenR ?_ | refine WPq.thenE ?_ | refine WPq.blockN ?_ | refine WPq.blockR ?_ | refine WPq.blockE ?_ | refine WPq.blockO rfl ?_ | refine WPc.seq ?_ | refine WPc.block ?_ | refine WPc.ret ?_ | refine WPc.exit ?_ | refine WPc.skip ?_ | refine WPc.region ?_
           | (refine isCond ?_; first | refine WPc.cT ?_ | refine WPc.cF ?_ | (refine WPc.cQ (fun hc => ?_) (fun hc => ?_) <;> try exact prA))
           | (refine isC 21 ?_; refine WPl.cV (ht) ?_)
           | (refine isC 29 ?_; refine WPl.cV (port_t vb b 0 (by omega) hl) ?_)
           | (refine isC 31 ?_; refine WPl.cV (port_t vb b 2 (by omega) hl) ?_)
           | (refine isOp ?_; first | refine WPl.rd ?_ | refine WPl.sk ?_ | refine WPl.rdB ?_)
           | (refine isAl ?_; refine WPl.nw fun g => ?_)
           | (refine isBx ?_; refine WPl.nw fun g => ?_)
           | (refine isSt ?_; first | refine WPl.st1 ?_ | refine WPl.stA ?_ | refine WPl.stEB ?_ | refine WPl.stRB ?_)
           | (show WPl _ _ _ _ _ _ _ (⟨_, .indexAddr _ _ _, _, _, _, _⟩ :: _) _; refine WPl.rdX (ReadR.indexE rfl rfl hasA (by first | assumption | omega)) ?_)
           | (show WPl _ _ _ _ _ _ _ (⟨_, .fieldAddr _ _ _, _, _, _, _⟩ :: _) _; refine WPl.rdX (ReadR.fieldE rfl hasA (by first | assumption | omega)) ?_)
           | (show WPl _ _ _ _ _ _ _ (⟨_, .load _ _, _, _, _, _⟩ :: _) _; first | refine WPl.rdX (ReadR.loadE rfl hasA (by assumption)) ?_ | refine WPl.rdX (ReadR.loadES (by assumption) (by first | assumption | omega) rfl hasA) ?_)
           | (show WPl _ _ _ _ _ _ _ (⟨_, .slice _ _ _ _ _, _, _, _, _⟩ :: _) _; first | refine WPl.rdX (ReadR.sliceH rfl rfl hasA (by omega)) ?_ | refine WPl.rdX (ReadR.sliceL rfl rfl hasA (by omega)) ?_ | refine WPl.rdX (ReadR.sliceLH rfl rfl rfl hasA (by omega) (by omega)) ?_)
           | (refine WPl.spQ (fun hc => ?_) (fun hc => ?_) <;> try exact prA)
           | fail)
          all_goals try (first | exact WPq.dTp | exact WPq.dTs | exact WPq.dV | exact WPq.dR | exact WPq.dR2 | exact WPq.dH | exact WPq.dBH | exact WPq.dT)
        · unfold sgE0 at he; rw [if_neg h6, if_neg h17] at he; cases he
  · have hE : sgE h b = sgE0 h b := by unfold sgE; rw [if_neg he]
    rw [show gVal h b = .tuple #[ag (sgc Sg.none), .int .i64 (sgE0 h b)] by unfold gVal sgR; rw [hE, if_neg he]]
    by_cases h6 : h.proto.toNat = 6
    · have h0 : sgE0 h b = tcpE h b := by unfold sgE0; rw [if_pos h6]
      rw [h0] at he ⊢
      have ht := tcp_no h vb b hl he
      refine Triple.enter Try.func41 rfl Try.ntmps41 rfl (fun W => ?_)
      dsimp only [argsF, Nat.reduceAdd]
      repeat' (first
       | refine WPl.nil ?_ | refine WPq.then ?_ | refine WPq.thenR ?_ | refine WPq.thenE ?_ | refine WPq.blockN ?_ | refine WPq.blockR ?_ | refine WPq.blockE ?_ | refine WPq.blockO rfl ?_ | refine WPc.seq ?_ | refine WPc.block ?_ | refine WPc.ret ?_ | refine WPc.exit ?_ | refine WPc.skip ?_ | refine WPc.region ?_
       | (refine isCond ?_; first | refine WPc.cT ?_ | refine WPc.cF ?_ | (refine WPc.cQ (fun hc => ?_) (fun hc => ?_) <;> try exact prA))
       | (refine isC 13 ?_; refine WPl.cV (ht) ?_)
       | (refine isOp ?_; first | refine WPl.rd ?_ | refine WPl.sk ?_ | refine WPl.rdB ?_)
       | (refine isAl ?_; refine WPl.nw fun g => ?_)
       | (refine isBx ?_; refine WPl.nw fun g => ?_)
       | (refine isSt ?_; first | refine WPl.st1 ?_ | refine WPl.stA ?_ | refine WPl.stEB ?_ | refine WPl.stRB ?_)
       | (show WPl _ _ _ _ _ _ _ (⟨_, .indexAddr _ _ _, _, _, _, _⟩ :: _) _; refine WPl.rdX (ReadR.indexE rfl rfl hasA (by first | assumption | omega)) ?_)
       | (show WPl _ _ _ _ _ _ _ (⟨_, .fieldAddr _ _ _, _, _, _, _⟩ :: _) _; refine WPl.rdX (ReadR.fieldE rfl hasA (by first | assumption | omega)) ?_)
       | (show WPl _ _ _ _ _ _ _ (⟨_, .load _ _, _, _, _, _⟩ :: _) _; first | refine WPl.rdX (ReadR.loadE rfl hasA (by assumption)) ?_ | refine WPl.rdX (ReadR.loadES (by assumption) (by first | assumption | omega) rfl hasA) ?_)
       | (show WPl _ _ _ _ _ _ _ (⟨_, .slice _ _ _ _ _, _, _, _, _⟩ :: _) _; first | refine WPl.rdX (ReadR.sliceH rfl rfl hasA (by omega)) ?_ | refine WPl.rdX (ReadR.sliceL rfl rfl hasA (by omega)) ?_ | refine WPl.rdX (ReadR.sliceLH rfl rfl rfl hasA (by omega) (by omega)) ?_)
       | (refine WPl.spQ (fun hc => ?_) (fun hc => ?_) <;> try exact prA)
       | fail)
      all_goals try (first | exact WPq.dTp | exact WPq.dTs | exact WPq.dV | exact WPq.dR | exact WPq.dR2 | exact WPq.dH | exact WPq.dBH | exact WPq.dT)
    · by_cases h17 : h.proto.toNat = 17
      · have h0 : sgE0 h b = udpE h b := by unfold sgE0; rw [if_neg h6, if_pos h17]
        rw [h0] at he ⊢
        have ht := udp_no h vb b hl he
        refine Triple.enter Try.func41 rfl Try.ntmps41 rfl (fun W => ?_)
        dsimp only [argsF, Nat.reduceAdd]
        repeat' (first
         | refine WPl.nil ?_ | refine WPq.then ?_ | refine WPq.thenR ?_ | refine WPq.thenE ?_ | refine WPq.blockN ?_ | refine WPq.blockR ?_ | refine WPq.blockE ?_ | refine WPq.blockO rfl ?_ | refine WPc.seq ?_ | refine WPc.block ?_ | refine WPc.ret ?_ | refine WPc.exit ?_ | refine WPc.skip ?_ | refine WPc.region ?_
         | (refine isCond ?_; first | refine WPc.cT ?_ | refine WPc.cF ?_ | (refine WPc.cQ (fun hc => ?_) (fun hc => ?_) <;> try exact prA))
         | (refine isC 21 ?_; refine WPl.cV (ht) ?_)
         | (refine isOp ?_; first | refine WPl.rd ?_ | refine WPl.sk ?_ | refine WPl.rdB ?_)
         | (refine isAl ?_; refine WPl.nw fun g => ?_)
         | (refine isBx ?_; refine WPl.nw fun g => ?_)
         | (refine isSt ?_; first | refine WPl.st1 ?_ | refine WPl.stA ?_ | refine WPl.stEB ?_ | refine WPl.stRB ?_)
         | (show WPl _ _ _ _ _ _ _ (⟨_, .indexAddr _ _ _, _, _, _, _⟩ :: _) _; refine WPl.rdX (ReadR.indexE rfl rfl hasA (by first | assumption | omega)) ?_)
         | (show WPl _ _ _ _ _ _ _ (⟨_, .fieldAddr _ _ _, _, _, _, _⟩ :: _) _; refine WPl.rdX (ReadR.fieldE rfl hasA (by first | assumption | omega)) ?_)
         | (show WPl _ _ _ _ _ _ _ (⟨_, .load _ _, _, _, _, _⟩ :: _) _; first | refine WPl.rdX (ReadR.loadE rfl hasA (by assumption)) ?_ | refine WPl.rdX (ReadR.loadES (by assumption) (by first | assumption | omega) rfl hasA) ?_)
         | (show WPl _ _ _ _ _ _ _ (⟨_, .slice _ _ _ _ _, _, _, _, _⟩ :: _) _; first | refine WPl.rdX (ReadR.sliceH rfl rfl hasA (by omega)) ?_ | refine WPl.rdX (ReadR.sliceL rfl rfl hasA (by omega)) ?_ | refine WPl.rdX (ReadR.sliceLH rfl rfl rfl hasA (by omega) (by omega)) ?_)
         | (refine WPl.spQ (fun hc => ?_) (fun hc => ?_) <;> try exact prA)
         | fail)
        all_goals try (first | exact WPq.dTp | exact WPq.dTs | exact WPq.dV | exact WPq.dR | exact WPq.dR2 | exact WPq.dH | exact WPq.dBH | exact WPq.dT)
      · have h0 : sgE0 h b = 6 := by unfold sgE0; rw [if_neg h6, if_neg h17]
        rw [h0]
        refine Triple.enter Try.func41 rfl Try.ntmps41 rfl (fun W => ?_)
        dsimp only [argsF, Nat.reduceAdd]
        repeat' (first
         | refine WPl.nil ?_ | refine WPq.then ?_ | refine WPq.thenR ?_ | refine WPq.thenE ?_ | refine WPq.blockN ?_ | refine WPq.blockR ?_ | refine WPq.blockE ?_ | refine WPq.blockO rfl ?_ | refine WPc.seq ?_ | refine WPc.block ?_ | refine WPc.ret ?_ | refine WPc.exit ?_ | refine WPc.skip ?_ | refine WPc.region ?_
         | (refine isCond ?_; first | refine WPc.cT ?_ | refine WPc.cF ?_ | (refine WPc.cQ (fun hc => ?_) (fun hc => ?_) <;> try exact prA))
         | (refine isOp ?_; first | refine WPl.rd ?_ | refine WPl.sk ?_ | refine WPl.rdB ?_)
         | (refine isAl ?_; refine WPl.nw fun g => ?_)
         | (refine isBx ?_; refine WPl.nw fun g => ?_)
         | (refine isSt ?_; first | refine WPl.st1 ?_ | refine WPl.stA ?_ | refine WPl.stEB ?_ | refine WPl.stRB ?_)
         | (show WPl _ _ _ _ _ _ _ (⟨_, .indexAddr _ _ _, _, _, _, _⟩ :: _) _; refine WPl.rdX (ReadR.indexE rfl rfl hasA (by first | assumption | omega)) ?_)
         | (show WPl _ _ _ _ _ _ _ (⟨_, .fieldAddr _ _ _, _, _, _, _⟩ :: _) _; refine WPl.rdX (ReadR.fieldE rfl hasA (by first | assumption | omega)) ?_)
         | (show WPl _ _ _ _ _ _ _ (⟨_, .load _ _, _, _, _, _⟩ :: _) _; first | refine WPl.rdX (ReadR.loadE rfl hasA (by assumption)) ?_ | refine WPl.rdX (ReadR.loadES (by assumption) (by first | assumption | omega) rfl hasA) ?_)
         | (show WPl _ _ _ _ _ _ _ (⟨_, .slice _ _ _ _ _, _, _, _, _⟩ :: _) _; first | refine WPl.rdX (ReadR.sliceH rfl rfl hasA (by omega)) ?_ | refine WPl.rdX (ReadR.sliceL rfl rfl hasA (by omega)) ?_ | refine WPl.rdX (ReadR.sliceLH rfl rfl rfl hasA (by omega) (by omega)) ?_)
         | (refine WPl.spQ (fun hc => ?_) (fun hc => ?_) <;> try exact prA)
         | fail)
        all_goals try (first | exact WPq.dTp | exact WPq.dTs | exact WPq.dV | exact WPq.dR | exact WPq.dR2 | exact WPq.dH | exact WPq.dBH | exact WPq.dT)
end Go.Proofs.Ytjfhiifpnpokpaa
/- Layer 17 (nat): plain facts: a segment whose port, address or sum is laid anew. -/
namespace Go.Proofs.Ytjfhiifpnpokpaa
open Go.RowKit
set_option linter.unusedSimpArgs false
set_option linter.unusedVariables false
set_option maxRecDepth 20000
set_option maxHeartbeats 4000000
attribute [local irreducible] WPc WPl WPq ReadR OpT BinR HasS bx rdN rowN Take Takes Prov Triple ResF BuildP Done ag Int.decLt Int.decLe Int.instDecidableEq

theorem sg_frame {h h' : Hd} {S S' : List UInt8} (he : sgE h S = 0) (hp : h'.proto = h.proto) (h6 : h'.six = h.six) (hl : S'.length = S.length)
    (hT : h.proto.toNat = 6 → (byteN S' 12 = byteN S 12 ∧ S'.getD 13 0 = S.getD 13 0 ∧ sgood h' S' = true))
    (hU : h.proto.toNat = 17 → (seg S' 4 2 = seg S 4 2 ∧ (val (seg S' 6 2) = 0 ↔ val (seg S 6 2) = 0) ∧ (val (seg S 6 2) ≠ 0 → sgood h' S' = true)))
    (hz : pz S' = false) :
    sgE h' S' = 0 ∧ sgR h' S' = { sgR h S with src := val (seg S' 0 2), dst := val (seg S' 2 2) } := by
  have he0 : sgE0 h S = 0 := by
    apply Classical.byContradiction
    intro hn
    unfold sgE at he
    rw [if_neg hn] at he
    exact hn he
  have h1 : sgE0 h' S' = 0 ∧ ∀ x y : Nat, (⟨x, y, (sg0 h' S').flags, (sg0 h' S').sumAt, (sg0 h' S').zero, (sg0 h' S').data⟩ : Sg) = ⟨x, y, (sg0 h S).flags, (sg0 h S).sumAt, (sg0 h S).zero, (sg0 h S).data⟩ := by
    unfold sgE0 at he0 ⊢
    unfold sg0
    rw [hp]
    by_cases p6 : h.proto.toNat = 6
    · obtain ⟨t1, t2, t3⟩ := hT p6
      rw [if_pos p6] at he0 ⊢
      obtain ⟨u1, u2, u3, u4⟩ := tcpE_zero he0
      have tn : tN S' = tN S := by unfold tN; rw [t1]
      refine ⟨?_, ?_⟩
      · unfold tcpE
        rw [hl, tn, t3, if_neg (by omega), if_neg (by omega), if_neg (by omega), if_neg (by decide)]
      · intro x y
        rw [if_pos p6, if_pos p6]
        unfold tcpS
        simp only
        rw [t2, tn]
    · rw [if_neg p6] at he0 ⊢
      by_cases p17 : h.proto.toNat = 17
      · obtain ⟨t1, t2, t3⟩ := hU p17
        rw [if_pos p17] at he0 ⊢
        refine ⟨?_, ?_⟩
        · have he1 := he0
          unfold udpE at he1 ⊢
          rw [hl, t1, h6]
          by_cases q1 : S.length < 8
          · rw [if_pos q1] at he1; cases he1
          rw [if_neg q1] at he1 ⊢
          by_cases q2 : val (seg S 4 2) < 8
          · rw [if_pos q2] at he1; cases he1
          rw [if_neg q2] at he1 ⊢
          by_cases q3 : S.length < val (seg S 4 2)
          · rw [if_pos q3] at he1; cases he1
          rw [if_neg q3] at he1 ⊢
          by_cases q4 : val (seg S 4 2) < S.length
          · rw [if_pos q4] at he1; cases he1
          rw [if_neg q4] at he1 ⊢
          by_cases q5 : val (seg S 6 2) = 0
          · have q6 : val (seg S' 6 2) = 0 := t2.mpr q5
            by_cases q7 : h.six = true
            · rw [if_pos ⟨q5, q7⟩] at he1; cases he1
            · rw [if_neg (fun hh : val (seg S' 6 2) = 0 ∧ h.six = true => q7 hh.2), if_neg (fun hh : ¬ val (seg S' 6 2) = 0 ∧ sgood h' S' = false => hh.1 q6)]
          · have q6 : ¬ val (seg S' 6 2) = 0 := fun hh => q5 (t2.mp hh)
            rw [if_neg (fun hh : val (seg S' 6 2) = 0 ∧ h.six = true => q6 hh.1), t3 q5, if_neg (fun hh => by cases hh.2)]
        · intro x y
          rw [if_neg p6, if_neg p6]
          unfold udpS
          simp only
          rw [show decide (val (seg S' 6 2) = 0) = decide (val (seg S 6 2) = 0) from decide_eq_decide.mpr t2]
      · rw [if_neg p17] at he0; cases he0
  have e1 : sgE h' S' = 0 := by unfold sgE; rw [if_pos h1.1, hz]; rfl
  refine ⟨e1, ?_⟩
  unfold sgR
  rw [if_pos e1, if_pos he]
  exact h1.2 _ _

/-- A pseudo head's sum of words: its addresses' and what is not theirs. -/
def psr (h : Hd) (n : Nat) : Nat := if h.six then wsum true (be n 4 ++ nbs [0, 0, 0, (h.proto.toNat : Nat)]) else wsum true (nbs [0, (h.proto.toNat : Nat)] ++ be n 2)
theorem abytes_even (a : Adr) : a.bytes.length % 2 = 0 := by rw [a.bytes_len]; split <;> rfl
theorem psu_even' (h : Hd) (n : Nat) : (psu h n).length % 2 = 0 := by
  have a1 := abytes_even h.src
  have a2 := abytes_even h.dst
  unfold psu
  split <;> simp [be_length, nbs] <;> omega
theorem wsum_psu (h : Hd) (n : Nat) : wsum true (psu h n) = wsum true h.src.bytes + wsum true h.dst.bytes + psr h n := by
  have a1 := abytes_even h.src
  have a2 := abytes_even h.dst
  unfold psu psr
  split
  · rw [List.append_assoc, wsum_ev _ _ (by simp; omega)]; simp only [List.flatten_cons, List.flatten_nil, List.append_nil]; rw [wsum_ev _ _ a1]
  · rw [List.append_assoc, wsum_ev _ _ (by simp; omega)]; simp only [List.flatten_cons, List.flatten_nil, List.append_nil]; rw [wsum_ev _ _ a1]
theorem sgood_iff (h : Hd) (S : List UInt8) : sgood h S = true ↔ (wsum true (psu h S.length) + wsum true S) % 65535 = 0 ∧ wsum true (psu h S.length) + wsum true S ≠ 0 := by
  unfold sgood
  rw [decide_eq_true_iff, csum_zero, wsum_ev _ _ (psu_even' h _)]
theorem psr_pos {h : Hd} (hp : h.proto.toNat ≠ 0) (n : Nat) : psr h n ≠ 0 := by
  have hb := be_length n 4
  have hp2 := h.proto.toNat_lt
  unfold psr
  split
  · rw [wsum_ev _ _ (by rw [hb])]
    simp [nbs, wsum, u8_of]
    omega
  · rw [wsum_ev _ _ (by simp [nbs])]
    simp [nbs, wsum, u8_of]
    omega

theorem val_le2 {b : List UInt8} {j : Nat} (h : j + 2 ≤ b.length) : val (seg b j 2) ≤ 65535 := by
  have h1 := val_seg2 h
  have h2 := byteN_lt b j
  have h3 := byteN_lt b (j + 1)
  omega
/-- Another address: the sum is changed, the segment stays good. -/
theorem sgood_addr {h h' : Hd} {S : List UInt8} {j n : Nat} {o a : Adr} (hp : h'.proto = h.proto) (h6 : h'.six = h.six) (h0 : h.proto.toNat ≠ 0)
    (hs : (h.src = o ∧ h'.src = a ∧ h'.dst = h.dst) ∨ (h.dst = o ∧ h'.dst = a ∧ h'.src = h.src)) (hl : o.bytes.length = a.bytes.length)
    (hg : sgood h S = true) (hj : j % 2 = 0) (hj2 : j + 2 ≤ S.length) (hn : n ≤ 65535) (hm : n % 65535 = chg (val (seg S j 2)) o.bytes a.bytes % 65535) :
    sgood h' (lay S j (twoB n)) = true := by
  have t2 : (twoB n).length = 2 := rfl
  rw [sgood_iff] at hg ⊢
  rw [lay_length (by rw [t2]; exact hj2)]
  have w1 := wsum_lay (l := S) (y := twoB n) (k := j) (by rw [t2]; exact hj2) hj (by rw [t2])
  rw [t2, seg_twoB hj2, wsum_two' (val_le2 hj2), wsum_two' hn] at w1
  have c1 := chg_mod (s := val (seg S j 2)) (o := o.bytes) (y := a.bytes) (val_le2 hj2) hl (abytes_even o)
  have r1 := psr_pos h0 S.length
  have r2 : psr h' S.length = psr h S.length := by unfold psr; rw [h6, hp]
  have w2 : wsum true (psu h' S.length) + wsum true o.bytes = wsum true (psu h S.length) + wsum true a.bytes := by
    rw [wsum_psu, wsum_psu, r2]
    rcases hs with ⟨e1, e2, e3⟩ | ⟨e1, e2, e3⟩
    · rw [e1, e2, e3]; omega
    · rw [e1, e2, e3]; omega
  have w3 := wsum_psu h' S.length
  rw [r2] at w3
  generalize wsum true (psu h' S.length) = P' at *
  generalize wsum true (psu h S.length) = P0 at *
  generalize wsum true (lay S j (twoB n)) = W' at *
  generalize wsum true S = W at *
  generalize chg (val (seg S j 2)) o.bytes a.bytes = C at *
  generalize wsum true o.bytes = O at *
  generalize wsum true a.bytes = A at *
  generalize val (seg S j 2) = s at *
  generalize psr h S.length = R at *
  obtain ⟨g1, g2⟩ := hg
  refine ⟨?_, by omega⟩
  omega
/-- Another port: the sum is changed, the segment stays good. -/
theorem sgood_port {h : Hd} {S y : List UInt8} {k j n : Nat} (h0 : h.proto.toNat ≠ 0) (hk : k % 2 = 0) (hy : y.length = 2) (hk2 : k + 2 ≤ j)
    (hg : sgood h S = true) (hj : j % 2 = 0) (hj2 : j + 2 ≤ S.length) (hn : n ≤ 65535) (hm : n % 65535 = chg (val (seg S j 2)) (seg S k 2) y % 65535) :
    sgood h (lay (lay S k y) j (twoB n)) = true := by
  have t2 : (twoB n).length = 2 := rfl
  have L1 : k + y.length ≤ S.length := by omega
  rw [sgood_iff] at hg ⊢
  rw [lay_length (by rw [lay_length L1, t2]; exact hj2), lay_length L1]
  have g := lay_good (l := S) (y := y) (k := k) (j := j) (s := val (seg S j 2)) (n := n) hk hj (by omega) L1 hj2 (by omega) (seg_twoB hj2) (val_le2 hj2) hn (by rw [hy]; exact hm)
  have r1 := psr_pos h0 S.length
  have w3 := wsum_psu h S.length
  generalize wsum true (psu h S.length) = P0 at *
  generalize wsum true (lay (lay S k y) j (twoB n)) = W' at *
  generalize wsum true S = W at *
  omega

end Go.Proofs.Ytjfhiifpnpokpaa
