/- What the row of natRewrites_holds needs: part 12. -/
import Derived.Test.YtjfhiifpnpokpaaNrw9
import Derived.Test.YtjfhiifpnpokpaaNrw11
/- Layer 17 (nat): the statement's own helpers. -/
namespace Go.Proofs.Ytjfhiifpnpokpaa
open Go.RowKit
set_option linter.unusedSimpArgs false
set_option linter.unusedVariables false
set_option maxRecDepth 20000
set_option maxHeartbeats 4000000
attribute [local irreducible] WPc WPl WPq ReadR OpT BinR HasS bx rdN rowN Take Takes Prov Triple ResF BuildP Done ag Int.decLt Int.decLe Int.instDecidableEq

theorem nqF {a b : Int} (h : a = b) : Value.bool (!decide (a = b)) = .bool false := by rw [decide_eq_true h]; rfl
theorem nqT {a b : Int} (h : ¬ a = b) : Value.bool (!decide (a = b)) = .bool true := by rw [decide_eq_false h]; rfl
theorem same_t (v1 v2 : Value) (x y : List UInt8) (P : Pk) (k j : Nat) (hx : P.hd.pos = (k : Int)) (hy : P.sg.sumAt = (j : Int)) (hl : x.length = y.length) (hb : x.length ≤ 100000) (hkj : k + j ≤ 100000)
    (he : ∀ i, i < x.length → i ≠ 10 → i ≠ 11 → i ≠ k + j → i ≠ k + j + 1 → x.getD i 0 = y.getD i 0) (h6 : P.hd.six = true ∨ 12 < k) :
    Triple Try.prog 10 #[v1, v2, ag (pkc P)] [rb v1 x, rb v2 y] (RVal (.bool true)) := by
  have ls := P.hd.src.len
  have ld := P.hd.dst.len
  have lf1 := P.fl.src.len
  have lf2 := P.fl.dst.len
  obtain ⟨q, hq⟩ : ∃ q, q = k + j := ⟨_, rfl⟩
  refine Triple.enter Try.func10 rfl Try.ntmps10 rfl (fun W => ?_)
  dsimp only [argsF, Nat.reduceAdd]
  repeat' (first
   | refine WPl.nil ?_ | refine WPq.then ?_ | refine WPq.thenR ?_ | refine WPq.thenE ?_ | refine WPq.blockN ?_ | refine WPq.blockR ?_ | refine WPq.blockE ?_ | refine WPq.blockO rfl ?_ | refine WPc.seq ?_ | refine WPc.block ?_ | refine WPc.ret ?_ | refine WPc.exit ?_ | refine WPc.skip ?_ | refine WPc.region ?_
   | (refine isCond ?_; first | refine WPc.cT ?_ | refine WPc.cF ?_ | (refine WPc.cQ (fun hc => ?_) (fun hc => ?_) <;> try exact prA))
   | (refine isD 13 ?_; refine WPl.rdX (ReadR.binE rfl rfl BinR.neq (nqF (by omega))) ?_)
   | (refine isD 20 ?_; refine WPl.rdX (ReadR.binE rfl rfl (BinR.addI (by omega) (by omega)) (congrArg (Value.int .i64) (show P.hd.pos + P.sg.sumAt = ((q : Nat) : Int) by omega))) ?_)
   | (refine isOp ?_; first | refine WPl.rd ?_ | refine WPl.sk ?_ | refine WPl.rdB ?_)
   | (refine isBx ?_; refine WPl.nw fun g => ?_)
   | (show WPl _ _ _ _ _ _ _ (⟨_, .indexAddr _ _ _, _, _, _, _⟩ :: _) _; refine WPl.rdX (ReadR.indexE rfl rfl hasA (by first | assumption | omega)) ?_)
   | (show WPl _ _ _ _ _ _ _ (⟨_, .fieldAddr _ _ _, _, _, _, _⟩ :: _) _; refine WPl.rdX (ReadR.fieldE rfl hasA (by first | assumption | omega)) ?_)
   | (show WPl _ _ _ _ _ _ _ (⟨_, .load _ _, _, _, _, _⟩ :: _) _; first | refine WPl.rdX (ReadR.loadE rfl hasA (by assumption)) ?_ | refine WPl.rdX (ReadR.loadES (by assumption) (by first | assumption | omega) rfl hasA) ?_)
   | (show WPl _ _ _ _ _ _ _ (⟨_, .slice _ _ _ _ _, _, _, _, _⟩ :: _) _; first | refine WPl.rdX (ReadR.sliceH rfl rfl hasA (by omega)) ?_ | refine WPl.rdX (ReadR.sliceL rfl rfl hasA (by omega)) ?_ | refine WPl.rdX (ReadR.sliceLH rfl rfl rfl hasA (by omega) (by omega)) ?_)
   | (refine WPl.spQ (fun hc => ?_) (fun hc => ?_) <;> try exact prA)
   | fail)
  first | refine WPc.loop (σ := Nat) (fun i => i ≤ x.length) (fun i => [rb v1 x, rb v2 y, bx g 39 (pkc P)]) (fun i => [(0, v1), (1, v2), (5, .pointer (some ⟨g, 0, none⟩)), (6, .bool false), (7, .int .i64 (q : Int)), (8, .int .i64 (i : Int))]) (fun i => x.length - i) (0) ?_ takesA frsA (fun st km hx hk => ?_)
  · omega
  obtain ⟨i, rfl⟩ : ∃ i, i = st := ⟨_, rfl⟩
  by_cases hlt : i < x.length
  · have hlt2 : i < y.length := by omega
    have b1 := (x.getD i 0).toNat_lt
    have b2 := (y.getD i 0).toNat_lt
    by_cases ha : x.getD i 0 = y.getD i 0
    · have ha' : (((x.getD i 0).toNat : Nat) : Int) = (((y.getD i 0).toNat : Nat) : Int) := by rw [ha]
      repeat' (first
       | refine WPl.nil ?_ | refine WPq.then ?_ | refine WPq.thenR ?_ | refine WPq.thenE ?_ | refine WPq.blockN ?_ | refine WPq.blockR ?_ | refine WPq.blockE ?_ | refine WPq.blockO rfl ?_ | refine WPc.seq ?_ | refine WPc.block ?_ | refine WPc.ret ?_ | refine WPc.exit ?_ | refine WPc.skip ?_ | refine WPc.region ?_
       | (refine isReg 7 ?_; refine WPc.drA [([], [28, 31, 32, 33, 34]), ([], [27, 31, 32, 33, 34]), ([0, 1], [27, 28, 31, 32, 33, 34]), ([0, 1, 2], [27, 28, 29, 31, 32, 33, 34]), ([], [27, 28, 29, 30, 32]), ([], [27, 28, 29, 30, 31]), ([4, 5], [27, 28, 29, 30, 31, 32]), ([4, 5, 6], [27, 28, 29, 30, 31, 32, 33]), ([0, 1, 2, 3, 4, 5, 6, 7], [27, 28, 29, 30, 31, 32, 33, 34]), ([0, 1, 2, 3, 4, 5, 6, 7, 8], [27, 28, 29, 30, 31, 32, 33, 34, 35]), ([0, 1, 2, 3, 4, 5, 6, 7, 8, 9], [27, 28, 29, 30, 31, 32, 33, 34, 35, 36, 38]), ([0, 1, 2, 3, 4, 5, 6, 7, 8, 9], [27, 28, 29, 30, 31, 32, 33, 34, 35, 36, 37]), ([0, 1, 2, 3, 4, 5, 6, 7, 8, 9, 10, 11], [27, 28, 29, 30, 31, 32, 33, 34, 35, 36, 37, 38]), ([0, 1, 2, 3, 4, 5, 6, 7, 8, 9, 10, 11, 12], [27, 28, 29, 30, 31, 32, 33, 34, 35, 36, 37, 38, 39]), ([0, 1, 2, 3, 4, 5, 6, 7, 8, 9, 10, 11, 12, 13], [27, 28, 29, 30, 31, 32, 33, 34, 35, 36, 37, 38, 39, 40]), ([0, 1, 2, 3, 4, 5, 6, 7, 8, 9, 10, 11, 12, 13, 14], [27, 28, 29, 30, 31, 32, 33, 34, 35, 36, 37, 38, 39, 40, 41, 43, 44]), ([0, 1, 2, 3, 4, 5, 6, 7, 8, 9, 10, 11, 12, 13, 14], [27, 28, 29, 30, 31, 32, 33, 34, 35, 36, 37, 38, 39, 40, 41, 42]), ([0, 1, 2, 3, 4, 5, 6, 7, 8, 9, 10, 11, 12, 13, 14, 16], [27, 28, 29, 30, 31, 32, 33, 34, 35, 36, 37, 38, 39, 40, 41, 42, 43]), ([0, 1, 2, 3, 4, 5, 6, 7, 8, 9, 10, 11, 12, 13, 14, 15, 16, 17], [27, 28, 29, 30, 31, 32, 33, 34, 35, 36, 37, 38, 39, 40, 41, 42, 43, 44]), ([0, 1, 2, 3, 4, 5, 6, 7, 8, 9, 10, 11, 12, 13, 14, 15, 16, 17, 18], [27, 28, 29, 30, 31, 32, 33, 34, 35, 36, 37, 38, 39, 40, 41, 42, 43, 44, 45]), ([0, 1, 2, 3, 4, 5, 6, 7, 8, 9, 10, 11, 12, 13, 14, 15, 16, 17, 18, 19], [27, 28, 29, 30, 31, 32, 33, 34, 35, 36, 37, 38, 39, 40, 41, 42, 43, 44, 45, 46]), ([0, 1, 2, 3, 4, 5, 6, 7, 8, 9, 10, 11, 12, 13, 14, 15, 16, 17, 18, 19, 20], [27, 28, 29, 30, 31, 32, 33, 34, 35, 36, 37, 38, 39, 40, 41, 42, 43, 44, 45, 46, 47]), ([0, 1, 2, 3, 4, 5, 6, 7, 8, 9, 10, 11, 12, 13, 14, 15, 16, 17, 18, 19, 20, 21], [27, 28, 29, 30, 31, 32, 33, 34, 35, 36, 37, 38, 39, 40, 41, 42, 43, 44, 45, 46, 47, 48]), ([0, 1, 2, 3, 4, 5, 6, 7, 8, 9, 10, 11, 12, 13, 14, 15, 16, 17, 18, 19, 20, 21, 22], [27, 28, 29, 30, 31, 32, 33, 34, 35, 36, 37, 38, 39, 40, 41, 42, 43, 44, 45, 46, 47, 48, 49]), ([0, 1, 2, 3, 4, 5, 6, 7, 8, 9, 10, 11, 12, 13, 14, 15, 16, 17, 18, 19, 20, 21, 22, 23], [27, 28, 29, 30, 31, 32, 33, 34, 35, 36, 37, 38, 39, 40, 41, 42, 43, 44, 45, 46, 47, 48, 49, 50]), ([0, 1, 2, 3, 4, 5, 6, 7, 8, 9, 10, 11, 12, 13, 14, 15, 16, 17, 18, 19, 20, 21, 22, 23, 24], [27, 28, 29, 30, 31, 32, 33, 34, 35, 36, 37, 38, 39, 40, 41, 42, 43, 44, 45, 46, 47, 48, 49, 50, 51]), ([0, 1, 2, 3, 4, 5, 6, 7, 8, 9, 10, 11, 12, 13, 14, 15, 16, 17, 18, 19, 20, 21, 22, 23, 24, 25], [27, 28, 29, 30, 31, 32, 33, 34, 35, 36, 37, 38, 39, 40, 41, 42, 43, 44, 45, 46, 47, 48, 49, 50, 51, 52]), ([0, 1, 2, 3, 4, 5, 6, 7, 8, 9, 10, 11, 12, 13, 14, 15, 16, 17, 18, 19, 20, 21, 22, 23, 24, 25, 26], [27, 28, 29, 30, 31, 32, 33, 34, 35, 36, 37, 38, 39, 40, 41, 42, 43, 44, 45, 46, 47, 48, 49, 50, 51, 52, 53])] [] (Γx := []) ?_; dsimp only [prev0, List.length_nil, List.length_cons])
       | (refine gAny ?_; first | (refine gGd ?_; refine RGl.skp ?_) | (refine gD 35 ?_; refine RGl.rdX (fun e hk => by (try dsimp only [bndR, ensR, oksR, fcutR, List.append_nil, List.nil_append, List.cons_append, List.append_assoc] at hk ⊢); exact ReadR.binE rfl rfl BinR.neq (nqF ha')) ?_) | (refine gOp ?_; first | refine RGl.rdA ?_ | refine RGl.rdX (fun e hk => by (try dsimp only [bndR, ensR, oksR, fcutR, List.append_nil, List.nil_append, List.cons_append, List.append_assoc] at hk ⊢); exact readB) ?_) | (refine RGl.fin (fun e hk => ?_); (try dsimp only [bndA, ensAR, oksA, List.append_nil, List.nil_append, List.cons_append, List.append_assoc] at hk ⊢); (repeat (obtain ⟨hk1, hk⟩ := hk))) | fail)
       | (refine isCond ?_; first | refine WPc.cT ?_ | refine WPc.cF ?_ | (refine WPc.cQ (fun hc => ?_) (fun hc => ?_) <;> try exact prA))
       | (refine isOp ?_; first | refine WPl.rd ?_ | refine WPl.sk ?_ | refine WPl.rdB ?_)
       | (refine isBx ?_; refine WPl.nw fun g => ?_)
       | (show WPl _ _ _ _ _ _ _ (⟨_, .indexAddr _ _ _, _, _, _, _⟩ :: _) _; refine WPl.rdX (ReadR.indexE rfl rfl hasA (by first | assumption | omega)) ?_)
       | (show WPl _ _ _ _ _ _ _ (⟨_, .fieldAddr _ _ _, _, _, _, _⟩ :: _) _; refine WPl.rdX (ReadR.fieldE rfl hasA (by first | assumption | omega)) ?_)
       | (show WPl _ _ _ _ _ _ _ (⟨_, .load _ _, _, _, _, _⟩ :: _) _; first | refine WPl.rdX (ReadR.loadE rfl hasA (by assumption)) ?_ | refine WPl.rdX (ReadR.loadES (by assumption) (by first | assumption | omega) rfl hasA) ?_)
       | (show WPl _ _ _ _ _ _ _ (⟨_, .slice _ _ _ _ _, _, _, _, _⟩ :: _) _; first | refine WPl.rdX (ReadR.sliceH rfl rfl hasA (by omega)) ?_ | refine WPl.rdX (ReadR.sliceL rfl rfl hasA (by omega)) ?_ | refine WPl.rdX (ReadR.sliceLH rfl rfl rfl hasA (by omega) (by omega)) ?_)
       | (refine WPl.spQ (fun hc => ?_) (fun hc => ?_) <;> try exact prA)
       | fail)
      exact WPq.rnd (i + 1) (by show i + 1 ≤ x.length; omega) (by show x.length - (i + 1) < x.length - i; omega)
    · have ha' : ¬ (((x.getD i 0).toNat : Nat) : Int) = (((y.getD i 0).toNat : Nat) : Int) := fun h => ha (UInt8.toNat_inj.mp (by omega))
      by_cases hc1 : i = q
      · skip
        repeat' (first
         | refine WPl.nil ?_ | refine WPq.then ?_ | refine WPq.thenR ?_ | refine WPq.thenE ?_ | refine WPq.blockN ?_ | refine WPq.blockR ?_ | refine WPq.blockE ?_ | refine WPq.blockO rfl ?_ | refine WPc.seq ?_ | refine WPc.block ?_ | refine WPc.ret ?_ | refine WPc.exit ?_ | refine WPc.skip ?_ | refine WPc.region ?_
         | (refine isReg 7 ?_; refine WPc.drA [([], [28, 31, 32, 33, 34]), ([], [27, 31, 32, 33, 34]), ([0, 1], [27, 28, 31, 32, 33, 34]), ([0, 1, 2], [27, 28, 29, 31, 32, 33, 34]), ([], [27, 28, 29, 30, 32]), ([], [27, 28, 29, 30, 31]), ([4, 5], [27, 28, 29, 30, 31, 32]), ([4, 5, 6], [27, 28, 29, 30, 31, 32, 33]), ([0, 1, 2, 3, 4, 5, 6, 7], [27, 28, 29, 30, 31, 32, 33, 34]), ([0, 1, 2, 3, 4, 5, 6, 7, 8], [27, 28, 29, 30, 31, 32, 33, 34, 35]), ([0, 1, 2, 3, 4, 5, 6, 7, 8, 9], [27, 28, 29, 30, 31, 32, 33, 34, 35, 36, 38]), ([0, 1, 2, 3, 4, 5, 6, 7, 8, 9], [27, 28, 29, 30, 31, 32, 33, 34, 35, 36, 37]), ([0, 1, 2, 3, 4, 5, 6, 7, 8, 9, 10, 11], [27, 28, 29, 30, 31, 32, 33, 34, 35, 36, 37, 38]), ([0, 1, 2, 3, 4, 5, 6, 7, 8, 9, 10, 11, 12], [27, 28, 29, 30, 31, 32, 33, 34, 35, 36, 37, 38, 39]), ([0, 1, 2, 3, 4, 5, 6, 7, 8, 9, 10, 11, 12, 13], [27, 28, 29, 30, 31, 32, 33, 34, 35, 36, 37, 38, 39, 40]), ([0, 1, 2, 3, 4, 5, 6, 7, 8, 9, 10, 11, 12, 13, 14], [27, 28, 29, 30, 31, 32, 33, 34, 35, 36, 37, 38, 39, 40, 41, 43, 44]), ([0, 1, 2, 3, 4, 5, 6, 7, 8, 9, 10, 11, 12, 13, 14], [27, 28, 29, 30, 31, 32, 33, 34, 35, 36, 37, 38, 39, 40, 41, 42]), ([0, 1, 2, 3, 4, 5, 6, 7, 8, 9, 10, 11, 12, 13, 14, 16], [27, 28, 29, 30, 31, 32, 33, 34, 35, 36, 37, 38, 39, 40, 41, 42, 43]), ([0, 1, 2, 3, 4, 5, 6, 7, 8, 9, 10, 11, 12, 13, 14, 15, 16, 17], [27, 28, 29, 30, 31, 32, 33, 34, 35, 36, 37, 38, 39, 40, 41, 42, 43, 44]), ([0, 1, 2, 3, 4, 5, 6, 7, 8, 9, 10, 11, 12, 13, 14, 15, 16, 17, 18], [27, 28, 29, 30, 31, 32, 33, 34, 35, 36, 37, 38, 39, 40, 41, 42, 43, 44, 45]), ([0, 1, 2, 3, 4, 5, 6, 7, 8, 9, 10, 11, 12, 13, 14, 15, 16, 17, 18, 19], [27, 28, 29, 30, 31, 32, 33, 34, 35, 36, 37, 38, 39, 40, 41, 42, 43, 44, 45, 46]), ([0, 1, 2, 3, 4, 5, 6, 7, 8, 9, 10, 11, 12, 13, 14, 15, 16, 17, 18, 19, 20], [27, 28, 29, 30, 31, 32, 33, 34, 35, 36, 37, 38, 39, 40, 41, 42, 43, 44, 45, 46, 47]), ([0, 1, 2, 3, 4, 5, 6, 7, 8, 9, 10, 11, 12, 13, 14, 15, 16, 17, 18, 19, 20, 21], [27, 28, 29, 30, 31, 32, 33, 34, 35, 36, 37, 38, 39, 40, 41, 42, 43, 44, 45, 46, 47, 48]), ([0, 1, 2, 3, 4, 5, 6, 7, 8, 9, 10, 11, 12, 13, 14, 15, 16, 17, 18, 19, 20, 21, 22], [27, 28, 29, 30, 31, 32, 33, 34, 35, 36, 37, 38, 39, 40, 41, 42, 43, 44, 45, 46, 47, 48, 49]), ([0, 1, 2, 3, 4, 5, 6, 7, 8, 9, 10, 11, 12, 13, 14, 15, 16, 17, 18, 19, 20, 21, 22, 23], [27, 28, 29, 30, 31, 32, 33, 34, 35, 36, 37, 38, 39, 40, 41, 42, 43, 44, 45, 46, 47, 48, 49, 50]), ([0, 1, 2, 3, 4, 5, 6, 7, 8, 9, 10, 11, 12, 13, 14, 15, 16, 17, 18, 19, 20, 21, 22, 23, 24], [27, 28, 29, 30, 31, 32, 33, 34, 35, 36, 37, 38, 39, 40, 41, 42, 43, 44, 45, 46, 47, 48, 49, 50, 51]), ([0, 1, 2, 3, 4, 5, 6, 7, 8, 9, 10, 11, 12, 13, 14, 15, 16, 17, 18, 19, 20, 21, 22, 23, 24, 25], [27, 28, 29, 30, 31, 32, 33, 34, 35, 36, 37, 38, 39, 40, 41, 42, 43, 44, 45, 46, 47, 48, 49, 50, 51, 52]), ([0, 1, 2, 3, 4, 5, 6, 7, 8, 9, 10, 11, 12, 13, 14, 15, 16, 17, 18, 19, 20, 21, 22, 23, 24, 25, 26], [27, 28, 29, 30, 31, 32, 33, 34, 35, 36, 37, 38, 39, 40, 41, 42, 43, 44, 45, 46, 47, 48, 49, 50, 51, 52, 53])] [] (Γx := []) ?_; dsimp only [prev0, List.length_nil, List.length_cons])
         | (refine gAny ?_; first | (refine gGd ?_; refine RGl.skp ?_) | (refine gD 35 ?_; refine RGl.rdX (fun e hk => by (try dsimp only [bndR, ensR, oksR, fcutR, List.append_nil, List.nil_append, List.cons_append, List.append_assoc] at hk ⊢); exact ReadR.binE rfl rfl BinR.neq (nqT ha')) ?_) | (refine gD 39 ?_; refine RGl.rdX (fun e hk => by (try dsimp only [bndR, ensR, oksR, fcutR, List.append_nil, List.nil_append, List.cons_append, List.append_assoc] at hk ⊢); exact ReadR.binE rfl rfl BinR.neq (nqF (by omega))) ?_) | (refine gOp ?_; first | refine RGl.rdA ?_ | refine RGl.rdX (fun e hk => by (try dsimp only [bndR, ensR, oksR, fcutR, List.append_nil, List.nil_append, List.cons_append, List.append_assoc] at hk ⊢); exact readB) ?_) | (refine RGl.fin (fun e hk => ?_); (try dsimp only [bndA, ensAR, oksA, List.append_nil, List.nil_append, List.cons_append, List.append_assoc] at hk ⊢); (repeat (obtain ⟨hk1, hk⟩ := hk))) | fail)
         | (refine isCond ?_; first | refine WPc.cT ?_ | refine WPc.cF ?_ | (refine WPc.cQ (fun hc => ?_) (fun hc => ?_) <;> try exact prA))
         | (refine isOp ?_; first | refine WPl.rd ?_ | refine WPl.sk ?_ | refine WPl.rdB ?_)
         | (refine isBx ?_; refine WPl.nw fun g => ?_)
         | (show WPl _ _ _ _ _ _ _ (⟨_, .indexAddr _ _ _, _, _, _, _⟩ :: _) _; refine WPl.rdX (ReadR.indexE rfl rfl hasA (by first | assumption | omega)) ?_)
         | (show WPl _ _ _ _ _ _ _ (⟨_, .fieldAddr _ _ _, _, _, _, _⟩ :: _) _; refine WPl.rdX (ReadR.fieldE rfl hasA (by first | assumption | omega)) ?_)
         | (show WPl _ _ _ _ _ _ _ (⟨_, .load _ _, _, _, _, _⟩ :: _) _; first | refine WPl.rdX (ReadR.loadE rfl hasA (by assumption)) ?_ | refine WPl.rdX (ReadR.loadES (by assumption) (by first | assumption | omega) rfl hasA) ?_)
         | (show WPl _ _ _ _ _ _ _ (⟨_, .slice _ _ _ _ _, _, _, _, _⟩ :: _) _; first | refine WPl.rdX (ReadR.sliceH rfl rfl hasA (by omega)) ?_ | refine WPl.rdX (ReadR.sliceL rfl rfl hasA (by omega)) ?_ | refine WPl.rdX (ReadR.sliceLH rfl rfl rfl hasA (by omega) (by omega)) ?_)
         | (refine WPl.spQ (fun hc => ?_) (fun hc => ?_) <;> try exact prA)
         | fail)
        exact WPq.rnd (i + 1) (by show i + 1 ≤ x.length; omega) (by show x.length - (i + 1) < x.length - i; omega)
      · by_cases hc2 : i = q + 1
        · skip
          repeat' (first
           | refine WPl.nil ?_ | refine WPq.then ?_ | refine WPq.thenR ?_ | refine WPq.thenE ?_ | refine WPq.blockN ?_ | refine WPq.blockR ?_ | refine WPq.blockE ?_ | refine WPq.blockO rfl ?_ | refine WPc.seq ?_ | refine WPc.block ?_ | refine WPc.ret ?_ | refine WPc.exit ?_ | refine WPc.skip ?_ | refine WPc.region ?_
           | (refine isReg 7 ?_; refine WPc.drA [([], [28, 31, 32, 33, 34]), ([], [27, 31, 32, 33, 34]), ([0, 1], [27, 28, 31, 32, 33, 34]), ([0, 1, 2], [27, 28, 29, 31, 32, 33, 34]), ([], [27, 28, 29, 30, 32]), ([], [27, 28, 29, 30, 31]), ([4, 5], [27, 28, 29, 30, 31, 32]), ([4, 5, 6], [27, 28, 29, 30, 31, 32, 33]), ([0, 1, 2, 3, 4, 5, 6, 7], [27, 28, 29, 30, 31, 32, 33, 34]), ([0, 1, 2, 3, 4, 5, 6, 7, 8], [27, 28, 29, 30, 31, 32, 33, 34, 35]), ([0, 1, 2, 3, 4, 5, 6, 7, 8, 9], [27, 28, 29, 30, 31, 32, 33, 34, 35, 36, 38]), ([0, 1, 2, 3, 4, 5, 6, 7, 8, 9], [27, 28, 29, 30, 31, 32, 33, 34, 35, 36, 37]), ([0, 1, 2, 3, 4, 5, 6, 7, 8, 9, 10, 11], [27, 28, 29, 30, 31, 32, 33, 34, 35, 36, 37, 38]), ([0, 1, 2, 3, 4, 5, 6, 7, 8, 9, 10, 11, 12], [27, 28, 29, 30, 31, 32, 33, 34, 35, 36, 37, 38, 39]), ([0, 1, 2, 3, 4, 5, 6, 7, 8, 9, 10, 11, 12, 13], [27, 28, 29, 30, 31, 32, 33, 34, 35, 36, 37, 38, 39, 40]), ([0, 1, 2, 3, 4, 5, 6, 7, 8, 9, 10, 11, 12, 13, 14], [27, 28, 29, 30, 31, 32, 33, 34, 35, 36, 37, 38, 39, 40, 41, 43, 44]), ([0, 1, 2, 3, 4, 5, 6, 7, 8, 9, 10, 11, 12, 13, 14], [27, 28, 29, 30, 31, 32, 33, 34, 35, 36, 37, 38, 39, 40, 41, 42]), ([0, 1, 2, 3, 4, 5, 6, 7, 8, 9, 10, 11, 12, 13, 14, 16], [27, 28, 29, 30, 31, 32, 33, 34, 35, 36, 37, 38, 39, 40, 41, 42, 43]), ([0, 1, 2, 3, 4, 5, 6, 7, 8, 9, 10, 11, 12, 13, 14, 15, 16, 17], [27, 28, 29, 30, 31, 32, 33, 34, 35, 36, 37, 38, 39, 40, 41, 42, 43, 44]), ([0, 1, 2, 3, 4, 5, 6, 7, 8, 9, 10, 11, 12, 13, 14, 15, 16, 17, 18], [27, 28, 29, 30, 31, 32, 33, 34, 35, 36, 37, 38, 39, 40, 41, 42, 43, 44, 45]), ([0, 1, 2, 3, 4, 5, 6, 7, 8, 9, 10, 11, 12, 13, 14, 15, 16, 17, 18, 19], [27, 28, 29, 30, 31, 32, 33, 34, 35, 36, 37, 38, 39, 40, 41, 42, 43, 44, 45, 46]), ([0, 1, 2, 3, 4, 5, 6, 7, 8, 9, 10, 11, 12, 13, 14, 15, 16, 17, 18, 19, 20], [27, 28, 29, 30, 31, 32, 33, 34, 35, 36, 37, 38, 39, 40, 41, 42, 43, 44, 45, 46, 47]), ([0, 1, 2, 3, 4, 5, 6, 7, 8, 9, 10, 11, 12, 13, 14, 15, 16, 17, 18, 19, 20, 21], [27, 28, 29, 30, 31, 32, 33, 34, 35, 36, 37, 38, 39, 40, 41, 42, 43, 44, 45, 46, 47, 48]), ([0, 1, 2, 3, 4, 5, 6, 7, 8, 9, 10, 11, 12, 13, 14, 15, 16, 17, 18, 19, 20, 21, 22], [27, 28, 29, 30, 31, 32, 33, 34, 35, 36, 37, 38, 39, 40, 41, 42, 43, 44, 45, 46, 47, 48, 49]), ([0, 1, 2, 3, 4, 5, 6, 7, 8, 9, 10, 11, 12, 13, 14, 15, 16, 17, 18, 19, 20, 21, 22, 23], [27, 28, 29, 30, 31, 32, 33, 34, 35, 36, 37, 38, 39, 40, 41, 42, 43, 44, 45, 46, 47, 48, 49, 50]), ([0, 1, 2, 3, 4, 5, 6, 7, 8, 9, 10, 11, 12, 13, 14, 15, 16, 17, 18, 19, 20, 21, 22, 23, 24], [27, 28, 29, 30, 31, 32, 33, 34, 35, 36, 37, 38, 39, 40, 41, 42, 43, 44, 45, 46, 47, 48, 49, 50, 51]), ([0, 1, 2, 3, 4, 5, 6, 7, 8, 9, 10, 11, 12, 13, 14, 15, 16, 17, 18, 19, 20, 21, 22, 23, 24, 25], [27, 28, 29, 30, 31, 32, 33, 34, 35, 36, 37, 38, 39, 40, 41, 42, 43, 44, 45, 46, 47, 48, 49, 50, 51, 52]), ([0, 1, 2, 3, 4, 5, 6, 7, 8, 9, 10, 11, 12, 13, 14, 15, 16, 17, 18, 19, 20, 21, 22, 23, 24, 25, 26], [27, 28, 29, 30, 31, 32, 33, 34, 35, 36, 37, 38, 39, 40, 41, 42, 43, 44, 45, 46, 47, 48, 49, 50, 51, 52, 53])] [] (Γx := []) ?_; dsimp only [prev0, List.length_nil, List.length_cons])
           | (refine gAny ?_; first | (refine gGd ?_; refine RGl.skp ?_) | (refine gD 35 ?_; refine RGl.rdX (fun e hk => by (try dsimp only [bndR, ensR, oksR, fcutR, List.append_nil, List.nil_append, List.cons_append, List.append_assoc] at hk ⊢); exact ReadR.binE rfl rfl BinR.neq (nqT ha')) ?_) | (refine gD 39 ?_; refine RGl.rdX (fun e hk => by (try dsimp only [bndR, ensR, oksR, fcutR, List.append_nil, List.nil_append, List.cons_append, List.append_assoc] at hk ⊢); exact ReadR.binE rfl rfl BinR.neq (nqT (by omega))) ?_) | (refine gD 45 ?_; refine RGl.rdX (fun e hk => by (try dsimp only [bndR, ensR, oksR, fcutR, List.append_nil, List.nil_append, List.cons_append, List.append_assoc] at hk ⊢); exact ReadR.binE rfl rfl BinR.neq (nqF (by omega))) ?_) | (refine gOp ?_; first | refine RGl.rdA ?_ | refine RGl.rdX (fun e hk => by (try dsimp only [bndR, ensR, oksR, fcutR, List.append_nil, List.nil_append, List.cons_append, List.append_assoc] at hk ⊢); exact readB) ?_) | (refine RGl.fin (fun e hk => ?_); (try dsimp only [bndA, ensAR, oksA, List.append_nil, List.nil_append, List.cons_append, List.append_assoc] at hk ⊢); (repeat (obtain ⟨hk1, hk⟩ := hk))) | fail)
           | (refine isCond ?_; first | refine WPc.cT ?_ | refine WPc.cF ?_ | (refine WPc.cQ (fun hc => ?_) (fun hc => ?_) <;> try exact prA))
           | (refine isOp ?_; first | refine WPl.rd ?_ | refine WPl.sk ?_ | refine WPl.rdB ?_)
           | (refine isBx ?_; refine WPl.nw fun g => ?_)
           | (show WPl _ _ _ _ _ _ _ (⟨_, .indexAddr _ _ _, _, _, _, _⟩ :: _) _; refine WPl.rdX (ReadR.indexE rfl rfl hasA (by first | assumption | omega)) ?_)
           | (show WPl _ _ _ _ _ _ _ (⟨_, .fieldAddr _ _ _, _, _, _, _⟩ :: _) _; refine WPl.rdX (ReadR.fieldE rfl hasA (by first | assumption | omega)) ?_)
           | (show WPl _ _ _ _ _ _ _ (⟨_, .load _ _, _, _, _, _⟩ :: _) _; first | refine WPl.rdX (ReadR.loadE rfl hasA (by assumption)) ?_ | refine WPl.rdX (ReadR.loadES (by assumption) (by first | assumption | omega) rfl hasA) ?_)
           | (show WPl _ _ _ _ _ _ _ (⟨_, .slice _ _ _ _ _, _, _, _, _⟩ :: _) _; first | refine WPl.rdX (ReadR.sliceH rfl rfl hasA (by omega)) ?_ | refine WPl.rdX (ReadR.sliceL rfl rfl hasA (by omega)) ?_ | refine WPl.rdX (ReadR.sliceLH rfl rfl rfl hasA (by omega) (by omega)) ?_)
           | (refine WPl.spQ (fun hc => ?_) (fun hc => ?_) <;> try exact prA)
           | fail)
          exact WPq.rnd (i + 1) (by show i + 1 ≤ x.length; omega) (by show x.length - (i + 1) < x.length - i; omega)
        · by_cases hc3 : i = 10
          · skip
            repeat' (first
             | refine WPl.nil ?_ | refine WPq.then ?_ | refine WPq.thenR ?_ | refine WPq.thenE ?_ | refine WPq.blockN ?_ | refine WPq.blockR ?_ | refine WPq.blockE ?_ | refine WPq.blockO rfl ?_ | refine WPc.seq ?_ | refine WPc.block ?_ | refine WPc.ret ?_ | refine WPc.exit ?_ | refine WPc.skip ?_ | refine WPc.region ?_
             | (refine isReg 7 ?_; refine WPc.drA [([], [28, 31, 32, 33, 34]), ([], [27, 31, 32, 33, 34]), ([0, 1], [27, 28, 31, 32, 33, 34]), ([0, 1, 2], [27, 28, 29, 31, 32, 33, 34]), ([], [27, 28, 29, 30, 32]), ([], [27, 28, 29, 30, 31]), ([4, 5], [27, 28, 29, 30, 31, 32]), ([4, 5, 6], [27, 28, 29, 30, 31, 32, 33]), ([0, 1, 2, 3, 4, 5, 6, 7], [27, 28, 29, 30, 31, 32, 33, 34]), ([0, 1, 2, 3, 4, 5, 6, 7, 8], [27, 28, 29, 30, 31, 32, 33, 34, 35]), ([0, 1, 2, 3, 4, 5, 6, 7, 8, 9], [27, 28, 29, 30, 31, 32, 33, 34, 35, 36, 38]), ([0, 1, 2, 3, 4, 5, 6, 7, 8, 9], [27, 28, 29, 30, 31, 32, 33, 34, 35, 36, 37]), ([0, 1, 2, 3, 4, 5, 6, 7, 8, 9, 10, 11], [27, 28, 29, 30, 31, 32, 33, 34, 35, 36, 37, 38]), ([0, 1, 2, 3, 4, 5, 6, 7, 8, 9, 10, 11, 12], [27, 28, 29, 30, 31, 32, 33, 34, 35, 36, 37, 38, 39]), ([0, 1, 2, 3, 4, 5, 6, 7, 8, 9, 10, 11, 12, 13], [27, 28, 29, 30, 31, 32, 33, 34, 35, 36, 37, 38, 39, 40]), ([0, 1, 2, 3, 4, 5, 6, 7, 8, 9, 10, 11, 12, 13, 14], [27, 28, 29, 30, 31, 32, 33, 34, 35, 36, 37, 38, 39, 40, 41, 43, 44]), ([0, 1, 2, 3, 4, 5, 6, 7, 8, 9, 10, 11, 12, 13, 14], [27, 28, 29, 30, 31, 32, 33, 34, 35, 36, 37, 38, 39, 40, 41, 42]), ([0, 1, 2, 3, 4, 5, 6, 7, 8, 9, 10, 11, 12, 13, 14, 16], [27, 28, 29, 30, 31, 32, 33, 34, 35, 36, 37, 38, 39, 40, 41, 42, 43]), ([0, 1, 2, 3, 4, 5, 6, 7, 8, 9, 10, 11, 12, 13, 14, 15, 16, 17], [27, 28, 29, 30, 31, 32, 33, 34, 35, 36, 37, 38, 39, 40, 41, 42, 43, 44]), ([0, 1, 2, 3, 4, 5, 6, 7, 8, 9, 10, 11, 12, 13, 14, 15, 16, 17, 18], [27, 28, 29, 30, 31, 32, 33, 34, 35, 36, 37, 38, 39, 40, 41, 42, 43, 44, 45]), ([0, 1, 2, 3, 4, 5, 6, 7, 8, 9, 10, 11, 12, 13, 14, 15, 16, 17, 18, 19], [27, 28, 29, 30, 31, 32, 33, 34, 35, 36, 37, 38, 39, 40, 41, 42, 43, 44, 45, 46]), ([0, 1, 2, 3, 4, 5, 6, 7, 8, 9, 10, 11, 12, 13, 14, 15, 16, 17, 18, 19, 20], [27, 28, 29, 30, 31, 32, 33, 34, 35, 36, 37, 38, 39, 40, 41, 42, 43, 44, 45, 46, 47]), ([0, 1, 2, 3, 4, 5, 6, 7, 8, 9, 10, 11, 12, 13, 14, 15, 16, 17, 18, 19, 20, 21], [27, 28, 29, 30, 31, 32, 33, 34, 35, 36, 37, 38, 39, 40, 41, 42, 43, 44, 45, 46, 47, 48]), ([0, 1, 2, 3, 4, 5, 6, 7, 8, 9, 10, 11, 12, 13, 14, 15, 16, 17, 18, 19, 20, 21, 22], [27, 28, 29, 30, 31, 32, 33, 34, 35, 36, 37, 38, 39, 40, 41, 42, 43, 44, 45, 46, 47, 48, 49]), ([0, 1, 2, 3, 4, 5, 6, 7, 8, 9, 10, 11, 12, 13, 14, 15, 16, 17, 18, 19, 20, 21, 22, 23], [27, 28, 29, 30, 31, 32, 33, 34, 35, 36, 37, 38, 39, 40, 41, 42, 43, 44, 45, 46, 47, 48, 49, 50]), ([0, 1, 2, 3, 4, 5, 6, 7, 8, 9, 10, 11, 12, 13, 14, 15, 16, 17, 18, 19, 20, 21, 22, 23, 24], [27, 28, 29, 30, 31, 32, 33, 34, 35, 36, 37, 38, 39, 40, 41, 42, 43, 44, 45, 46, 47, 48, 49, 50, 51]), ([0, 1, 2, 3, 4, 5, 6, 7, 8, 9, 10, 11, 12, 13, 14, 15, 16, 17, 18, 19, 20, 21, 22, 23, 24, 25], [27, 28, 29, 30, 31, 32, 33, 34, 35, 36, 37, 38, 39, 40, 41, 42, 43, 44, 45, 46, 47, 48, 49, 50, 51, 52]), ([0, 1, 2, 3, 4, 5, 6, 7, 8, 9, 10, 11, 12, 13, 14, 15, 16, 17, 18, 19, 20, 21, 22, 23, 24, 25, 26], [27, 28, 29, 30, 31, 32, 33, 34, 35, 36, 37, 38, 39, 40, 41, 42, 43, 44, 45, 46, 47, 48, 49, 50, 51, 52, 53])] [] (Γx := []) ?_; dsimp only [prev0, List.length_nil, List.length_cons])
             | (refine gAny ?_; first | (refine gGd ?_; refine RGl.skp ?_) | (refine gD 35 ?_; refine RGl.rdX (fun e hk => by (try dsimp only [bndR, ensR, oksR, fcutR, List.append_nil, List.nil_append, List.cons_append, List.append_assoc] at hk ⊢); exact ReadR.binE rfl rfl BinR.neq (nqT ha')) ?_) | (refine gD 39 ?_; refine RGl.rdX (fun e hk => by (try dsimp only [bndR, ensR, oksR, fcutR, List.append_nil, List.nil_append, List.cons_append, List.append_assoc] at hk ⊢); exact ReadR.binE rfl rfl BinR.neq (nqT (by omega))) ?_) | (refine gD 45 ?_; refine RGl.rdX (fun e hk => by (try dsimp only [bndR, ensR, oksR, fcutR, List.append_nil, List.nil_append, List.cons_append, List.append_assoc] at hk ⊢); exact ReadR.binE rfl rfl BinR.neq (nqT (by omega))) ?_) | (refine gD 49 ?_; refine RGl.rdX (fun e hk => by (try dsimp only [bndR, ensR, oksR, fcutR, List.append_nil, List.nil_append, List.cons_append, List.append_assoc] at hk ⊢); exact ReadR.binE rfl rfl BinR.neq (nqF (by omega))) ?_) | (refine gOp ?_; first | refine RGl.rdA ?_ | refine RGl.rdX (fun e hk => by (try dsimp only [bndR, ensR, oksR, fcutR, List.append_nil, List.nil_append, List.cons_append, List.append_assoc] at hk ⊢); exact readB) ?_) | (refine RGl.fin (fun e hk => ?_); (try dsimp only [bndA, ensAR, oksA, List.append_nil, List.nil_append, List.cons_append, List.append_assoc] at hk ⊢); (repeat (obtain ⟨hk1, hk⟩ := hk))) | fail)
             | (refine isCond ?_; first | refine WPc.cT ?_ | refine WPc.cF ?_ | (refine WPc.cQ (fun hc => ?_) (fun hc => ?_) <;> try exact prA))
             | (refine isOp ?_; first | refine WPl.rd ?_ | refine WPl.sk ?_ | refine WPl.rdB ?_)
             | (refine isBx ?_; refine WPl.nw fun g => ?_)
             | (show WPl _ _ _ _ _ _ _ (⟨_, .indexAddr _ _ _, _, _, _, _⟩ :: _) _; refine WPl.rdX (ReadR.indexE rfl rfl hasA (by first | assumption | omega)) ?_)
             | (show WPl _ _ _ _ _ _ _ (⟨_, .fieldAddr _ _ _, _, _, _, _⟩ :: _) _; refine WPl.rdX (ReadR.fieldE rfl hasA (by first | assumption | omega)) ?_)
             | (show WPl _ _ _ _ _ _ _ (⟨_, .load _ _, _, _, _, _⟩ :: _) _; first | refine WPl.rdX (ReadR.loadE rfl hasA (by assumption)) ?_ | refine WPl.rdX (ReadR.loadES (by assumption) (by first | assumption | omega) rfl hasA) ?_)
             | (show WPl _ _ _ _ _ _ _ (⟨_, .slice _ _ _ _ _, _, _, _, _⟩ :: _) _; first | refine WPl.rdX (ReadR.sliceH rfl rfl hasA (by omega)) ?_ | refine WPl.rdX (ReadR.sliceL rfl rfl hasA (by omega)) ?_ | refine WPl.rdX (ReadR.sliceLH rfl rfl rfl hasA (by omega) (by omega)) ?_)
             | (refine WPl.spQ (fun hc => ?_) (fun hc => ?_) <;> try exact prA)
             | fail)
            exact WPq.rnd (i + 1) (by show i + 1 ≤ x.length; omega) (by show x.length - (i + 1) < x.length - i; omega)
          · have hc4 : i = 11 := by
              apply Classical.byContradiction
              intro h
              exact ha (he i hlt hc3 h (by omega) (by omega))
            repeat' (first
             | refine WPl.nil ?_ | refine WPq.then ?_ | refine WPq.thenR ?_ | refine WPq.thenE ?_ | refine WPq.blockN ?_ | refine WPq.blockR ?_ | refine WPq.blockE ?_ | refine WPq.blockO rfl ?_ | refine WPc.seq ?_ | refine WPc.block ?_ | refine WPc.ret ?_ | refine WPc.exit ?_ | refine WPc.skip ?_ | refine WPc.region ?_
             | (refine isReg 7 ?_; refine WPc.drA [([], [28, 31, 32, 33, 34]), ([], [27, 31, 32, 33, 34]), ([0, 1], [27, 28, 31, 32, 33, 34]), ([0, 1, 2], [27, 28, 29, 31, 32, 33, 34]), ([], [27, 28, 29, 30, 32]), ([], [27, 28, 29, 30, 31]), ([4, 5], [27, 28, 29, 30, 31, 32]), ([4, 5, 6], [27, 28, 29, 30, 31, 32, 33]), ([0, 1, 2, 3, 4, 5, 6, 7], [27, 28, 29, 30, 31, 32, 33, 34]), ([0, 1, 2, 3, 4, 5, 6, 7, 8], [27, 28, 29, 30, 31, 32, 33, 34, 35]), ([0, 1, 2, 3, 4, 5, 6, 7, 8, 9], [27, 28, 29, 30, 31, 32, 33, 34, 35, 36, 38]), ([0, 1, 2, 3, 4, 5, 6, 7, 8, 9], [27, 28, 29, 30, 31, 32, 33, 34, 35, 36, 37]), ([0, 1, 2, 3, 4, 5, 6, 7, 8, 9, 10, 11], [27, 28, 29, 30, 31, 32, 33, 34, 35, 36, 37, 38]), ([0, 1, 2, 3, 4, 5, 6, 7, 8, 9, 10, 11, 12], [27, 28, 29, 30, 31, 32, 33, 34, 35, 36, 37, 38, 39]), ([0, 1, 2, 3, 4, 5, 6, 7, 8, 9, 10, 11, 12, 13], [27, 28, 29, 30, 31, 32, 33, 34, 35, 36, 37, 38, 39, 40]), ([0, 1, 2, 3, 4, 5, 6, 7, 8, 9, 10, 11, 12, 13, 14], [27, 28, 29, 30, 31, 32, 33, 34, 35, 36, 37, 38, 39, 40, 41, 43, 44]), ([0, 1, 2, 3, 4, 5, 6, 7, 8, 9, 10, 11, 12, 13, 14], [27, 28, 29, 30, 31, 32, 33, 34, 35, 36, 37, 38, 39, 40, 41, 42]), ([0, 1, 2, 3, 4, 5, 6, 7, 8, 9, 10, 11, 12, 13, 14, 16], [27, 28, 29, 30, 31, 32, 33, 34, 35, 36, 37, 38, 39, 40, 41, 42, 43]), ([0, 1, 2, 3, 4, 5, 6, 7, 8, 9, 10, 11, 12, 13, 14, 15, 16, 17], [27, 28, 29, 30, 31, 32, 33, 34, 35, 36, 37, 38, 39, 40, 41, 42, 43, 44]), ([0, 1, 2, 3, 4, 5, 6, 7, 8, 9, 10, 11, 12, 13, 14, 15, 16, 17, 18], [27, 28, 29, 30, 31, 32, 33, 34, 35, 36, 37, 38, 39, 40, 41, 42, 43, 44, 45]), ([0, 1, 2, 3, 4, 5, 6, 7, 8, 9, 10, 11, 12, 13, 14, 15, 16, 17, 18, 19], [27, 28, 29, 30, 31, 32, 33, 34, 35, 36, 37, 38, 39, 40, 41, 42, 43, 44, 45, 46]), ([0, 1, 2, 3, 4, 5, 6, 7, 8, 9, 10, 11, 12, 13, 14, 15, 16, 17, 18, 19, 20], [27, 28, 29, 30, 31, 32, 33, 34, 35, 36, 37, 38, 39, 40, 41, 42, 43, 44, 45, 46, 47]), ([0, 1, 2, 3, 4, 5, 6, 7, 8, 9, 10, 11, 12, 13, 14, 15, 16, 17, 18, 19, 20, 21], [27, 28, 29, 30, 31, 32, 33, 34, 35, 36, 37, 38, 39, 40, 41, 42, 43, 44, 45, 46, 47, 48]), ([0, 1, 2, 3, 4, 5, 6, 7, 8, 9, 10, 11, 12, 13, 14, 15, 16, 17, 18, 19, 20, 21, 22], [27, 28, 29, 30, 31, 32, 33, 34, 35, 36, 37, 38, 39, 40, 41, 42, 43, 44, 45, 46, 47, 48, 49]), ([0, 1, 2, 3, 4, 5, 6, 7, 8, 9, 10, 11, 12, 13, 14, 15, 16, 17, 18, 19, 20, 21, 22, 23], [27, 28, 29, 30, 31, 32, 33, 34, 35, 36, 37, 38, 39, 40, 41, 42, 43, 44, 45, 46, 47, 48, 49, 50]), ([0, 1, 2, 3, 4, 5, 6, 7, 8, 9, 10, 11, 12, 13, 14, 15, 16, 17, 18, 19, 20, 21, 22, 23, 24], [27, 28, 29, 30, 31, 32, 33, 34, 35, 36, 37, 38, 39, 40, 41, 42, 43, 44, 45, 46, 47, 48, 49, 50, 51]), ([0, 1, 2, 3, 4, 5, 6, 7, 8, 9, 10, 11, 12, 13, 14, 15, 16, 17, 18, 19, 20, 21, 22, 23, 24, 25], [27, 28, 29, 30, 31, 32, 33, 34, 35, 36, 37, 38, 39, 40, 41, 42, 43, 44, 45, 46, 47, 48, 49, 50, 51, 52]), ([0, 1, 2, 3, 4, 5, 6, 7, 8, 9, 10, 11, 12, 13, 14, 15, 16, 17, 18, 19, 20, 21, 22, 23, 24, 25, 26], [27, 28, 29, 30, 31, 32, 33, 34, 35, 36, 37, 38, 39, 40, 41, 42, 43, 44, 45, 46, 47, 48, 49, 50, 51, 52, 53])] [] (Γx := []) ?_; dsimp only [prev0, List.length_nil, List.length_cons])
             | (refine gAny ?_; first | (refine gGd ?_; refine RGl.skp ?_) | (refine gD 35 ?_; refine RGl.rdX (fun e hk => by (try dsimp only [bndR, ensR, oksR, fcutR, List.append_nil, List.nil_append, List.cons_append, List.append_assoc] at hk ⊢); exact ReadR.binE rfl rfl BinR.neq (nqT ha')) ?_) | (refine gD 39 ?_; refine RGl.rdX (fun e hk => by (try dsimp only [bndR, ensR, oksR, fcutR, List.append_nil, List.nil_append, List.cons_append, List.append_assoc] at hk ⊢); exact ReadR.binE rfl rfl BinR.neq (nqT (by omega))) ?_) | (refine gD 45 ?_; refine RGl.rdX (fun e hk => by (try dsimp only [bndR, ensR, oksR, fcutR, List.append_nil, List.nil_append, List.cons_append, List.append_assoc] at hk ⊢); exact ReadR.binE rfl rfl BinR.neq (nqT (by omega))) ?_) | (refine gD 49 ?_; refine RGl.rdX (fun e hk => by (try dsimp only [bndR, ensR, oksR, fcutR, List.append_nil, List.nil_append, List.cons_append, List.append_assoc] at hk ⊢); exact ReadR.binE rfl rfl BinR.neq (nqT (by omega))) ?_) | (refine gD 53 ?_; refine RGl.rdX (fun e hk => by (try dsimp only [bndR, ensR, oksR, fcutR, List.append_nil, List.nil_append, List.cons_append, List.append_assoc] at hk ⊢); exact ReadR.binE rfl rfl BinR.neq (nqF (by omega))) ?_) | (refine gOp ?_; first | refine RGl.rdA ?_ | refine RGl.rdX (fun e hk => by (try dsimp only [bndR, ensR, oksR, fcutR, List.append_nil, List.nil_append, List.cons_append, List.append_assoc] at hk ⊢); exact readB) ?_) | (refine RGl.fin (fun e hk => ?_); (try dsimp only [bndA, ensAR, oksA, List.append_nil, List.nil_append, List.cons_append, List.append_assoc] at hk ⊢); (repeat (obtain ⟨hk1, hk⟩ := hk))) | fail)
             | (refine isCond ?_; first | refine WPc.cT ?_ | refine WPc.cF ?_ | (refine WPc.cQ (fun hc => ?_) (fun hc => ?_) <;> try exact prA))
             | (refine isOp ?_; first | refine WPl.rd ?_ | refine WPl.sk ?_ | refine WPl.rdB ?_)
             | (refine isBx ?_; refine WPl.nw fun g => ?_)
             | (show WPl _ _ _ _ _ _ _ (⟨_, .indexAddr _ _ _, _, _, _, _⟩ :: _) _; refine WPl.rdX (ReadR.indexE rfl rfl hasA (by first | assumption | omega)) ?_)
             | (show WPl _ _ _ _ _ _ _ (⟨_, .fieldAddr _ _ _, _, _, _, _⟩ :: _) _; refine WPl.rdX (ReadR.fieldE rfl hasA (by first | assumption | omega)) ?_)
             | (show WPl _ _ _ _ _ _ _ (⟨_, .load _ _, _, _, _, _⟩ :: _) _; first | refine WPl.rdX (ReadR.loadE rfl hasA (by assumption)) ?_ | refine WPl.rdX (ReadR.loadES (by assumption) (by first | assumption | omega) rfl hasA) ?_)
             | (show WPl _ _ _ _ _ _ _ (⟨_, .slice _ _ _ _ _, _, _, _, _⟩ :: _) _; first | refine WPl.rdX (ReadR.sliceH rfl rfl hasA (by omega)) ?_ | refine WPl.rdX (ReadR.sliceL rfl rfl hasA (by omega)) ?_ | refine WPl.rdX (ReadR.sliceLH rfl rfl rfl hasA (by omega) (by omega)) ?_)
             | (refine WPl.spQ (fun hc => ?_) (fun hc => ?_) <;> try exact prA)
             | fail)
            exact WPq.rnd (i + 1) (by show i + 1 ≤ x.length; omega) (by show x.length - (i + 1) < x.length - i; omega)
  · cases hsx : P.hd.six with
    | true =>
      repeat' (first
       | refine WPl.nil ?_ | refine WPq.then ?_ | refine WPq.thenR ?_ | refine WPq.thenE ?_ | refine WPq.blockN ?_ | refine WPq.blockR ?_ | refine WPq.blockE ?_ | refine WPq.blockO rfl ?_ | refine WPc.seq ?_ | refine WPc.block ?_ | refine WPc.ret ?_ | refine WPc.exit ?_ | refine WPc.skip ?_ | refine WPc.region ?_
       | (refine isCond ?_; first | refine WPc.cT ?_ | refine WPc.cF ?_ | (refine WPc.cQ (fun hc => ?_) (fun hc => ?_) <;> try exact prA))
       | (refine isOp ?_; first | refine WPl.rd ?_ | refine WPl.sk ?_ | refine WPl.rdB ?_)
       | (refine isBx ?_; refine WPl.nw fun g => ?_)
       | (show WPl _ _ _ _ _ _ _ (⟨_, .indexAddr _ _ _, _, _, _, _⟩ :: _) _; refine WPl.rdX (ReadR.indexE rfl rfl hasA (by first | assumption | omega)) ?_)
       | (show WPl _ _ _ _ _ _ _ (⟨_, .fieldAddr _ _ _, _, _, _, _⟩ :: _) _; refine WPl.rdX (ReadR.fieldE rfl hasA (by first | assumption | omega)) ?_)
       | (show WPl _ _ _ _ _ _ _ (⟨_, .load _ _, _, _, _, _⟩ :: _) _; first | refine WPl.rdX (ReadR.loadE rfl hasA (by assumption)) ?_ | refine WPl.rdX (ReadR.loadES (by assumption) (by first | assumption | omega) rfl hasA) ?_)
       | (show WPl _ _ _ _ _ _ _ (⟨_, .slice _ _ _ _ _, _, _, _, _⟩ :: _) _; first | refine WPl.rdX (ReadR.sliceH rfl rfl hasA (by omega)) ?_ | refine WPl.rdX (ReadR.sliceL rfl rfl hasA (by omega)) ?_ | refine WPl.rdX (ReadR.sliceLH rfl rfl rfl hasA (by omega) (by omega)) ?_)
       | (refine WPl.spQ (fun hc => ?_) (fun hc => ?_) <;> try exact prA)
       | fail)
      all_goals try (first | exact WPq.dTp | exact WPq.dTs | exact WPq.dV | exact WPq.dR | exact WPq.dR2 | exact WPq.dH | exact WPq.dBH | exact WPq.dT)
    | false =>
      have h12 : 12 < k := by
        rcases h6 with h | h
        · rw [hsx] at h; cases h
        · exact h
      repeat' (first
       | refine WPl.nil ?_ | refine WPq.then ?_ | refine WPq.thenR ?_ | refine WPq.thenE ?_ | refine WPq.blockN ?_ | refine WPq.blockR ?_ | refine WPq.blockE ?_ | refine WPq.blockO rfl ?_ | refine WPc.seq ?_ | refine WPc.block ?_ | refine WPc.ret ?_ | refine WPc.exit ?_ | refine WPc.skip ?_ | refine WPc.region ?_
       | (refine isCond ?_; first | refine WPc.cT ?_ | refine WPc.cF ?_ | (refine WPc.cQ (fun hc => ?_) (fun hc => ?_) <;> try exact prA))
       | (refine isD 62 ?_; refine WPl.rdX (ReadR.binE rfl rfl BinR.gtr (congrArg Value.bool (decide_eq_true (show P.hd.pos > 12 by omega)))) ?_)
       | (refine isOp ?_; first | refine WPl.rd ?_ | refine WPl.sk ?_ | refine WPl.rdB ?_)
       | (refine isBx ?_; refine WPl.nw fun g => ?_)
       | (show WPl _ _ _ _ _ _ _ (⟨_, .indexAddr _ _ _, _, _, _, _⟩ :: _) _; refine WPl.rdX (ReadR.indexE rfl rfl hasA (by first | assumption | omega)) ?_)
       | (show WPl _ _ _ _ _ _ _ (⟨_, .fieldAddr _ _ _, _, _, _, _⟩ :: _) _; refine WPl.rdX (ReadR.fieldE rfl hasA (by first | assumption | omega)) ?_)
       | (show WPl _ _ _ _ _ _ _ (⟨_, .load _ _, _, _, _, _⟩ :: _) _; first | refine WPl.rdX (ReadR.loadE rfl hasA (by assumption)) ?_ | refine WPl.rdX (ReadR.loadES (by assumption) (by first | assumption | omega) rfl hasA) ?_)
       | (show WPl _ _ _ _ _ _ _ (⟨_, .slice _ _ _ _ _, _, _, _, _⟩ :: _) _; first | refine WPl.rdX (ReadR.sliceH rfl rfl hasA (by omega)) ?_ | refine WPl.rdX (ReadR.sliceL rfl rfl hasA (by omega)) ?_ | refine WPl.rdX (ReadR.sliceLH rfl rfl rfl hasA (by omega) (by omega)) ?_)
       | (refine WPl.spQ (fun hc => ?_) (fun hc => ?_) <;> try exact prA)
       | fail)
      all_goals try (first | exact WPq.dTp | exact WPq.dTs | exact WPq.dV | exact WPq.dR | exact WPq.dR2 | exact WPq.dH | exact WPq.dBH | exact WPq.dT)
/-! The statement's own packet: it is sent elsewhere. -/
theorem b16_eq : pbL f16 0 9 [7] = fpkt (pbH f16 9) (summ (pbH f16 9) (swU (pbS f16 0) [7]) 6) := by kernel_rfl
theorem b16_bad : fwBad (pbH f16 9) = false := by decide +kernel
theorem b16_bad2 : swBad (pbH f16 9) (pbS f16 0) = false := by decide +kernel
theorem b16_len : (summ (pbH f16 9) (swU (pbS f16 0) [7]) 6).length = 9 := by decide +kernel
def a17 : Adr := ⟨false, [0, 0, 0, 0, 0, 0, 0, 0, 0, 0, 0, 0, 10, 0, 0, 0], rfl⟩
theorem e17 : pkE (pbL f16 0 9 [7]) = 0 ∧ natE (pbL f16 0 9 [7]) a17 80 = 0 ∧ pkE (natL (pbL f16 0 9 [7]) 1 a17 80) = 0 := by decide +kernel
theorem q17 : (pkR (natL (pbL f16 0 9 [7]) 1 a17 80)).fl.dp = 80 ∧ (pkR (natL (pbL f16 0 9 [7]) 1 a17 80)).fl.dst.b.getD 12 0 = 10 := by decide +kernel
theorem n17_len : (natL (pbL f16 0 9 [7]) 1 a17 80).length = 29 := by decide +kernel
section
attribute [local irreducible] summ swU fpkt
theorem rbuild17_t (vd : Value) : Triple Try.prog 21 #[ag (flc f16), .int .u8 0, .int .u8 9, vd] [rb vd [7]] (RW (pbL f16 0 9 [7]) 0) := by
  have c1 := rswrite_t (pbH f16 9) (pbS f16 0) vd [7] (by decide) (by decide) (by decide) rfl b16_bad2 rfl
  have c2 := fun v => rfwrite_t (pbH f16 9) v (summ (pbH f16 9) (swU (pbS f16 0) [7]) 6) (by rw [b16_len]; decide) b16_bad
  rw [b16_eq]
  have l1 := f16.src.len
  have l2 := f16.dst.len
  generalize fpkt (pbH f16 9) (summ (pbH f16 9) (swU (pbS f16 0) [7]) 6) = L at c2 ⊢
  generalize summ (pbH f16 9) (swU (pbS f16 0) [7]) 6 = B at c1 c2
  unfold pbH pbS at *
  refine Triple.enter Try.func21 rfl Try.ntmps21 rfl (fun W => ?_)
  dsimp only [argsF, Nat.reduceAdd]
  repeat' (first
   | refine WPl.nil ?_ | refine WPq.then ?_ | refine WPq.thenR ?_ | refine WPq.thenE ?_ | refine WPq.blockN ?_ | refine WPq.blockR ?_ | refine WPq.blockE ?_ | refine WPq.blockO rfl ?_ | refine WPc.seq ?_ | refine WPc.block ?_ | refine WPc.ret ?_ | refine WPc.exit ?_ | refine WPc.skip ?_ | refine WPc.region ?_
   | (refine isCond ?_; first | refine WPc.cT ?_ | refine WPc.cF ?_ | (refine WPc.cQ (fun hc => ?_) (fun hc => ?_) <;> try exact prA))
   | (refine isC 33 ?_; refine WPl.cR2 (c1) fun v hv => ?_)
   | (refine isC 49 ?_; refine WPl.cR2 (c2 _) fun v hv => ?_)
   | (refine isOp ?_; first | refine WPl.rd ?_ | refine WPl.sk ?_ | refine WPl.rdB ?_)
   | (refine isAl ?_; refine WPl.nw fun g => ?_)
   | (refine isBx ?_; refine WPl.nw fun g => ?_)
   | (refine isSt ?_; first | refine WPl.st1 ?_ | refine WPl.stA ?_ | refine WPl.stEB ?_ | refine WPl.stRB ?_)
   | (show WPl _ _ _ _ _ _ _ (⟨_, .indexAddr _ _ _, _, _, _, _⟩ :: _) _; refine WPl.rdX (ReadR.indexE rfl rfl hasA (by first | assumption | omega)) ?_)
   | (show WPl _ _ _ _ _ _ _ (⟨_, .fieldAddr _ _ _, _, _, _, _⟩ :: _) _; refine WPl.rdX (ReadR.fieldE rfl hasA (by first | assumption | omega)) ?_)
   | (show WPl _ _ _ _ _ _ _ (⟨_, .load _ _, _, _, _, _⟩ :: _) _; first | refine WPl.rdX (ReadR.loadE rfl hasA (by assumption)) ?_ | refine WPl.rdX (ReadR.loadES (by assumption) (by first | assumption | omega) rfl hasA) ?_)
   | (show WPl _ _ _ _ _ _ _ (⟨_, .slice _ _ _ _ _, _, _, _, _⟩ :: _) _; first | refine WPl.rdX (ReadR.sliceH rfl rfl hasA (by omega)) ?_ | refine WPl.rdX (ReadR.sliceL rfl rfl hasA (by omega)) ?_ | refine WPl.rdX (ReadR.sliceLH rfl rfl rfl hasA (by omega) (by omega)) ?_)
   | (refine WPl.spQ (fun hc => ?_) (fun hc => ?_) <;> try exact prA)
   | fail)
  all_goals try (first | exact WPq.dTp | exact WPq.dTs | exact WPq.dV | exact WPq.dR | exact WPq.dR2 | exact WPq.dH | exact WPq.dBH | exact WPq.dT)
end
attribute [local irreducible] pbL pkR pkE natL natE
theorem lives17_t : Triple Try.prog 9 #[] [] (RVal (.bool true)) := by
  have hs := some_t
  have c1 := rbuild17_t
  obtain ⟨e1, e2, e3⟩ := e17
  obtain ⟨e4, e5⟩ := q17
  have n17 := n17_len
  have c2 := fun v => nto_t v (pbL f16 0 9 [7]) a17 80 (by decide) (by rw [h16_len]; decide)
  rw [e2] at c2
  have c3 := fun v => rparse_t v (natL (pbL f16 0 9 [7]) 1 a17 80) (by omega)
  simp only [pkVal] at c3
  rw [e3] at c3
  have k1 := f16.src.len
  have k2 := f16.dst.len
  generalize natL (pbL f16 0 9 [7]) 1 a17 80 = L at *
  generalize pbL f16 0 9 [7] = B at *
  obtain ⟨X, hX⟩ : ∃ X, X = pkR L := ⟨_, rfl⟩
  rw [← hX] at c3 e4 e5
  have k3 := X.hd.src.len
  have k4 := X.hd.dst.len
  have k5 := X.fl.src.len
  have k6 := X.fl.dst.len
  obtain ⟨H, S, ⟨s1, d1, sp, dp, pr⟩⟩ := X
  dsimp only at e4 e5 k3 k4 k5 k6
  subst e4
  refine Triple.enter Try.func9 rfl Try.ntmps9 rfl (fun W => ?_)
  dsimp only [argsF, Nat.reduceAdd]
  repeat' (first
   | refine WPl.nil ?_ | refine WPq.then ?_ | refine WPq.thenR ?_ | refine WPq.thenE ?_ | refine WPq.blockN ?_ | refine WPq.blockR ?_ | refine WPq.blockE ?_ | refine WPq.blockO rfl ?_ | refine WPc.seq ?_ | refine WPc.block ?_ | refine WPc.ret ?_ | refine WPc.exit ?_ | refine WPc.skip ?_ | refine WPc.region ?_
   | (refine isCond ?_; first | refine WPc.cT ?_ | refine WPc.cF ?_ | (refine WPc.cQ (fun hc => ?_) (fun hc => ?_) <;> try exact prA))
   | (refine isLit ?_; refine WPl.lit fun v hv => ?_)
   | (refine isC 8 ?_; refine WPl.cV (hs) ?_)
   | (refine isC 10 ?_; refine WPl.cR2 (c1 _) fun v hv => ?_)
   | (refine isD 16 ?_; refine WPl.rdX (ReadR.build (cs' := adc a17) buildA) ?_)
   | (refine isC 17 ?_; refine WPl.cR2 (c2 _) fun v hv => ?_)
   | (refine isC 22 ?_; refine WPl.cV (c3 _) ?_)
   | (show WPl _ _ _ _ _ _ _ (⟨_, .store 39 (.tmp 5) _, _, _, _, _⟩ :: _) _; refine WPl.stA (new := pkc ⟨H, S, ⟨s1, d1, sp, 80, pr⟩⟩) ?_ (ht := by kernel_rfl))
   | (refine isD 43 ?_; refine WPl.rdX (ReadR.binE rfl rfl BinR.eql (congrArg Value.bool (decide_eq_true (by rw [e5]; rfl)))) ?_)
   | (refine isOp ?_; first | refine WPl.rd ?_ | refine WPl.sk ?_ | refine WPl.rdB ?_)
   | (refine isAl ?_; refine WPl.nw fun g => ?_)
   | (refine isSt ?_; first | refine WPl.st1 ?_ | refine WPl.stA ?_ | refine WPl.stEB ?_ | refine WPl.stRB ?_)
   | (show WPl _ _ _ _ _ _ _ (⟨_, .indexAddr _ _ _, _, _, _, _⟩ :: _) _; refine WPl.rdX (ReadR.indexE rfl rfl hasA (by first | assumption | omega)) ?_)
   | (show WPl _ _ _ _ _ _ _ (⟨_, .fieldAddr _ _ _, _, _, _, _⟩ :: _) _; refine WPl.rdX (ReadR.fieldE rfl hasA (by first | assumption | omega)) ?_)
   | (show WPl _ _ _ _ _ _ _ (⟨_, .load _ _, _, _, _, _⟩ :: _) _; first | refine WPl.rdX (ReadR.loadE rfl hasA (by assumption)) ?_ | refine WPl.rdX (ReadR.loadES (by assumption) (by first | assumption | omega) rfl hasA) ?_)
   | (show WPl _ _ _ _ _ _ _ (⟨_, .slice _ _ _ _ _, _, _, _, _⟩ :: _) _; first | refine WPl.rdX (ReadR.sliceH rfl rfl hasA (by omega)) ?_ | refine WPl.rdX (ReadR.sliceL rfl rfl hasA (by omega)) ?_ | refine WPl.rdX (ReadR.sliceLH rfl rfl rfl hasA (by omega) (by omega)) ?_)
   | (refine WPl.spQ (fun hc => ?_) (fun hc => ?_) <;> try exact prA)
   | fail)
  all_goals try (first | exact WPq.dTp | exact WPq.dTs | exact WPq.dV | exact WPq.dR | exact WPq.dR2 | exact WPq.dH | exact WPq.dBH | exact WPq.dT)

end Go.Proofs.Ytjfhiifpnpokpaa
/- The statement NatRewrites: it returns true. -/
namespace Go.Proofs.Ytjfhiifpnpokpaa
open Go.RowKit
set_option linter.unusedSimpArgs false
set_option linter.unusedVariables false
set_option maxRecDepth 20000
set_option maxHeartbeats 1000000
attribute [local irreducible] WPc WPl WPq ReadR OpT BinR HasS bx rdN rowN Take Takes Prov Triple ResF BuildP Done ag Int.decLt Int.decLe Int.instDecidableEq
theorem pkt39 (X : Pk) : total (pkc X) = 82 := by kernel_rfl
attribute [local irreducible] natE natL refL pkE pkR
theorem nr_no (v : Value) (l : List UInt8) (a : Adr) (p : Nat) (hp : p ≤ 65535) (h : ¬ natE (l.take 2060) a p = 0) :
    Triple Try.prog 3 #[v, ag (adc a), .int .u16 (p : Int)] [rb v l] (RVal (.bool true)) := by
  have hl : (l.take 2060).length ≤ 2060 := List.length_take_le _ _
  have c24 := few_t v l 2060 (by omega)
  have c31 : ∀ v, Triple Try.prog 5 #[v, ag (adc a), .int .u16 (p : Int)] [rb v (nbs [] ++ l.take 2060)] (RW (natL (l.take 2060) 1 a p) (natE (l.take 2060) a p)) := fun v => nto_t v (l.take 2060) a p hp (by omega)
  have c40 : ∀ v, Triple Try.prog 6 #[v, ag (adc a), .int .u16 (p : Int)] [rb v (nbs [] ++ l.take 2060)] (RW (natL (l.take 2060) 0 a p) (natE (l.take 2060) a p)) := fun v => nfrom_t v (l.take 2060) a p hp (by omega)
  have c47 := fun v => rrw_t v (l.take 2060) 1 a p (Or.inr rfl) hp (by omega)
  have c54 := fun v => rrw_t v (l.take 2060) 0 a p (Or.inl rfl) hp (by omega)
  have c67 := fun v => rparse_t v (l.take 2060) (by omega)
  have c85 := lives17_t
  have e1 : natL (l.take 2060) 1 a p = [] := by unfold natL; rw [if_neg h]
  have e0 : natL (l.take 2060) 0 a p = [] := by unfold natL; rw [if_neg h]
  have f1 : refL (l.take 2060) 1 a p = [] := by unfold refL; rw [if_neg h]
  have f0 : refL (l.take 2060) 0 a p = [] := by unfold refL; rw [if_neg h]
  rw [e1] at c31
  rw [e0] at c40
  rw [f1] at c47
  rw [f0] at c54
  clear e1 e0 f1 f0
  simp only [pkVal] at c67
  have la := a.len
  generalize l.take 2060 = B at *
  generalize natE B a p = z at *
  generalize pkE B = y at *
  obtain ⟨X, hX⟩ : ∃ X, X = pkR B := ⟨_, rfl⟩
  rw [← hX] at c67
  have k1 := X.hd.src.len
  have k2 := X.hd.dst.len
  have k3 := X.fl.src.len
  have k4 := X.fl.dst.len
  clear hX
  by_cases hy : y = 0
  · skip
    refine Triple.enter Try.func3 rfl Try.ntmps3 rfl (fun W => ?_)
    dsimp only [argsF, Nat.reduceAdd]
    repeat' (first
     | refine WPl.nil ?_ | refine WPq.then ?_ | refine WPq.thenR ?_ | refine WPq.thenE ?_ | refine WPq.blockN ?_ | refine WPq.blockR ?_ | refine WPq.blockE ?_ | refine WPq.blockO rfl ?_ | refine WPc.seq ?_ | refine WPc.block ?_ | refine WPc.ret ?_ | refine WPc.exit ?_ | refine WPc.skip ?_ | refine WPc.region ?_
     | (refine isReg 2 ?_; refine WPc.drA [([], [27, 29, 30]), ([], [26, 29, 30]), ([0, 1], [26, 27, 29, 30]), ([], [26, 27, 28, 30]), ([], [26, 27, 28, 29]), ([0, 1, 2, 3, 4], [26, 27, 28, 29, 30]), ([0, 1, 2, 3, 4, 5], [26, 27, 28, 29, 30, 31]), ([0, 1, 2, 3, 4, 5, 6], [25, 26, 27, 28, 29, 30, 31, 33]), ([0, 1, 2, 3, 4, 5, 6], [7, 25, 26, 27, 28, 29, 30, 31, 32]), ([0, 1, 2, 3, 4, 5, 6, 7], [25, 26, 27, 28, 29, 30, 31, 32, 33]), ([0, 1, 2, 3, 4, 5, 6, 7, 8, 9], [7, 25, 26, 27, 28, 29, 30, 31, 32, 33])] [(0, 2)] (Γx := []) ?_; dsimp only [prev0, List.length_nil, List.length_cons])
     | (refine isReg 3 ?_; refine WPc.drA [([], [36, 38, 39]), ([], [35, 38, 39]), ([0, 1], [35, 36, 38, 39]), ([], [35, 36, 37, 39]), ([], [35, 36, 37, 38]), ([0, 1, 2, 3, 4], [35, 36, 37, 38, 39]), ([0, 1, 2, 3, 4, 5], [35, 36, 37, 38, 39, 40]), ([0, 1, 2, 3, 4, 5, 6], [34, 35, 36, 37, 38, 39, 40, 42]), ([0, 1, 2, 3, 4, 5, 6], [9, 34, 35, 36, 37, 38, 39, 40, 41]), ([0, 1, 2, 3, 4, 5, 6, 7], [34, 35, 36, 37, 38, 39, 40, 41, 42]), ([0, 1, 2, 3, 4, 5, 6, 7, 8, 9], [9, 34, 35, 36, 37, 38, 39, 40, 41, 42])] [(0, 2)] (Γx := []) ?_; dsimp only [prev0, List.length_nil, List.length_cons])
     | (refine isReg 13 ?_; refine WPc.drA [([], [21, 22, 98]), ([], [21, 22, 97]), ([], [22, 97, 98]), ([], [21, 97, 98]), ([0, 2, 3], [21, 22, 97, 98]), ([0, 1, 2, 3, 4], [21, 22, 97, 98])] [(2, 4), (3, 5), (3, 4)] (Γx := []) ?_; dsimp only [prev0, List.length_nil, List.length_cons])
     | (refine isReg 14 ?_; refine WPc.drA [([], [100, 101, 102]), ([], [99, 101, 102, 103, 104]), ([], [99, 100, 102, 103, 104, 105, 106]), ([], [99, 100, 101, 103, 104, 105, 106, 107, 108]), ([0], [99, 100, 101, 102]), ([0, 4], [99, 100, 101, 102, 103]), ([0, 4, 5], [99, 100, 101, 102, 103, 104]), ([0, 1, 4, 5, 6], [99, 100, 101, 102, 103, 104]), ([0, 1, 4, 5, 6, 7], [99, 100, 101, 102, 103, 104, 105]), ([0, 1, 4, 5, 6, 7, 8], [99, 100, 101, 102, 103, 104, 105, 106]), ([0, 1, 2, 4, 5, 6, 7, 8, 9], [99, 100, 101, 102, 103, 104, 105, 106]), ([0, 1, 2, 4, 5, 6, 7, 8, 9, 10], [99, 100, 101, 102, 103, 104, 105, 106, 107]), ([0, 1, 2, 4, 5, 6, 7, 8, 9, 10, 11], [99, 100, 101, 102, 103, 104, 105, 106, 107, 108]), ([0, 1, 2, 3, 4, 5, 6, 7, 8, 9, 10, 11, 12], [99, 100, 101, 102, 103, 104, 105, 106, 107, 108]), ([0, 1, 2, 3, 4, 5, 6, 7, 8, 9, 10, 11, 12, 13], [99, 100, 101, 102, 103, 104, 105, 106, 107, 108, 109]), ([0, 1, 2, 3, 4, 5, 6, 7, 8, 9, 10, 11, 12, 13, 14], [99, 100, 101, 102, 103, 104, 105, 106, 107, 108, 109, 110])] [] (Γx := []) ?_; dsimp only [prev0, List.length_nil, List.length_cons])
     | (refine isReg 15 ?_; refine WPc.drA [([], [112, 113, 114]), ([], [111, 113, 114, 115, 116]), ([], [111, 112, 114, 115, 116, 117, 118]), ([], [111, 112, 113, 115, 116, 117, 118, 119, 120]), ([0], [111, 112, 113, 114]), ([0, 4], [111, 112, 113, 114, 115]), ([0, 4, 5], [111, 112, 113, 114, 115, 116]), ([0, 1, 4, 5, 6], [111, 112, 113, 114, 115, 116]), ([0, 1, 4, 5, 6, 7], [111, 112, 113, 114, 115, 116, 117]), ([0, 1, 4, 5, 6, 7, 8], [111, 112, 113, 114, 115, 116, 117, 118]), ([0, 1, 2, 4, 5, 6, 7, 8, 9], [111, 112, 113, 114, 115, 116, 117, 118]), ([0, 1, 2, 4, 5, 6, 7, 8, 9, 10], [111, 112, 113, 114, 115, 116, 117, 118, 119]), ([0, 1, 2, 4, 5, 6, 7, 8, 9, 10, 11], [111, 112, 113, 114, 115, 116, 117, 118, 119, 120]), ([0, 1, 2, 3, 4, 5, 6, 7, 8, 9, 10, 11, 12], [111, 112, 113, 114, 115, 116, 117, 118, 119, 120]), ([0, 1, 2, 3, 4, 5, 6, 7, 8, 9, 10, 11, 12, 13], [111, 112, 113, 114, 115, 116, 117, 118, 119, 120, 121]), ([0, 1, 2, 3, 4, 5, 6, 7, 8, 9, 10, 11, 12, 13, 14], [111, 112, 113, 114, 115, 116, 117, 118, 119, 120, 121, 122])] [] (Γx := []) ?_; dsimp only [prev0, List.length_nil, List.length_cons])
     | (refine gAny ?_; first | (refine gC 24 ?_; refine RGl.row (Γ1 := fun _ => []) (fun e hk => OpT.callN (c24)) ?_) | (refine gC 31 ?_; refine RGl.row2 (fun e hk => OpT.callN ((c31 _))) ?_) | (refine gC 40 ?_; refine RGl.row2 (fun e hk => OpT.callN ((c40 _))) ?_) | (refine gC 47 ?_; refine RGl.row2 (fun e hk => OpT.callN ((c47 _))) ?_) | (refine gC 54 ?_; refine RGl.row2 (fun e hk => OpT.callN ((c54 _))) ?_) | (refine gC 67 ?_; refine RGl.vl (fun e hk => OpT.callN ((c67 _))) ?_) | (refine gC 85 ?_; refine RGl.vl (fun e hk => OpT.callN (c85)) ?_) | (refine gD 59 ?_; refine RGl.rdX (fun e hk => by (try dsimp only [bndR, ensR, oksR, fcutR, List.append_nil, List.nil_append, List.cons_append, List.append_assoc] at hk ⊢); exact ReadR.binE rfl rfl BinR.neq (nqF rfl)) ?_) | (refine gD 63 ?_; refine RGl.rdX (fun e hk => by (try dsimp only [bndR, ensR, oksR, fcutR, List.append_nil, List.nil_append, List.cons_append, List.append_assoc] at hk ⊢); exact ReadR.binE rfl rfl BinR.neq (nqF rfl)) ?_) | (refine gD 71 ?_; refine RGl.rdX (fun e hk => by (try dsimp only [bndR, ensR, oksR, fcutR, List.append_nil, List.nil_append, List.cons_append, List.append_assoc] at hk ⊢); exact ReadR.binE rfl rfl BinR.neq (nqF hy)) ?_) | (refine gD 74 ?_; refine RGl.rdX (fun e hk => by (try dsimp only [bndR, ensR, oksR, fcutR, List.append_nil, List.nil_append, List.cons_append, List.append_assoc] at hk ⊢); exact ReadR.binE rfl rfl BinR.neq (nqT h)) ?_) | (refine gOp ?_; first | refine RGl.rdA ?_ | refine RGl.rdX (fun e hk => by (try dsimp only [bndR, ensR, oksR, fcutR, List.append_nil, List.nil_append, List.cons_append, List.append_assoc] at hk ⊢); exact readB) ?_) | (refine gAl ?_; refine RGl.nwA ?_) | (refine gLit ?_; refine RGl.litA ?_) | (refine gApp ?_; refine RGl.appA ?_) | (refine gSt ?_; refine RGl.stA ?_) | (refine RGl.fin (fun e hk => ?_); (try dsimp only [bndA, ensAR, oksA, List.append_nil, List.nil_append, List.cons_append, List.append_assoc] at hk ⊢); (repeat (obtain ⟨hk1, hk⟩ := hk))) | fail)
     | (refine isCond ?_; first | refine WPc.cT ?_ | refine WPc.cF ?_ | (refine WPc.cQ (fun hc => ?_) (fun hc => ?_) <;> try exact prA))
     | (refine isLit ?_; refine WPl.lit fun v hv => ?_)
     | (refine isApp ?_; refine WPl.app fun v hv => ?_)
     | (refine isC 24 ?_; refine WPl.cR (c24) fun v hv => ?_)
     | (refine isC 31 ?_; refine WPl.cR2 ((c31 _)) fun v hv => ?_)
     | (refine isC 40 ?_; refine WPl.cR2 ((c40 _)) fun v hv => ?_)
     | (refine isC 47 ?_; refine WPl.cR2 ((c47 _)) fun v hv => ?_)
     | (refine isC 54 ?_; refine WPl.cR2 ((c54 _)) fun v hv => ?_)
     | (refine isD 59 ?_; refine WPl.rdX (ReadR.binE rfl rfl BinR.neq (nqF rfl)) ?_)
     | (refine isD 63 ?_; refine WPl.rdX (ReadR.binE rfl rfl BinR.neq (nqF rfl)) ?_)
     | (refine isC 67 ?_; refine WPl.cV ((c67 _)) ?_)
     | (show WPl _ _ _ _ _ _ _ (⟨_, .store 39 (.tmp 15) _, _, _, _, _⟩ :: _) _; refine WPl.stA (new := pkc X) ?_ (ht := by kernel_rfl))
     | (refine isD 71 ?_; refine WPl.rdX (ReadR.binE rfl rfl BinR.neq (nqF hy)) ?_)
     | (refine isD 74 ?_; refine WPl.rdX (ReadR.binE rfl rfl BinR.neq (nqT h)) ?_)
     | (refine isC 85 ?_; refine WPl.cV (c85) ?_)
     | (refine isOp ?_; first | refine WPl.rd ?_ | refine WPl.sk ?_ | refine WPl.rdB ?_)
     | (refine isAl ?_; refine WPl.nw fun g => ?_)
     | (refine isBx ?_; refine WPl.nw fun g => ?_)
     | (refine isSt ?_; first | refine WPl.st1 ?_ | refine WPl.stA ?_ | refine WPl.stEB ?_ | refine WPl.stRB ?_)
     | (show WPl _ _ _ _ _ _ _ (⟨_, .indexAddr _ _ _, _, _, _, _⟩ :: _) _; refine WPl.rdX (ReadR.indexE rfl rfl hasA (by first | assumption | omega)) ?_)
     | (show WPl _ _ _ _ _ _ _ (⟨_, .fieldAddr _ _ _, _, _, _, _⟩ :: _) _; refine WPl.rdX (ReadR.fieldE rfl hasA (by first | assumption | omega)) ?_)
     | (show WPl _ _ _ _ _ _ _ (⟨_, .load _ _, _, _, _, _⟩ :: _) _; first | refine WPl.rdX (ReadR.loadE rfl hasA (by assumption)) ?_ | refine WPl.rdX (ReadR.loadES (by assumption) (by first | assumption | omega) rfl hasA) ?_)
     | (show WPl _ _ _ _ _ _ _ (⟨_, .slice _ _ _ _ _, _, _, _, _⟩ :: _) _; first | refine WPl.rdX (ReadR.sliceH rfl rfl hasA (by omega)) ?_ | refine WPl.rdX (ReadR.sliceL rfl rfl hasA (by omega)) ?_ | refine WPl.rdX (ReadR.sliceLH rfl rfl rfl hasA (by omega) (by omega)) ?_)
     | (refine WPl.spQ (fun hc => ?_) (fun hc => ?_) <;> try exact prA)
     | fail)
    all_goals try (first | exact WPq.dTp | exact WPq.dTs | exact WPq.dV | exact WPq.dR | exact WPq.dR2 | exact WPq.dH | exact WPq.dBH | exact WPq.dT)
  · skip
    refine Triple.enter Try.func3 rfl Try.ntmps3 rfl (fun W => ?_)
    dsimp only [argsF, Nat.reduceAdd]
    repeat' (first
     | refine WPl.nil ?_ | refine WPq.then ?_ | refine WPq.thenR ?_ | refine WPq.thenE ?_ | refine WPq.blockN ?_ | refine WPq.blockR ?_ | refine WPq.blockE ?_ | refine WPq.blockO rfl ?_ | refine WPc.seq ?_ | refine WPc.block ?_ | refine WPc.ret ?_ | refine WPc.exit ?_ | refine WPc.skip ?_ | refine WPc.region ?_
     | (refine isReg 2 ?_; refine WPc.drA [([], [27, 29, 30]), ([], [26, 29, 30]), ([0, 1], [26, 27, 29, 30]), ([], [26, 27, 28, 30]), ([], [26, 27, 28, 29]), ([0, 1, 2, 3, 4], [26, 27, 28, 29, 30]), ([0, 1, 2, 3, 4, 5], [26, 27, 28, 29, 30, 31]), ([0, 1, 2, 3, 4, 5, 6], [25, 26, 27, 28, 29, 30, 31, 33]), ([0, 1, 2, 3, 4, 5, 6], [7, 25, 26, 27, 28, 29, 30, 31, 32]), ([0, 1, 2, 3, 4, 5, 6, 7], [25, 26, 27, 28, 29, 30, 31, 32, 33]), ([0, 1, 2, 3, 4, 5, 6, 7, 8, 9], [7, 25, 26, 27, 28, 29, 30, 31, 32, 33])] [(0, 2)] (Γx := []) ?_; dsimp only [prev0, List.length_nil, List.length_cons])
     | (refine isReg 3 ?_; refine WPc.drA [([], [36, 38, 39]), ([], [35, 38, 39]), ([0, 1], [35, 36, 38, 39]), ([], [35, 36, 37, 39]), ([], [35, 36, 37, 38]), ([0, 1, 2, 3, 4], [35, 36, 37, 38, 39]), ([0, 1, 2, 3, 4, 5], [35, 36, 37, 38, 39, 40]), ([0, 1, 2, 3, 4, 5, 6], [34, 35, 36, 37, 38, 39, 40, 42]), ([0, 1, 2, 3, 4, 5, 6], [9, 34, 35, 36, 37, 38, 39, 40, 41]), ([0, 1, 2, 3, 4, 5, 6, 7], [34, 35, 36, 37, 38, 39, 40, 41, 42]), ([0, 1, 2, 3, 4, 5, 6, 7, 8, 9], [9, 34, 35, 36, 37, 38, 39, 40, 41, 42])] [(0, 2)] (Γx := []) ?_; dsimp only [prev0, List.length_nil, List.length_cons])
     | (refine isReg 13 ?_; refine WPc.drA [([], [21, 22, 98]), ([], [21, 22, 97]), ([], [22, 97, 98]), ([], [21, 97, 98]), ([0, 2, 3], [21, 22, 97, 98]), ([0, 1, 2, 3, 4], [21, 22, 97, 98])] [(2, 4), (3, 5), (3, 4)] (Γx := []) ?_; dsimp only [prev0, List.length_nil, List.length_cons])
     | (refine isReg 14 ?_; refine WPc.drA [([], [100, 101, 102]), ([], [99, 101, 102, 103, 104]), ([], [99, 100, 102, 103, 104, 105, 106]), ([], [99, 100, 101, 103, 104, 105, 106, 107, 108]), ([0], [99, 100, 101, 102]), ([0, 4], [99, 100, 101, 102, 103]), ([0, 4, 5], [99, 100, 101, 102, 103, 104]), ([0, 1, 4, 5, 6], [99, 100, 101, 102, 103, 104]), ([0, 1, 4, 5, 6, 7], [99, 100, 101, 102, 103, 104, 105]), ([0, 1, 4, 5, 6, 7, 8], [99, 100, 101, 102, 103, 104, 105, 106]), ([0, 1, 2, 4, 5, 6, 7, 8, 9], [99, 100, 101, 102, 103, 104, 105, 106]), ([0, 1, 2, 4, 5, 6, 7, 8, 9, 10], [99, 100, 101, 102, 103, 104, 105, 106, 107]), ([0, 1, 2, 4, 5, 6, 7, 8, 9, 10, 11], [99, 100, 101, 102, 103, 104, 105, 106, 107, 108]), ([0, 1, 2, 3, 4, 5, 6, 7, 8, 9, 10, 11, 12], [99, 100, 101, 102, 103, 104, 105, 106, 107, 108]), ([0, 1, 2, 3, 4, 5, 6, 7, 8, 9, 10, 11, 12, 13], [99, 100, 101, 102, 103, 104, 105, 106, 107, 108, 109]), ([0, 1, 2, 3, 4, 5, 6, 7, 8, 9, 10, 11, 12, 13, 14], [99, 100, 101, 102, 103, 104, 105, 106, 107, 108, 109, 110])] [] (Γx := []) ?_; dsimp only [prev0, List.length_nil, List.length_cons])
     | (refine isReg 15 ?_; refine WPc.drA [([], [112, 113, 114]), ([], [111, 113, 114, 115, 116]), ([], [111, 112, 114, 115, 116, 117, 118]), ([], [111, 112, 113, 115, 116, 117, 118, 119, 120]), ([0], [111, 112, 113, 114]), ([0, 4], [111, 112, 113, 114, 115]), ([0, 4, 5], [111, 112, 113, 114, 115, 116]), ([0, 1, 4, 5, 6], [111, 112, 113, 114, 115, 116]), ([0, 1, 4, 5, 6, 7], [111, 112, 113, 114, 115, 116, 117]), ([0, 1, 4, 5, 6, 7, 8], [111, 112, 113, 114, 115, 116, 117, 118]), ([0, 1, 2, 4, 5, 6, 7, 8, 9], [111, 112, 113, 114, 115, 116, 117, 118]), ([0, 1, 2, 4, 5, 6, 7, 8, 9, 10], [111, 112, 113, 114, 115, 116, 117, 118, 119]), ([0, 1, 2, 4, 5, 6, 7, 8, 9, 10, 11], [111, 112, 113, 114, 115, 116, 117, 118, 119, 120]), ([0, 1, 2, 3, 4, 5, 6, 7, 8, 9, 10, 11, 12], [111, 112, 113, 114, 115, 116, 117, 118, 119, 120]), ([0, 1, 2, 3, 4, 5, 6, 7, 8, 9, 10, 11, 12, 13], [111, 112, 113, 114, 115, 116, 117, 118, 119, 120, 121]), ([0, 1, 2, 3, 4, 5, 6, 7, 8, 9, 10, 11, 12, 13, 14], [111, 112, 113, 114, 115, 116, 117, 118, 119, 120, 121, 122])] [] (Γx := []) ?_; dsimp only [prev0, List.length_nil, List.length_cons])
     | (refine gAny ?_; first | (refine gC 24 ?_; refine RGl.row (Γ1 := fun _ => []) (fun e hk => OpT.callN (c24)) ?_) | (refine gC 31 ?_; refine RGl.row2 (fun e hk => OpT.callN ((c31 _))) ?_) | (refine gC 40 ?_; refine RGl.row2 (fun e hk => OpT.callN ((c40 _))) ?_) | (refine gC 47 ?_; refine RGl.row2 (fun e hk => OpT.callN ((c47 _))) ?_) | (refine gC 54 ?_; refine RGl.row2 (fun e hk => OpT.callN ((c54 _))) ?_) | (refine gC 67 ?_; refine RGl.vl (fun e hk => OpT.callN ((c67 _))) ?_) | (refine gC 85 ?_; refine RGl.vl (fun e hk => OpT.callN (c85)) ?_) | (refine gD 59 ?_; refine RGl.rdX (fun e hk => by (try dsimp only [bndR, ensR, oksR, fcutR, List.append_nil, List.nil_append, List.cons_append, List.append_assoc] at hk ⊢); exact ReadR.binE rfl rfl BinR.neq (nqF rfl)) ?_) | (refine gD 63 ?_; refine RGl.rdX (fun e hk => by (try dsimp only [bndR, ensR, oksR, fcutR, List.append_nil, List.nil_append, List.cons_append, List.append_assoc] at hk ⊢); exact ReadR.binE rfl rfl BinR.neq (nqF rfl)) ?_) | (refine gD 71 ?_; refine RGl.rdX (fun e hk => by (try dsimp only [bndR, ensR, oksR, fcutR, List.append_nil, List.nil_append, List.cons_append, List.append_assoc] at hk ⊢); exact ReadR.binE rfl rfl BinR.neq (nqT hy)) ?_) | (refine gOp ?_; first | refine RGl.rdA ?_ | refine RGl.rdX (fun e hk => by (try dsimp only [bndR, ensR, oksR, fcutR, List.append_nil, List.nil_append, List.cons_append, List.append_assoc] at hk ⊢); exact readB) ?_) | (refine gAl ?_; refine RGl.nwA ?_) | (refine gLit ?_; refine RGl.litA ?_) | (refine gApp ?_; refine RGl.appA ?_) | (refine gSt ?_; refine RGl.stA ?_) | (refine RGl.fin (fun e hk => ?_); (try dsimp only [bndA, ensAR, oksA, List.append_nil, List.nil_append, List.cons_append, List.append_assoc] at hk ⊢); (repeat (obtain ⟨hk1, hk⟩ := hk))) | fail)
     | (refine isCond ?_; first | refine WPc.cT ?_ | refine WPc.cF ?_ | (refine WPc.cQ (fun hc => ?_) (fun hc => ?_) <;> try exact prA))
     | (refine isLit ?_; refine WPl.lit fun v hv => ?_)
     | (refine isApp ?_; refine WPl.app fun v hv => ?_)
     | (refine isC 24 ?_; refine WPl.cR (c24) fun v hv => ?_)
     | (refine isC 31 ?_; refine WPl.cR2 ((c31 _)) fun v hv => ?_)
     | (refine isC 40 ?_; refine WPl.cR2 ((c40 _)) fun v hv => ?_)
     | (refine isC 47 ?_; refine WPl.cR2 ((c47 _)) fun v hv => ?_)
     | (refine isC 54 ?_; refine WPl.cR2 ((c54 _)) fun v hv => ?_)
     | (refine isD 59 ?_; refine WPl.rdX (ReadR.binE rfl rfl BinR.neq (nqF rfl)) ?_)
     | (refine isD 63 ?_; refine WPl.rdX (ReadR.binE rfl rfl BinR.neq (nqF rfl)) ?_)
     | (refine isC 67 ?_; refine WPl.cV ((c67 _)) ?_)
     | (show WPl _ _ _ _ _ _ _ (⟨_, .store 39 (.tmp 15) _, _, _, _, _⟩ :: _) _; refine WPl.stA (new := pkc X) ?_ (ht := by kernel_rfl))
     | (refine isD 71 ?_; refine WPl.rdX (ReadR.binE rfl rfl BinR.neq (nqT hy)) ?_)
     | (refine isC 85 ?_; refine WPl.cV (c85) ?_)
     | (refine isOp ?_; first | refine WPl.rd ?_ | refine WPl.sk ?_ | refine WPl.rdB ?_)
     | (refine isAl ?_; refine WPl.nw fun g => ?_)
     | (refine isBx ?_; refine WPl.nw fun g => ?_)
     | (refine isSt ?_; first | refine WPl.st1 ?_ | refine WPl.stA ?_ | refine WPl.stEB ?_ | refine WPl.stRB ?_)
     | (show WPl _ _ _ _ _ _ _ (⟨_, .indexAddr _ _ _, _, _, _, _⟩ :: _) _; refine WPl.rdX (ReadR.indexE rfl rfl hasA (by first | assumption | omega)) ?_)
     | (show WPl _ _ _ _ _ _ _ (⟨_, .fieldAddr _ _ _, _, _, _, _⟩ :: _) _; refine WPl.rdX (ReadR.fieldE rfl hasA (by first | assumption | omega)) ?_)
     | (show WPl _ _ _ _ _ _ _ (⟨_, .load _ _, _, _, _, _⟩ :: _) _; first | refine WPl.rdX (ReadR.loadE rfl hasA (by assumption)) ?_ | refine WPl.rdX (ReadR.loadES (by assumption) (by first | assumption | omega) rfl hasA) ?_)
     | (show WPl _ _ _ _ _ _ _ (⟨_, .slice _ _ _ _ _, _, _, _, _⟩ :: _) _; first | refine WPl.rdX (ReadR.sliceH rfl rfl hasA (by omega)) ?_ | refine WPl.rdX (ReadR.sliceL rfl rfl hasA (by omega)) ?_ | refine WPl.rdX (ReadR.sliceLH rfl rfl rfl hasA (by omega) (by omega)) ?_)
     | (refine WPl.spQ (fun hc => ?_) (fun hc => ?_) <;> try exact prA)
     | fail)
    all_goals try (first | exact WPq.dTp | exact WPq.dTs | exact WPq.dV | exact WPq.dR | exact WPq.dR2 | exact WPq.dH | exact WPq.dBH | exact WPq.dT)
theorem nr_ok (v : Value) (l : List UInt8) (a : Adr) (p : Nat) (hp : p ≤ 65535) (h : natE (l.take 2060) a p = 0) :
    Triple Try.prog 3 #[v, ag (adc a), .int .u16 (p : Int)] [rb v l] (RVal (.bool true)) := by
  have hl : (l.take 2060).length ≤ 2060 := List.length_take_le _ _
  have c24 := few_t v l 2060 (by omega)
  have c31 : ∀ v, Triple Try.prog 5 #[v, ag (adc a), .int .u16 (p : Int)] [rb v (nbs [] ++ l.take 2060)] (RW (natL (l.take 2060) 1 a p) (natE (l.take 2060) a p)) := fun v => nto_t v (l.take 2060) a p hp (by omega)
  have c40 : ∀ v, Triple Try.prog 6 #[v, ag (adc a), .int .u16 (p : Int)] [rb v (nbs [] ++ l.take 2060)] (RW (natL (l.take 2060) 0 a p) (natE (l.take 2060) a p)) := fun v => nfrom_t v (l.take 2060) a p hp (by omega)
  have c47 := fun v => rrw_t v (l.take 2060) 1 a p (Or.inr rfl) hp (by omega)
  have c54 := fun v => rrw_t v (l.take 2060) 0 a p (Or.inl rfl) hp (by omega)
  have c67 := fun v => rparse_t v (l.take 2060) (by omega)
  have c85 := lives17_t
  obtain ⟨k1, j1, a1, a2, a3, a4, a5, a6, a7, a8, a9, a10⟩ := nat_plain (w := 1) (Or.inr rfl) hp (by omega) h
  obtain ⟨k0, j0, b1, b2, b3, b4, b5, b6, b7, b8, b9, b10⟩ := nat_plain (w := 0) (Or.inl rfl) hp (by omega) h
  have c89 := fun v => rparse_t v (natL (l.take 2060) 1 a p) (by omega)
  have c94 := fun v => rparse_t v (natL (l.take 2060) 0 a p) (by omega)
  have c143 := fun v1 v2 => same_t v1 v2 (natL (l.take 2060) 1 a p) (refL (l.take 2060) 1 a p) (pkR (l.take 2060)) k1 j1 a1 a2 (a7.trans a8.symm) (by omega) a4 a9 (Or.inr a3)
  have c149 := fun v1 v2 => same_t v1 v2 (natL (l.take 2060) 0 a p) (refL (l.take 2060) 0 a p) (pkR (l.take 2060)) k0 j0 b1 b2 (b7.trans b8.symm) (by omega) b4 b9 (Or.inr b3)
  simp only [pkVal] at c67 c89 c94
  rw [(natE_zero h).1] at c67
  rw [a5, a6] at c89
  rw [b5, b6] at c94
  rw [h] at c31 c40 c47 c54
  clear a1 a2 a3 a4 a5 a6 a7 a8 a9 a10 b1 b2 b3 b4 b5 b6 b7 b8 b9 b10
  have la := a.len
  generalize natL (l.take 2060) 1 a p = L1 at *
  generalize natL (l.take 2060) 0 a p = L0 at *
  generalize refL (l.take 2060) 1 a p = R1 at *
  generalize refL (l.take 2060) 0 a p = R0 at *
  have hX : pkR (l.take 2060) = pkOf (pkR (l.take 2060)).hd (pkR (l.take 2060)).sg := by
    rw [(pk_zero (natE_zero h).1).2.2.2]; rfl
  clear h
  generalize (pkR (l.take 2060)).hd = H at hX c89 c94
  generalize (pkR (l.take 2060)).sg = S at hX c89 c94
  rw [hX] at c67 c143 c149
  clear hX
  obtain ⟨six, pr, pos, s1, d1, pt, hq⟩ := H
  obtain ⟨sr, ds, fg, sa, z, da⟩ := S
  obtain ⟨X, hX⟩ : ∃ X : Pk, X = ⟨⟨six, pr, pos, s1, d1, pt, hq⟩, ⟨sr, ds, fg, sa, z, da⟩, ⟨s1, d1, sr, ds, pr⟩⟩ := ⟨_, rfl⟩
  obtain ⟨Y, hY⟩ : ∃ Y : Pk, Y = ⟨⟨six, pr, pos, s1, a, pt, hq⟩, ⟨sr, p, fg, sa, z, da⟩, ⟨s1, a, sr, p, pr⟩⟩ := ⟨_, rfl⟩
  obtain ⟨Z, hZ⟩ : ∃ Z : Pk, Z = ⟨⟨six, pr, pos, a, d1, pt, hq⟩, ⟨p, ds, fg, sa, z, da⟩, ⟨a, d1, p, ds, pr⟩⟩ := ⟨_, rfl⟩
  rw [show pkOf ⟨six, pr, pos, s1, d1, pt, hq⟩ ⟨sr, ds, fg, sa, z, da⟩ = X from hX.symm] at c67 c143 c149
  rw [show pkOf (hdA ⟨six, pr, pos, s1, d1, pt, hq⟩ 1 a) (sgP ⟨sr, ds, fg, sa, z, da⟩ 1 p) = Y from hY.symm] at c89
  rw [show pkOf (hdA ⟨six, pr, pos, s1, d1, pt, hq⟩ 0 a) (sgP ⟨sr, ds, fg, sa, z, da⟩ 0 p) = Z from hZ.symm] at c94
  generalize l.take 2060 = B at *
  have l1 := s1.len
  have l2 := d1.len
  have eX : pkc X = [(1, [.bool six]), (1, [.int .u8 ((pr.toNat : Nat) : Int)]), (1, [.int .i64 pos]), (1, [.bool s1.six]), (16, u8s s1.b), (1, [.bool d1.six]), (16, u8s d1.b), (1, [.bool pt]), (1, [.int .u8 ((hq.toNat : Nat) : Int)]), (1, [.int .u16 (sr : Int)]), (1, [.int .u16 (ds : Int)]), (1, [.int .u8 ((fg.toNat : Nat) : Int)]), (1, [.int .i64 sa]), (1, [.bool z]), (1, [.int .i64 da]), (1, [.bool s1.six]), (16, u8s s1.b), (1, [.bool d1.six]), (16, u8s d1.b), (1, [.int .u16 (sr : Int)]), (1, [.int .u16 (ds : Int)]), (1, [.int .u8 ((pr.toNat : Nat) : Int)])] := by rw [hX]
  have eY : pkc Y = [(1, [.bool six]), (1, [.int .u8 ((pr.toNat : Nat) : Int)]), (1, [.int .i64 pos]), (1, [.bool s1.six]), (16, u8s s1.b), (1, [.bool a.six]), (16, u8s a.b), (1, [.bool pt]), (1, [.int .u8 ((hq.toNat : Nat) : Int)]), (1, [.int .u16 (sr : Int)]), (1, [.int .u16 (p : Int)]), (1, [.int .u8 ((fg.toNat : Nat) : Int)]), (1, [.int .i64 sa]), (1, [.bool z]), (1, [.int .i64 da]), (1, [.bool s1.six]), (16, u8s s1.b), (1, [.bool a.six]), (16, u8s a.b), (1, [.int .u16 (sr : Int)]), (1, [.int .u16 (p : Int)]), (1, [.int .u8 ((pr.toNat : Nat) : Int)])] := by rw [hY]
  have eZ : pkc Z = [(1, [.bool six]), (1, [.int .u8 ((pr.toNat : Nat) : Int)]), (1, [.int .i64 pos]), (1, [.bool a.six]), (16, u8s a.b), (1, [.bool d1.six]), (16, u8s d1.b), (1, [.bool pt]), (1, [.int .u8 ((hq.toNat : Nat) : Int)]), (1, [.int .u16 (p : Int)]), (1, [.int .u16 (ds : Int)]), (1, [.int .u8 ((fg.toNat : Nat) : Int)]), (1, [.int .i64 sa]), (1, [.bool z]), (1, [.int .i64 da]), (1, [.bool a.six]), (16, u8s a.b), (1, [.bool d1.six]), (16, u8s d1.b), (1, [.int .u16 (p : Int)]), (1, [.int .u16 (ds : Int)]), (1, [.int .u8 ((pr.toNat : Nat) : Int)])] := by rw [hZ]
  have k1 := X.hd.src.len
  have k2 := X.hd.dst.len
  have k3 := X.fl.src.len
  have k4 := X.fl.dst.len
  have k5 := Y.hd.src.len
  have k6 := Y.hd.dst.len
  have k7 := Y.fl.src.len
  have k8 := Y.fl.dst.len
  have k9 := Z.hd.src.len
  have k10 := Z.hd.dst.len
  have k11 := Z.fl.src.len
  have k12 := Z.fl.dst.len
  refine Triple.enter Try.func3 rfl Try.ntmps3 rfl (fun W => ?_)
  dsimp only [argsF, Nat.reduceAdd]
  repeat' (first
   | refine WPl.nil ?_ | refine WPq.then ?_ | refine WPq.thenR ?_ | refine WPq.thenE ?_ | refine WPq.blockN ?_ | refine WPq.blockR ?_ | refine WPq.blockE ?_ | refine WPq.blockO rfl ?_ | refine WPc.seq ?_ | refine WPc.block ?_ | refine WPc.ret ?_ | refine WPc.exit ?_ | refine WPc.skip ?_ | refine WPc.region ?_
   | (refine isReg 2 ?_; refine WPc.drA [([], [27, 29, 30]), ([], [26, 29, 30]), ([0, 1], [26, 27, 29, 30]), ([], [26, 27, 28, 30]), ([], [26, 27, 28, 29]), ([0, 1, 2, 3, 4], [26, 27, 28, 29, 30]), ([0, 1, 2, 3, 4, 5], [26, 27, 28, 29, 30, 31]), ([0, 1, 2, 3, 4, 5, 6], [25, 26, 27, 28, 29, 30, 31, 33]), ([0, 1, 2, 3, 4, 5, 6], [7, 25, 26, 27, 28, 29, 30, 31, 32]), ([0, 1, 2, 3, 4, 5, 6, 7], [25, 26, 27, 28, 29, 30, 31, 32, 33]), ([0, 1, 2, 3, 4, 5, 6, 7, 8, 9], [7, 25, 26, 27, 28, 29, 30, 31, 32, 33])] [(0, 2)] (Γx := []) ?_; dsimp only [prev0, List.length_nil, List.length_cons])
   | (refine isReg 3 ?_; refine WPc.drA [([], [36, 38, 39]), ([], [35, 38, 39]), ([0, 1], [35, 36, 38, 39]), ([], [35, 36, 37, 39]), ([], [35, 36, 37, 38]), ([0, 1, 2, 3, 4], [35, 36, 37, 38, 39]), ([0, 1, 2, 3, 4, 5], [35, 36, 37, 38, 39, 40]), ([0, 1, 2, 3, 4, 5, 6], [34, 35, 36, 37, 38, 39, 40, 42]), ([0, 1, 2, 3, 4, 5, 6], [9, 34, 35, 36, 37, 38, 39, 40, 41]), ([0, 1, 2, 3, 4, 5, 6, 7], [34, 35, 36, 37, 38, 39, 40, 41, 42]), ([0, 1, 2, 3, 4, 5, 6, 7, 8, 9], [9, 34, 35, 36, 37, 38, 39, 40, 41, 42])] [(0, 2)] (Γx := []) ?_; dsimp only [prev0, List.length_nil, List.length_cons])
   | (refine isReg 13 ?_; refine WPc.drA [([], [21, 22, 98]), ([], [21, 22, 97]), ([], [22, 97, 98]), ([], [21, 97, 98]), ([0, 2, 3], [21, 22, 97, 98]), ([0, 1, 2, 3, 4], [21, 22, 97, 98])] [(2, 4), (3, 5), (3, 4)] (Γx := []) ?_; dsimp only [prev0, List.length_nil, List.length_cons])
   | (refine gAny ?_; first | (refine gC 24 ?_; refine RGl.row (Γ1 := fun _ => []) (fun e hk => OpT.callN (c24)) ?_) | (refine gC 31 ?_; refine RGl.row2 (fun e hk => OpT.callN ((c31 _))) ?_) | (refine gC 40 ?_; refine RGl.row2 (fun e hk => OpT.callN ((c40 _))) ?_) | (refine gC 47 ?_; refine RGl.row2 (fun e hk => OpT.callN ((c47 _))) ?_) | (refine gC 54 ?_; refine RGl.row2 (fun e hk => OpT.callN ((c54 _))) ?_) | (refine gC 67 ?_; refine RGl.vl (fun e hk => OpT.callN ((c67 _))) ?_) | (refine gC 85 ?_; refine RGl.vl (fun e hk => OpT.callN (c85)) ?_) | (refine gC 89 ?_; refine RGl.vl (fun e hk => OpT.callN ((c89 _))) ?_) | (refine gC 94 ?_; refine RGl.vl (fun e hk => OpT.callN ((c94 _))) ?_) | (refine gD 59 ?_; refine RGl.rdX (fun e hk => by (try dsimp only [bndR, ensR, oksR, fcutR, List.append_nil, List.nil_append, List.cons_append, List.append_assoc] at hk ⊢); exact ReadR.binE rfl rfl BinR.neq (nqF rfl)) ?_) | (refine gD 63 ?_; refine RGl.rdX (fun e hk => by (try dsimp only [bndR, ensR, oksR, fcutR, List.append_nil, List.nil_append, List.cons_append, List.append_assoc] at hk ⊢); exact ReadR.binE rfl rfl BinR.neq (nqF rfl)) ?_) | (refine gD 71 ?_; refine RGl.rdX (fun e hk => by (try dsimp only [bndR, ensR, oksR, fcutR, List.append_nil, List.nil_append, List.cons_append, List.append_assoc] at hk ⊢); exact ReadR.binE rfl rfl BinR.neq (nqF rfl)) ?_) | (refine gD 74 ?_; refine RGl.rdX (fun e hk => by (try dsimp only [bndR, ensR, oksR, fcutR, List.append_nil, List.nil_append, List.cons_append, List.append_assoc] at hk ⊢); exact ReadR.binE rfl rfl BinR.neq (nqF rfl)) ?_) | ((refine gSt ?_; refine RGl.turn (fun e hk => by (try dsimp only [bndR, ensR, oksR, fcutR, List.append_nil, List.nil_append, List.cons_append, List.append_assoc] at hk ⊢); exact OpT.storeA (cs' := pkc X) rfl rfl takesA (pkFok X) (pkt39 X) (by kernel_rfl)) ?_)) | (refine gOp ?_; first | refine RGl.rdA ?_ | refine RGl.rdX (fun e hk => by (try dsimp only [bndR, ensR, oksR, fcutR, List.append_nil, List.nil_append, List.cons_append, List.append_assoc] at hk ⊢); exact readB) ?_) | (refine gAl ?_; refine RGl.nwA ?_) | (refine gLit ?_; refine RGl.litA ?_) | (refine gApp ?_; refine RGl.appA ?_) | (refine gSt ?_; refine RGl.stA ?_) | (refine RGl.fin (fun e hk => ?_); (try dsimp only [bndA, ensAR, oksA, List.append_nil, List.nil_append, List.cons_append, List.append_assoc] at hk ⊢); (repeat (obtain ⟨hk1, hk⟩ := hk))) | fail)
   | (refine isCond ?_; first | refine WPc.cT ?_ | refine WPc.cF ?_ | (refine WPc.cQ (fun hc => ?_) (fun hc => ?_) <;> try exact prA))
   | (refine isLit ?_; refine WPl.lit fun v hv => ?_)
   | (refine isApp ?_; refine WPl.app fun v hv => ?_)
   | (refine isC 24 ?_; refine WPl.cR (c24) fun v hv => ?_)
   | (refine isC 31 ?_; refine WPl.cR2 ((c31 _)) fun v hv => ?_)
   | (refine isC 40 ?_; refine WPl.cR2 ((c40 _)) fun v hv => ?_)
   | (refine isC 47 ?_; refine WPl.cR2 ((c47 _)) fun v hv => ?_)
   | (refine isC 54 ?_; refine WPl.cR2 ((c54 _)) fun v hv => ?_)
   | (refine isD 59 ?_; refine WPl.rdX (ReadR.binE rfl rfl BinR.neq (nqF rfl)) ?_)
   | (refine isD 63 ?_; refine WPl.rdX (ReadR.binE rfl rfl BinR.neq (nqF rfl)) ?_)
   | (refine isC 67 ?_; refine WPl.cV ((c67 _)) ?_)
   | (show WPl _ _ _ _ _ _ _ (⟨_, .store 39 (.tmp 15) _, _, _, _, _⟩ :: _) _; refine WPl.stA (new := pkc X) ?_ (ht := by kernel_rfl))
   | (refine isD 71 ?_; refine WPl.rdX (ReadR.binE rfl rfl BinR.neq (nqF rfl)) ?_)
   | (refine isD 74 ?_; refine WPl.rdX (ReadR.binE rfl rfl BinR.neq (nqF rfl)) ?_)
   | (refine isC 85 ?_; refine WPl.cV (c85) ?_)
   | (refine isC 89 ?_; refine WPl.cV ((c89 _)) ?_)
   | (refine isC 94 ?_; refine WPl.cV ((c94 _)) ?_)
   | (show WPl _ _ _ _ _ _ _ (⟨_, .store 39 (.tmp 17) _, _, _, _, _⟩ :: _) _; refine WPl.stA (new := pkc Y) ?_ (ht := by kernel_rfl))
   | (show WPl _ _ _ _ _ _ _ (⟨_, .store 39 (.tmp 19) _, _, _, _, _⟩ :: _) _; refine WPl.stA (new := pkc Z) ?_ (ht := by kernel_rfl))
   | (refine isOp ?_; first | refine WPl.rd ?_ | refine WPl.sk ?_ | refine WPl.rdB ?_)
   | (refine isAl ?_; refine WPl.nw fun g => ?_)
   | (refine isBx ?_; refine WPl.nw fun g => ?_)
   | (refine isSt ?_; first | refine WPl.st1 ?_ | refine WPl.stA ?_ | refine WPl.stEB ?_ | refine WPl.stRB ?_)
   | (show WPl _ _ _ _ _ _ _ (⟨_, .indexAddr _ _ _, _, _, _, _⟩ :: _) _; refine WPl.rdX (ReadR.indexE rfl rfl hasA (by first | assumption | omega)) ?_)
   | (show WPl _ _ _ _ _ _ _ (⟨_, .fieldAddr _ _ _, _, _, _, _⟩ :: _) _; refine WPl.rdX (ReadR.fieldE rfl hasA (by first | assumption | omega)) ?_)
   | (show WPl _ _ _ _ _ _ _ (⟨_, .load _ _, _, _, _, _⟩ :: _) _; first | refine WPl.rdX (ReadR.loadE rfl hasA (by assumption)) ?_ | refine WPl.rdX (ReadR.loadES (by assumption) (by first | assumption | omega) rfl hasA) ?_)
   | (show WPl _ _ _ _ _ _ _ (⟨_, .slice _ _ _ _ _, _, _, _, _⟩ :: _) _; first | refine WPl.rdX (ReadR.sliceH rfl rfl hasA (by omega)) ?_ | refine WPl.rdX (ReadR.sliceL rfl rfl hasA (by omega)) ?_ | refine WPl.rdX (ReadR.sliceLH rfl rfl rfl hasA (by omega) (by omega)) ?_)
   | (refine WPl.spQ (fun hc => ?_) (fun hc => ?_) <;> try exact prA)
   | fail)
  dsimp only [Nat.reduceAdd]
  generalize blk (e 2).1 = g21
  generalize blk (e 3).1 = g22
  rw [eX] at c143 c149
  rw [eX, eY, eZ]
  repeat' (first
   | refine WPl.nil ?_ | refine WPq.then ?_ | refine WPq.thenR ?_ | refine WPq.thenE ?_ | refine WPq.blockN ?_ | refine WPq.blockR ?_ | refine WPq.blockE ?_ | refine WPq.blockO rfl ?_ | refine WPc.seq ?_ | refine WPc.block ?_ | refine WPc.ret ?_ | refine WPc.exit ?_ | refine WPc.skip ?_ | refine WPc.region ?_
   | (refine isReg 14 ?_; refine WPc.drA [([16], [100, 101, 102]), ([16], [99, 101, 102, 103, 104]), ([16], [99, 100, 102, 103, 104, 105, 106]), ([16], [99, 100, 101, 103, 104, 105, 106, 107, 108]), ([0, 16], [99, 100, 101, 102]), ([0, 4, 16], [99, 100, 101, 102, 103]), ([0, 4, 5, 16], [99, 100, 101, 102, 103, 104]), ([0, 1, 4, 5, 6, 16], [99, 100, 101, 102, 103, 104]), ([0, 1, 4, 5, 6, 7, 16], [99, 100, 101, 102, 103, 104, 105]), ([0, 1, 4, 5, 6, 7, 8, 16], [99, 100, 101, 102, 103, 104, 105, 106]), ([0, 1, 2, 4, 5, 6, 7, 8, 9, 16], [99, 100, 101, 102, 103, 104, 105, 106]), ([0, 1, 2, 4, 5, 6, 7, 8, 9, 10, 16], [99, 100, 101, 102, 103, 104, 105, 106, 107]), ([0, 1, 2, 4, 5, 6, 7, 8, 9, 10, 11, 16], [99, 100, 101, 102, 103, 104, 105, 106, 107, 108]), ([0, 1, 2, 3, 4, 5, 6, 7, 8, 9, 10, 11, 12, 16], [99, 100, 101, 102, 103, 104, 105, 106, 107, 108]), ([0, 1, 2, 3, 4, 5, 6, 7, 8, 9, 10, 11, 12, 13, 16], [99, 100, 101, 102, 103, 104, 105, 106, 107, 108, 109]), ([0, 1, 2, 3, 4, 5, 6, 7, 8, 9, 10, 11, 12, 13, 14, 16], [99, 100, 101, 102, 103, 104, 105, 106, 107, 108, 109, 110])] [(16, 6), (6, 9), (9, 12), (12, 15), (16, 0), (16, 4), (16, 5), (6, 7), (6, 8), (9, 10), (9, 11), (12, 13), (12, 14)] (Γx := [bx g21 39 [(1, [.bool six]), (1, [.int .u8 ((pr.toNat : Nat) : Int)]), (1, [.int .i64 pos]), (1, [.bool s1.six]), (16, u8s s1.b), (1, [.bool d1.six]), (16, u8s d1.b), (1, [.bool pt]), (1, [.int .u8 ((hq.toNat : Nat) : Int)]), (1, [.int .u16 (sr : Int)]), (1, [.int .u16 (ds : Int)]), (1, [.int .u8 ((fg.toNat : Nat) : Int)]), (1, [.int .i64 sa]), (1, [.bool z]), (1, [.int .i64 da]), (1, [.bool s1.six]), (16, u8s s1.b), (1, [.bool d1.six]), (16, u8s d1.b), (1, [.int .u16 (sr : Int)]), (1, [.int .u16 (ds : Int)]), (1, [.int .u8 ((pr.toNat : Nat) : Int)])]]) ?_; dsimp only [prev0, List.length_nil, List.length_cons])
   | (refine gAny ?_; first | (refine gOp ?_; first | refine RGl.rdA ?_ | refine RGl.rdX (fun e hk => by (try dsimp only [bndR, ensR, oksR, fcutR, List.append_nil, List.nil_append, List.cons_append, List.append_assoc] at hk ⊢); exact readB) ?_) | (refine gSt ?_; refine RGl.stA ?_) | (refine RGl.fin (fun e hk => ?_); (try dsimp only [bndA, ensAR, oksA, List.append_nil, List.nil_append, List.cons_append, List.append_assoc] at hk ⊢); (repeat (obtain ⟨hk1, hk⟩ := hk))) | fail)
   | (refine isCond ?_; first | refine WPc.cT ?_ | refine WPc.cF ?_ | (refine WPc.cQ (fun hc => ?_) (fun hc => ?_) <;> try exact prA))
   | (refine isOp ?_; first | refine WPl.rd ?_ | refine WPl.sk ?_ | refine WPl.rdB ?_)
   | (refine isAl ?_; refine WPl.nw fun g => ?_)
   | (refine isBx ?_; refine WPl.nw fun g => ?_)
   | (refine isSt ?_; first | refine WPl.st1 ?_ | refine WPl.stA ?_ | refine WPl.stEB ?_ | refine WPl.stRB ?_)
   | (show WPl _ _ _ _ _ _ _ (⟨_, .indexAddr _ _ _, _, _, _, _⟩ :: _) _; refine WPl.rdX (ReadR.indexE rfl rfl hasA (by first | assumption | omega)) ?_)
   | (show WPl _ _ _ _ _ _ _ (⟨_, .fieldAddr _ _ _, _, _, _, _⟩ :: _) _; refine WPl.rdX (ReadR.fieldE rfl hasA (by first | assumption | omega)) ?_)
   | (show WPl _ _ _ _ _ _ _ (⟨_, .load _ _, _, _, _, _⟩ :: _) _; first | refine WPl.rdX (ReadR.loadE rfl hasA (by assumption)) ?_ | refine WPl.rdX (ReadR.loadES (by assumption) (by first | assumption | omega) rfl hasA) ?_)
   | (show WPl _ _ _ _ _ _ _ (⟨_, .slice _ _ _ _ _, _, _, _, _⟩ :: _) _; first | refine WPl.rdX (ReadR.sliceH rfl rfl hasA (by omega)) ?_ | refine WPl.rdX (ReadR.sliceL rfl rfl hasA (by omega)) ?_ | refine WPl.rdX (ReadR.sliceLH rfl rfl rfl hasA (by omega) (by omega)) ?_)
   | (refine WPl.spQ (fun hc => ?_) (fun hc => ?_) <;> try exact prA)
   | fail)
  repeat' (first
   | refine WPl.nil ?_ | refine WPq.then ?_ | refine WPq.thenR ?_ | refine WPq.thenE ?_ | refine WPq.blockN ?_ | refine WPq.blockR ?_ | refine WPq.blockE ?_ | refine WPq.blockO rfl ?_ | refine WPc.seq ?_ | refine WPc.block ?_ | refine WPc.ret ?_ | refine WPc.exit ?_ | refine WPc.skip ?_ | refine WPc.region ?_
   | (refine isReg 15 ?_; refine WPc.drA [([16], [112, 113, 114]), ([16], [111, 113, 114, 115, 116]), ([16], [111, 112, 114, 115, 116, 117, 118]), ([16], [111, 112, 113, 115, 116, 117, 118, 119, 120]), ([0, 16], [111, 112, 113, 114]), ([0, 4, 16], [111, 112, 113, 114, 115]), ([0, 4, 5, 16], [111, 112, 113, 114, 115, 116]), ([0, 1, 4, 5, 6, 16], [111, 112, 113, 114, 115, 116]), ([0, 1, 4, 5, 6, 7, 16], [111, 112, 113, 114, 115, 116, 117]), ([0, 1, 4, 5, 6, 7, 8, 16], [111, 112, 113, 114, 115, 116, 117, 118]), ([0, 1, 2, 4, 5, 6, 7, 8, 9, 16], [111, 112, 113, 114, 115, 116, 117, 118]), ([0, 1, 2, 4, 5, 6, 7, 8, 9, 10, 16], [111, 112, 113, 114, 115, 116, 117, 118, 119]), ([0, 1, 2, 4, 5, 6, 7, 8, 9, 10, 11, 16], [111, 112, 113, 114, 115, 116, 117, 118, 119, 120]), ([0, 1, 2, 3, 4, 5, 6, 7, 8, 9, 10, 11, 12, 16], [111, 112, 113, 114, 115, 116, 117, 118, 119, 120]), ([0, 1, 2, 3, 4, 5, 6, 7, 8, 9, 10, 11, 12, 13, 16], [111, 112, 113, 114, 115, 116, 117, 118, 119, 120, 121]), ([0, 1, 2, 3, 4, 5, 6, 7, 8, 9, 10, 11, 12, 13, 14, 16], [111, 112, 113, 114, 115, 116, 117, 118, 119, 120, 121, 122])] [(16, 6), (6, 9), (9, 12), (12, 15), (16, 0), (16, 4), (16, 5), (6, 7), (6, 8), (9, 10), (9, 11), (12, 13), (12, 14)] (Γx := [bx g22 39 [(1, [.bool six]), (1, [.int .u8 ((pr.toNat : Nat) : Int)]), (1, [.int .i64 pos]), (1, [.bool s1.six]), (16, u8s s1.b), (1, [.bool d1.six]), (16, u8s d1.b), (1, [.bool pt]), (1, [.int .u8 ((hq.toNat : Nat) : Int)]), (1, [.int .u16 (sr : Int)]), (1, [.int .u16 (ds : Int)]), (1, [.int .u8 ((fg.toNat : Nat) : Int)]), (1, [.int .i64 sa]), (1, [.bool z]), (1, [.int .i64 da]), (1, [.bool s1.six]), (16, u8s s1.b), (1, [.bool d1.six]), (16, u8s d1.b), (1, [.int .u16 (sr : Int)]), (1, [.int .u16 (ds : Int)]), (1, [.int .u8 ((pr.toNat : Nat) : Int)])]]) ?_; dsimp only [prev0, List.length_nil, List.length_cons])
   | (refine gAny ?_; first | (refine gC 143 ?_; refine RGl.vl (fun e hk => OpT.callN ((c143 _ _))) ?_) | (refine gC 149 ?_; refine RGl.vl (fun e hk => OpT.callN ((c149 _ _))) ?_) | (refine gC 152 ?_; refine RGl.vl (fun e hk => OpT.callN (c85)) ?_) | (refine gD 124 ?_; refine RGl.rdX (fun e hk => by (try dsimp only [bndR, ensR, oksR, fcutR, List.append_nil, List.nil_append, List.cons_append, List.append_assoc] at hk ⊢); exact ReadR.binE rfl rfl BinR.eql (congrArg Value.bool (decide_eq_true rfl))) ?_) | (refine gD 127 ?_; refine RGl.rdX (fun e hk => by (try dsimp only [bndR, ensR, oksR, fcutR, List.append_nil, List.nil_append, List.cons_append, List.append_assoc] at hk ⊢); exact ReadR.binE rfl rfl BinR.eql (congrArg Value.bool (decide_eq_true rfl))) ?_) | (refine gD 132 ?_; refine RGl.rdX (fun e hk => by (try dsimp only [bndR, ensR, oksR, fcutR, List.append_nil, List.nil_append, List.cons_append, List.append_assoc] at hk ⊢); exact ReadR.binE rfl rfl (BinR.eqlA eqcA) (congrArg Value.bool (pkEq (a := ⟨⟨six, pr, pos, s1, a, pt, hq⟩, ⟨sr, p, fg, sa, z, da⟩, ⟨s1, a, sr, p, pr⟩⟩) (b := ⟨⟨six, pr, pos, s1, a, pt, hq⟩, ⟨sr, p, fg, sa, z, da⟩, ⟨s1, a, sr, p, pr⟩⟩) rfl))) ?_) | (refine gD 137 ?_; refine RGl.rdX (fun e hk => by (try dsimp only [bndR, ensR, oksR, fcutR, List.append_nil, List.nil_append, List.cons_append, List.append_assoc] at hk ⊢); exact ReadR.binE rfl rfl (BinR.eqlA eqcA) (congrArg Value.bool (pkEq (a := ⟨⟨six, pr, pos, a, d1, pt, hq⟩, ⟨p, ds, fg, sa, z, da⟩, ⟨a, d1, p, ds, pr⟩⟩) (b := ⟨⟨six, pr, pos, a, d1, pt, hq⟩, ⟨p, ds, fg, sa, z, da⟩, ⟨a, d1, p, ds, pr⟩⟩) rfl))) ?_) | (refine gOp ?_; first | refine RGl.rdA ?_ | refine RGl.rdX (fun e hk => by (try dsimp only [bndR, ensR, oksR, fcutR, List.append_nil, List.nil_append, List.cons_append, List.append_assoc] at hk ⊢); exact readB) ?_) | (refine gSt ?_; refine RGl.stA ?_) | (refine RGl.fin (fun e hk => ?_); (try dsimp only [bndA, ensAR, oksA, List.append_nil, List.nil_append, List.cons_append, List.append_assoc] at hk ⊢); (repeat (obtain ⟨hk1, hk⟩ := hk))) | fail)
   | (refine isCond ?_; first | refine WPc.cT ?_ | refine WPc.cF ?_ | (refine WPc.cQ (fun hc => ?_) (fun hc => ?_) <;> try exact prA))
   | (refine isD 124 ?_; refine WPl.rdX (ReadR.binE rfl rfl BinR.eql (congrArg Value.bool (decide_eq_true rfl))) ?_)
   | (refine isD 127 ?_; refine WPl.rdX (ReadR.binE rfl rfl BinR.eql (congrArg Value.bool (decide_eq_true rfl))) ?_)
   | (refine isD 132 ?_; refine WPl.rdX (ReadR.binE rfl rfl (BinR.eqlA eqcA) (congrArg Value.bool (pkEq (a := ⟨⟨six, pr, pos, s1, a, pt, hq⟩, ⟨sr, p, fg, sa, z, da⟩, ⟨s1, a, sr, p, pr⟩⟩) (b := ⟨⟨six, pr, pos, s1, a, pt, hq⟩, ⟨sr, p, fg, sa, z, da⟩, ⟨s1, a, sr, p, pr⟩⟩) rfl))) ?_)
   | (refine isD 137 ?_; refine WPl.rdX (ReadR.binE rfl rfl (BinR.eqlA eqcA) (congrArg Value.bool (pkEq (a := ⟨⟨six, pr, pos, a, d1, pt, hq⟩, ⟨p, ds, fg, sa, z, da⟩, ⟨a, d1, p, ds, pr⟩⟩) (b := ⟨⟨six, pr, pos, a, d1, pt, hq⟩, ⟨p, ds, fg, sa, z, da⟩, ⟨a, d1, p, ds, pr⟩⟩) rfl))) ?_)
   | (refine isC 143 ?_; refine WPl.cV ((c143 _ _)) ?_)
   | (refine isC 149 ?_; refine WPl.cV ((c149 _ _)) ?_)
   | (refine isC 152 ?_; refine WPl.cV (c85) ?_)
   | (refine isOp ?_; first | refine WPl.rd ?_ | refine WPl.sk ?_ | refine WPl.rdB ?_)
   | (refine isAl ?_; refine WPl.nw fun g => ?_)
   | (refine isBx ?_; refine WPl.nw fun g => ?_)
   | (refine isSt ?_; first | refine WPl.st1 ?_ | refine WPl.stA ?_ | refine WPl.stEB ?_ | refine WPl.stRB ?_)
   | (show WPl _ _ _ _ _ _ _ (⟨_, .indexAddr _ _ _, _, _, _, _⟩ :: _) _; refine WPl.rdX (ReadR.indexE rfl rfl hasA (by first | assumption | omega)) ?_)
   | (show WPl _ _ _ _ _ _ _ (⟨_, .fieldAddr _ _ _, _, _, _, _⟩ :: _) _; refine WPl.rdX (ReadR.fieldE rfl hasA (by first | assumption | omega)) ?_)
   | (show WPl _ _ _ _ _ _ _ (⟨_, .load _ _, _, _, _, _⟩ :: _) _; first | refine WPl.rdX (ReadR.loadE rfl hasA (by assumption)) ?_ | refine WPl.rdX (ReadR.loadES (by assumption) (by first | assumption | omega) rfl hasA) ?_)
   | (show WPl _ _ _ _ _ _ _ (⟨_, .slice _ _ _ _ _, _, _, _, _⟩ :: _) _; first | refine WPl.rdX (ReadR.sliceH rfl rfl hasA (by omega)) ?_ | refine WPl.rdX (ReadR.sliceL rfl rfl hasA (by omega)) ?_ | refine WPl.rdX (ReadR.sliceLH rfl rfl rfl hasA (by omega) (by omega)) ?_)
   | (refine WPl.spQ (fun hc => ?_) (fun hc => ?_) <;> try exact prA)
   | fail)
  all_goals try (first | exact WPq.dTp | exact WPq.dTs | exact WPq.dV | exact WPq.dR | exact WPq.dR2 | exact WPq.dH | exact WPq.dBH | exact WPq.dT)
theorem natRewrites_t (v : Value) (l : List UInt8) (a : Adr) (p : Nat) (hp : p < 65536) : Triple Try.prog 3 #[v, ag (adc a), .int .u16 (p : Int)] [rb v l] (RVal (.bool true)) := by
  by_cases h : natE (l.take 2060) a p = 0
  · exact nr_ok v l a p (by omega) h
  · exact nr_no v l a p (by omega) h

end Go.Proofs.Ytjfhiifpnpokpaa
