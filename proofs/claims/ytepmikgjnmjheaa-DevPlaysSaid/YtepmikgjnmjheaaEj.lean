/- Law of layer 3 (dev): an act, done to the device and to the reference. -/
import Derived.Test.YtepmikgjnmjheaaEi
import Derived.Test.YtepmikgjnmjheaaDb
import Derived.Test.YtepmikgjnmjheaaDa
namespace Go.Proofs.Ytepmikgjnmjheaa
theorem fpOb2 {Γf : List Asn} {e : TypeId} {sz m : Nat} {v : Value} {xs : List Value} (h : rowN e sz v m xs ∈ Γf) : ∀ A, A ∈ [rdN v m xs] → ∃ B, B ∈ Γf ∧ ∀ g, A.fp g → B.fp g := fun A hA => ⟨_, h, fun g hg => by rw [List.mem_singleton.1 hA] at hg; exact hg.2⟩
open Go.RowKit
set_option linter.unusedSimpArgs false
set_option linter.unusedVariables false
set_option maxRecDepth 20000
set_option maxHeartbeats 1000000
attribute [local irreducible] WPc WPl WPq ReadR OpT BinR HasS bx rdN rowN Take Takes Prov Triple ResF BuildP Done ag Int.decLt Int.decLe Int.instDecidableEq
attribute [local irreducible] mp rmp rg rgo bag vrow secs mput mget mfind mdel intsV skeys vault pickG fburn fb1 valsV zAt zB vers crashT intsN
theorem intsV_take {l : List Int} {k : Nat} : intsV (l.take k) = (intsV l).take k := by with_unfolding_all exact List.map_take
instance : Inhabited RfS := ⟨⟨.slice none 0 0, [], .slice none 0 0, .slice none 0 0, [], [], 0, []⟩⟩
abbrev bothA (gV mD : Nat) (vd : Value) (gX : Nat) (S : DS) (R : RfS) : List Asn := [bx gV 79 (dvc S.fu vd mD S.cn), rowN 81 256 vd S.ls.length (secs S.ls), mp secM mD S.es, bag S.es, bx gX 51 (rdc R.vL R.vA R.vB R.fu R.wr), rowN 31 1 R.vL R.L.length (valsV R.L), rowN 3 1 R.vA R.Z.length (intsV (zAt R.Z)), rowN 31 1 R.vB R.Z.length (valsV (zB R.Z)), vault R.rs]
def RBoth (gV mD : Nat) (vd : Value) (gX n k : Nat) : Value → List Asn → Prop := fun v Γ => ∃ S R, v = .bool true ∧ S.vw = R.vw ∧ DInv n k S ∧ RInv n k R ∧ Γ = bothA gV mD vd gX S R
section
variable (gV mD : Nat) (vd : Value) (gX n k : Nat) (S : DS) (R : RfS) (x : DA)
theorem does1_t (hDi : DInv n k S) (hXi : RInv n k R) (hvw : S.vw = R.vw) (hn : n ≤ 100000) (hkb : k ≤ 90000) (hw : daW x) (hkk : x.k = 1) :
    Triple Try.prog 22 #[hD gV, hD gX, ag (daC x)] (rdN x.lv x.l.length (intsV x.l) :: bothA gV mD vd gX S R) (RBoth gV mD vd gX n (k + 1)) := by
  obtain ⟨w1, w2, w3, w4, w5⟩ := hw
  have hfx := daC_ok w5
  by_cases hr : 0 ≤ x.s ∧ x.s < (n : Int)
  · obtain ⟨j, hj⟩ : ∃ j : Nat, x.s = (j : Int) := ⟨x.s.toNat, by omega⟩
    have hjn : j < n := by omega
    have c35 := drd_t gV mD vd n k S j hDi hn (by omega) hjn
    cases hf : R.vw.fails 1 with
    | true =>
      have c42 := rrdF_t gX n k R j hXi hn (by omega) hjn hf
      have hq : S.vw.rd j = (R.vw.burn 1, [], 3) := by rw [hvw]; unfold Dv.rd; rw [if_pos hf]
      rw [hq] at c35
      rw [← hj] at c35 c42
      refine Triple.enter Try.func22 rfl Try.ntmps22 rfl (fun W => ?_)
      dsimp only [argsF, Nat.reduceAdd]
      repeat' (first
       | refine WPl.nil ?_ | refine WPq.then ?_ | refine WPq.thenR ?_ | refine WPq.thenE ?_ | refine WPq.blockN ?_ | refine WPq.blockR ?_ | refine WPq.blockE ?_ | refine WPq.blockO rfl ?_ | refine WPc.seq ?_ | refine WPc.block ?_ | refine WPc.ret ?_ | refine WPc.exit ?_ | refine WPc.skip ?_ | refine WPc.region ?_
       | (refine isCond ?_; first | refine WPc.cT ?_ | refine WPc.cF ?_ | (refine WPc.cQ (fun hc => ?_) (fun hc => ?_) <;> try exact prA))
       | (refine isD 5 ?_; refine WPl.boxC (daC x) hfx rfl (fun g5 => ?_))
       | (refine isD 30 ?_; refine WPl.rdX (ReadR.binE rfl rfl BinR.eql (congrArg Value.bool (decide_eq_true hkk))) ?_)
       | (refine isC 35 ?_; refine WPl.cXs (c35) fun v Γ1 hR => ?_; obtain ⟨S1, sv, rfl, hsv, hS1, hSi, rfl⟩ := hR; (try dsimp only [putF, List.cons_append, List.nil_append]))
       | (refine isC 42 ?_; refine WPl.cXs (c42) fun v Γ1 hR => ?_; obtain ⟨R1, cv, rfl, hcv, hR1, hRi, rfl⟩ := hR; (try dsimp only [putF, List.cons_append, List.nil_append]))
       | (refine isD 49 ?_; refine WPl.rdX (ReadR.binE rfl rfl BinR.strUE (congrArg Value.bool (decide_eq_true rfl))) ?_)
       | (refine isD 53 ?_; refine WPl.rdX (ReadR.binE rfl rfl BinR.eql (congrArg Value.bool (decide_eq_true rfl))) ?_)
       | (refine isOp ?_; first | refine WPl.rd ?_ | refine WPl.sk ?_ | refine WPl.rdB ?_)
       | (refine isBx ?_; refine WPl.nw fun g => ?_)
       | (show WPl _ _ _ _ _ _ _ (⟨_, .indexAddr _ _ _, _, _, _, _⟩ :: _) _; refine WPl.rdX (ReadR.indexE rfl rfl hasA (by first | assumption | omega)) ?_)
       | (show WPl _ _ _ _ _ _ _ (⟨_, .fieldAddr _ _ _, _, _, _, _⟩ :: _) _; refine WPl.rdX (ReadR.fieldE rfl hasA (by first | assumption | omega)) ?_)
       | (show WPl _ _ _ _ _ _ _ (⟨_, .load _ _, _, _, _, _⟩ :: _) _; first | refine WPl.rdX (ReadR.loadE rfl hasA (by assumption)) ?_ | refine WPl.rdX (ReadR.loadES (by assumption) (by first | assumption | omega) rfl hasA) ?_)
       | (show WPl _ _ _ _ _ _ _ (⟨_, .slice _ _ _ _ _, _, _, _, _⟩ :: _) _; first | refine WPl.rdX (ReadR.sliceH rfl rfl hasA (by omega)) ?_ | refine WPl.rdX (ReadR.sliceL rfl rfl hasA (by omega)) ?_ | refine WPl.rdX (ReadR.sliceLH rfl rfl rfl hasA (by omega) (by omega)) ?_)
       | (refine WPl.spQ (fun hc => ?_) (fun hc => ?_) <;> try exact prA)
       | fail)
      refine WPq.dX (ho := ownsW) (vs := [.bool true]) (bothA gV mD vd gX S1 R1) ⟨S1, R1, rfl, hS1.trans hR1.symm, hSi.mono (Nat.le_succ _), hRi.mono (Nat.le_succ _), rfl⟩

    | false =>
      have c42 := rrd_t gX n k R j hXi hn (by omega) hjn hf
      have hq : S.vw.rd j = (R.vw.burn 1, (R.vw.now j).b, 0) := by rw [hvw]; unfold Dv.rd; rw [if_neg (by rw [hf]; simp)]
      rw [hq] at c35
      rw [← hj] at c35 c42
      obtain ⟨s0, hs0⟩ : ∃ s0, s0 = R.vw.now j := ⟨_, rfl⟩
      rw [← hs0] at c35 c42
      refine Triple.enter Try.func22 rfl Try.ntmps22 rfl (fun W => ?_)
      dsimp only [argsF, Nat.reduceAdd]
      repeat' (first
       | refine WPl.nil ?_ | refine WPq.then ?_ | refine WPq.thenR ?_ | refine WPq.thenE ?_ | refine WPq.blockN ?_ | refine WPq.blockR ?_ | refine WPq.blockE ?_ | refine WPq.blockO rfl ?_ | refine WPc.seq ?_ | refine WPc.block ?_ | refine WPc.ret ?_ | refine WPc.exit ?_ | refine WPc.skip ?_ | refine WPc.region ?_
       | (refine isCond ?_; first | refine WPc.cT ?_ | refine WPc.cF ?_ | (refine WPc.cQ (fun hc => ?_) (fun hc => ?_) <;> try exact prA))
       | (refine isD 5 ?_; refine WPl.boxC (daC x) hfx rfl (fun g5 => ?_))
       | (refine isD 30 ?_; refine WPl.rdX (ReadR.binE rfl rfl BinR.eql (congrArg Value.bool (decide_eq_true hkk))) ?_)
       | (refine isC 35 ?_; refine WPl.cXs (c35) fun v Γ1 hR => ?_; obtain ⟨S1, sv, rfl, hsv, hS1, hSi, rfl⟩ := hR; (try dsimp only [putF, List.cons_append, List.nil_append]))
       | (refine isC 42 ?_; refine WPl.cXs (c42) fun v Γ1 hR => ?_; obtain ⟨R1, cv, rfl, hcv, hin1, hR1, hRi, rfl⟩ := hR; (try dsimp only [putF, List.cons_append, List.nil_append]))
       | (refine isD 48 ?_; refine WPl.rdX (ReadR.str rfl rfl rfl (HasS.vault memA hin1)) ?_)
       | (refine isD 49 ?_; refine WPl.rdX (ReadR.binE rfl rfl BinR.strUE (congrArg Value.bool (decide_eq_true rfl))) ?_)
       | (refine isD 53 ?_; refine WPl.rdX (ReadR.binE rfl rfl BinR.eql (congrArg Value.bool (decide_eq_true rfl))) ?_)
       | (refine isOp ?_; first | refine WPl.rd ?_ | refine WPl.sk ?_ | refine WPl.rdB ?_)
       | (refine isBx ?_; refine WPl.nw fun g => ?_)
       | (show WPl _ _ _ _ _ _ _ (⟨_, .indexAddr _ _ _, _, _, _, _⟩ :: _) _; refine WPl.rdX (ReadR.indexE rfl rfl hasA (by first | assumption | omega)) ?_)
       | (show WPl _ _ _ _ _ _ _ (⟨_, .fieldAddr _ _ _, _, _, _, _⟩ :: _) _; refine WPl.rdX (ReadR.fieldE rfl hasA (by first | assumption | omega)) ?_)
       | (show WPl _ _ _ _ _ _ _ (⟨_, .load _ _, _, _, _, _⟩ :: _) _; first | refine WPl.rdX (ReadR.loadE rfl hasA (by assumption)) ?_ | refine WPl.rdX (ReadR.loadES (by assumption) (by first | assumption | omega) rfl hasA) ?_)
       | (show WPl _ _ _ _ _ _ _ (⟨_, .slice _ _ _ _ _, _, _, _, _⟩ :: _) _; first | refine WPl.rdX (ReadR.sliceH rfl rfl hasA (by omega)) ?_ | refine WPl.rdX (ReadR.sliceL rfl rfl hasA (by omega)) ?_ | refine WPl.rdX (ReadR.sliceLH rfl rfl rfl hasA (by omega) (by omega)) ?_)
       | (refine WPl.spQ (fun hc => ?_) (fun hc => ?_) <;> try exact prA)
       | fail)
      refine WPq.dX (ho := ownsW) (vs := [.bool true]) (bothA gV mD vd gX S1 R1) ⟨S1, R1, rfl, hS1.trans hR1.symm, hSi.mono (Nat.le_succ _), hRi.mono (Nat.le_succ _), rfl⟩

  · have hi : x.s < 0 ∨ (n : Int) ≤ x.s := by omega
    have c35 := drdNo_t gV mD vd n k S x.s hDi hn hi
    have c42 := rrdNo_t gX n k R x.s hXi hn hi
    rw [hvw] at c35
    refine Triple.enter Try.func22 rfl Try.ntmps22 rfl (fun W => ?_)
    dsimp only [argsF, Nat.reduceAdd]
    repeat' (first
     | refine WPl.nil ?_ | refine WPq.then ?_ | refine WPq.thenR ?_ | refine WPq.thenE ?_ | refine WPq.blockN ?_ | refine WPq.blockR ?_ | refine WPq.blockE ?_ | refine WPq.blockO rfl ?_ | refine WPc.seq ?_ | refine WPc.block ?_ | refine WPc.ret ?_ | refine WPc.exit ?_ | refine WPc.skip ?_ | refine WPc.region ?_
     | (refine isCond ?_; first | refine WPc.cT ?_ | refine WPc.cF ?_ | (refine WPc.cQ (fun hc => ?_) (fun hc => ?_) <;> try exact prA))
     | (refine isD 5 ?_; refine WPl.boxC (daC x) hfx rfl (fun g5 => ?_))
     | (refine isD 30 ?_; refine WPl.rdX (ReadR.binE rfl rfl BinR.eql (congrArg Value.bool (decide_eq_true hkk))) ?_)
     | (refine isC 35 ?_; refine WPl.cXs (c35) fun v Γ1 hR => ?_; obtain ⟨S1, sv, rfl, hsv, hS1, hSi, rfl⟩ := hR; (try dsimp only [putF, List.cons_append, List.nil_append]))
     | (refine isC 42 ?_; refine WPl.cXs (c42) fun v Γ1 hR => ?_; obtain ⟨R1, cv, rfl, hcv, hR1, hRi, rfl⟩ := hR; (try dsimp only [putF, List.cons_append, List.nil_append]))
     | (refine isD 49 ?_; refine WPl.rdX (ReadR.binE rfl rfl BinR.strUE (congrArg Value.bool (decide_eq_true rfl))) ?_)
     | (refine isD 53 ?_; refine WPl.rdX (ReadR.binE rfl rfl BinR.eql (congrArg Value.bool (decide_eq_true rfl))) ?_)
     | (refine isOp ?_; first | refine WPl.rd ?_ | refine WPl.sk ?_ | refine WPl.rdB ?_)
     | (refine isBx ?_; refine WPl.nw fun g => ?_)
     | (show WPl _ _ _ _ _ _ _ (⟨_, .indexAddr _ _ _, _, _, _, _⟩ :: _) _; refine WPl.rdX (ReadR.indexE rfl rfl hasA (by first | assumption | omega)) ?_)
     | (show WPl _ _ _ _ _ _ _ (⟨_, .fieldAddr _ _ _, _, _, _, _⟩ :: _) _; refine WPl.rdX (ReadR.fieldE rfl hasA (by first | assumption | omega)) ?_)
     | (show WPl _ _ _ _ _ _ _ (⟨_, .load _ _, _, _, _, _⟩ :: _) _; first | refine WPl.rdX (ReadR.loadE rfl hasA (by assumption)) ?_ | refine WPl.rdX (ReadR.loadES (by assumption) (by first | assumption | omega) rfl hasA) ?_)
     | (show WPl _ _ _ _ _ _ _ (⟨_, .slice _ _ _ _ _, _, _, _, _⟩ :: _) _; first | refine WPl.rdX (ReadR.sliceH rfl rfl hasA (by omega)) ?_ | refine WPl.rdX (ReadR.sliceL rfl rfl hasA (by omega)) ?_ | refine WPl.rdX (ReadR.sliceLH rfl rfl rfl hasA (by omega) (by omega)) ?_)
     | (refine WPl.spQ (fun hc => ?_) (fun hc => ?_) <;> try exact prA)
     | fail)
    refine WPq.dX (ho := ownsW) (vs := [.bool true]) (bothA gV mD vd gX S1 R1) ⟨S1, R1, rfl, hS1.trans hR1.symm, hSi.mono (Nat.le_succ _), hRi.mono (Nat.le_succ _), rfl⟩

theorem does2_t (hDi : DInv n k S) (hXi : RInv n k R) (hvw : S.vw = R.vw) (hn : n ≤ 100000) (hkb : k ≤ 90000) (hw : daW x) (hkk : x.k = 2) :
    Triple Try.prog 22 #[hD gV, hD gX, ag (daC x)] (rdN x.lv x.l.length (intsV x.l) :: bothA gV mD vd gX S R) (RBoth gV mD vd gX n (k + 1)) := by
  obtain ⟨w1, w2, w3, w4, w5⟩ := hw
  have hfx := daC_ok w5
  have c58 := dfl_t gV mD vd n k S hDi hn (by omega)
  have c60 := rfl_t gX n k R hXi hn (by omega)
  rw [hvw] at c58
  obtain ⟨r, hr⟩ : ∃ r, r = R.vw.flush.2 := ⟨_, rfl⟩
  obtain ⟨D1, hD1⟩ : ∃ D1, D1 = R.vw.flush.1 := ⟨_, rfl⟩
  rw [← hr, ← hD1] at c58 c60
  refine Triple.enter Try.func22 rfl Try.ntmps22 rfl (fun W => ?_)
  dsimp only [argsF, Nat.reduceAdd]
  repeat' (first
   | refine WPl.nil ?_ | refine WPq.then ?_ | refine WPq.thenR ?_ | refine WPq.thenE ?_ | refine WPq.blockN ?_ | refine WPq.blockR ?_ | refine WPq.blockE ?_ | refine WPq.blockO rfl ?_ | refine WPc.seq ?_ | refine WPc.block ?_ | refine WPc.ret ?_ | refine WPc.exit ?_ | refine WPc.skip ?_ | refine WPc.region ?_
   | (refine isCond ?_; first | refine WPc.cT ?_ | refine WPc.cF ?_ | (refine WPc.cQ (fun hc => ?_) (fun hc => ?_) <;> try exact prA))
   | (refine isD 5 ?_; refine WPl.boxC (daC x) hfx rfl (fun g5 => ?_))
   | (refine isD 30 ?_; refine WPl.rdX (ReadR.binE rfl rfl BinR.eql (congrArg Value.bool (decide_eq_false (show ¬ x.k = 1 by omega)))) ?_)
   | (refine isD 56 ?_; refine WPl.rdX (ReadR.binE rfl rfl BinR.eql (congrArg Value.bool (decide_eq_true hkk))) ?_)
   | (refine isC 58 ?_; refine WPl.cXs (c58) fun v Γ1 hR => ?_; obtain ⟨S1, rfl, hS1, hSi, rfl⟩ := hR; (try dsimp only [putF, List.cons_append, List.nil_append]))
   | (refine isC 60 ?_; refine WPl.cXs (c60) fun v Γ1 hR => ?_; obtain ⟨R1, rfl, hR1, hRi, rfl⟩ := hR; (try dsimp only [putF, List.cons_append, List.nil_append]))
   | (refine isD 61 ?_; refine WPl.rdX (ReadR.binE rfl rfl BinR.eql (congrArg Value.bool (decide_eq_true rfl))) ?_)
   | (refine isOp ?_; first | refine WPl.rd ?_ | refine WPl.sk ?_ | refine WPl.rdB ?_)
   | (refine isBx ?_; refine WPl.nw fun g => ?_)
   | (show WPl _ _ _ _ _ _ _ (⟨_, .indexAddr _ _ _, _, _, _, _⟩ :: _) _; refine WPl.rdX (ReadR.indexE rfl rfl hasA (by first | assumption | omega)) ?_)
   | (show WPl _ _ _ _ _ _ _ (⟨_, .fieldAddr _ _ _, _, _, _, _⟩ :: _) _; refine WPl.rdX (ReadR.fieldE rfl hasA (by first | assumption | omega)) ?_)
   | (show WPl _ _ _ _ _ _ _ (⟨_, .load _ _, _, _, _, _⟩ :: _) _; first | refine WPl.rdX (ReadR.loadE rfl hasA (by assumption)) ?_ | refine WPl.rdX (ReadR.loadES (by assumption) (by first | assumption | omega) rfl hasA) ?_)
   | (show WPl _ _ _ _ _ _ _ (⟨_, .slice _ _ _ _ _, _, _, _, _⟩ :: _) _; first | refine WPl.rdX (ReadR.sliceH rfl rfl hasA (by omega)) ?_ | refine WPl.rdX (ReadR.sliceL rfl rfl hasA (by omega)) ?_ | refine WPl.rdX (ReadR.sliceLH rfl rfl rfl hasA (by omega) (by omega)) ?_)
   | (refine WPl.spQ (fun hc => ?_) (fun hc => ?_) <;> try exact prA)
   | fail)
  refine WPq.dX (ho := ownsW) (vs := [.bool true]) (bothA gV mD vd gX S1 R1) ⟨S1, R1, rfl, hS1.trans hR1.symm, hSi.mono (Nat.le_succ _), hRi.mono (Nat.le_succ _), rfl⟩

theorem does3_t (hDi : DInv n k S) (hXi : RInv n k R) (hvw : S.vw = R.vw) (hn : n ≤ 100000) (hkb : k ≤ 90000) (hw : daW x) (hkk : x.k = 3) :
    Triple Try.prog 22 #[hD gV, hD gX, ag (daC x)] (rdN x.lv x.l.length (intsV x.l) :: bothA gV mD vd gX S R) (RBoth gV mD vd gX n (k + 1)) := by
  obtain ⟨w1, w2, w3, w4, w5⟩ := hw
  have hfx := daC_ok w5
  have hin : in64 ((x.b.toNat : Nat) : Int) := by have := x.b.toNat_lt; unfold in64; omega
  have c70 := dfail_t gV mD vd n k S x.s ((x.b.toNat : Nat) : Int) hDi hin
  have c77 := rfail_t gX n k R x.s ((x.b.toNat : Nat) : Int) hXi hin
  rw [hvw] at c70
  obtain ⟨r, hr⟩ : ∃ r, r = (R.vw.fail x.s ((x.b.toNat : Nat) : Int)).2 := ⟨_, rfl⟩
  obtain ⟨D1, hD1⟩ : ∃ D1, D1 = (R.vw.fail x.s ((x.b.toNat : Nat) : Int)).1 := ⟨_, rfl⟩
  rw [← hr, ← hD1] at c70 c77
  have hx8 := x.b.toNat_lt
  have hwr : IntKind.i64.wrap ((x.b.toNat : Nat) : Int) = ((x.b.toNat : Nat) : Int) := by rw [IntKind.wrap_i64]; omega
  by_cases hdummy : True
  · skip
    have hvA : ∀ v Γ', RD gV mD vd n k (.int .i64 r) D1 v Γ' → v = .int .i64 r ∧ ∃ s, Γ' = (fun s : DS => dvA gV mD vd s) s ∧ (fun s : DS => s.vw = D1 ∧ DInv n k s) s := fun v Γ' ⟨S', h1, h2, h3, h4⟩ => ⟨h1, S', h4, h2, h3⟩
    have hvB : ∀ v Γ', RRf gX n k (.int .i64 r) D1 v Γ' → v = .int .i64 r ∧ ∃ s, Γ' = (fun s : RfS => rsA gX s) s ∧ (fun s : RfS => s.vw = D1 ∧ RInv n k s) s := fun v Γ' ⟨S', h1, h2, h3, h4⟩ => ⟨h1, S', h4, h2, h3⟩
    refine Triple.enter Try.func22 rfl Try.ntmps22 rfl (fun W => ?_)
    dsimp only [argsF, Nat.reduceAdd]
    repeat' (first
     | refine WPl.nil ?_ | refine WPq.then ?_ | refine WPq.thenR ?_ | refine WPq.thenE ?_ | refine WPq.blockN ?_ | refine WPq.blockR ?_ | refine WPq.blockE ?_ | refine WPq.blockO rfl ?_ | refine WPc.seq ?_ | refine WPc.block ?_ | refine WPc.ret ?_ | refine WPc.exit ?_ | refine WPc.skip ?_ | refine WPc.region ?_
     | (refine isReg 10 ?_; refine WPc.drA [([16, 17, 18, 19, 20, 21, 22, 23, 24], [65, 66, 67, 68, 69, 71, 72, 73, 74, 75, 76]), ([16, 17, 18, 19, 20, 21, 22, 23, 24], [64, 67, 68, 69, 71, 72, 73, 74, 75, 76]), ([1, 16, 17, 18, 19, 20, 21, 22, 23, 24], [64, 65, 67, 68, 69, 71, 72, 73, 74, 75, 76]), ([16, 17, 18, 19, 20, 21, 22, 23, 24], [64, 65, 66, 71, 72, 73, 74, 75, 76]), ([3, 16, 17, 18, 19, 20, 21, 22, 23, 24], [64, 65, 66, 67, 71, 72, 73, 74, 75, 76]), ([3, 4, 16, 17, 18, 19, 20, 21, 22, 23, 24], [64, 65, 66, 67, 68, 71, 72, 73, 74, 75, 76]), ([0, 1, 2, 3, 4, 5, 16, 17, 18, 19, 20, 21, 22, 23, 24], [64, 65, 66, 67, 68, 69, 71, 72, 73, 74, 75, 76]), ([16, 17, 18, 19, 20, 21, 22, 23, 24], [64, 65, 66, 67, 68, 69, 70, 72, 73, 74, 75, 76]), ([16, 17, 18, 19, 20, 21, 22, 23, 24], [64, 65, 66, 67, 68, 69, 70, 71, 74, 75, 76]), ([8, 16, 17, 18, 19, 20, 21, 22, 23, 24], [64, 65, 66, 67, 68, 69, 70, 71, 72, 74, 75, 76]), ([16, 17, 18, 19, 20, 21, 22, 23, 24], [64, 65, 66, 67, 68, 69, 70, 71, 72, 73]), ([10, 16, 17, 18, 19, 20, 21, 22, 23, 24], [64, 65, 66, 67, 68, 69, 70, 71, 72, 73, 74]), ([10, 11, 16, 17, 18, 19, 20, 21, 22, 23, 24], [64, 65, 66, 67, 68, 69, 70, 71, 72, 73, 74, 75]), ([0, 1, 2, 3, 4, 5, 6, 7, 8, 9, 10, 11, 12, 16, 17, 18, 19, 20, 21, 22, 23, 24], [64, 65, 66, 67, 68, 69, 70, 71, 72, 73, 74, 75, 76]), ([0, 1, 2, 3, 4, 5, 6, 7, 8, 9, 10, 11, 12, 13, 16, 17, 18, 19, 20, 21, 22, 23, 24], [64, 65, 66, 67, 68, 69, 70, 71, 72, 73, 74, 75, 76, 77]), ([0, 1, 2, 3, 4, 5, 6, 7, 8, 9, 10, 11, 12, 13, 14, 16, 17, 18, 19, 20, 21, 22, 23, 24], [64, 65, 66, 67, 68, 69, 70, 71, 72, 73, 74, 75, 76, 77, 78])] [(16, 6), (17, 6), (18, 6), (19, 6), (20, 13), (21, 13), (22, 13), (23, 13), (24, 13), (16, 0), (16, 1), (16, 2), (16, 3), (16, 4), (16, 5), (17, 0), (17, 1), (17, 2), (17, 3), (17, 4), (17, 5), (18, 0), (18, 1), (18, 2), (18, 3), (18, 4), (18, 5), (19, 0), (19, 1), (19, 2), (19, 3), (19, 4), (19, 5), (20, 0), (20, 1), (20, 2), (20, 3), (20, 4), (20, 5), (20, 6), (20, 7), (20, 8), (20, 9), (20, 10), (20, 11), (20, 12), (21, 0), (21, 1), (21, 2), (21, 3), (21, 4), (21, 5), (21, 6), (21, 7), (21, 8), (21, 9), (21, 10), (21, 11), (21, 12), (22, 0), (22, 1), (22, 2), (22, 3), (22, 4), (22, 5), (22, 6), (22, 7), (22, 8), (22, 9), (22, 10), (22, 11), (22, 12), (23, 0), (23, 1), (23, 2), (23, 3), (23, 4), (23, 5), (23, 6), (23, 7), (23, 8), (23, 9), (23, 10), (23, 11), (23, 12), (24, 0), (24, 1), (24, 2), (24, 3), (24, 4), (24, 5), (24, 6), (24, 7), (24, 8), (24, 9), (24, 10), (24, 11), (24, 12)] (Γx := [bx gV 79 (dvc S.fu vd mD S.cn), rowN 81 256 vd S.ls.length (secs S.ls), mp secM mD S.es, bag S.es, bx gX 51 (rdc R.vL R.vA R.vB R.fu R.wr), rowN 31 1 R.vL R.L.length (valsV R.L), rowN 3 1 R.vA R.Z.length (intsV (zAt R.Z)), rowN 31 1 R.vB R.Z.length (valsV (zB R.Z)), vault R.rs]) (hox := ownsW) ?_; dsimp only [prev0, List.length_nil, List.length_cons])
     | (refine gAny ?_; first | (refine gD 30 ?_; refine RGl.rdX (fun e hk => by (try dsimp only [bndR, ensR, oksR, fcutR, List.append_nil, List.nil_append, List.cons_append, List.append_assoc] at hk ⊢); exact ReadR.binE rfl rfl BinR.eql (congrArg Value.bool (decide_eq_false (show ¬ x.k = 1 by omega)))) ?_) | (refine gD 56 ?_; refine RGl.rdX (fun e hk => by (try dsimp only [bndR, ensR, oksR, fcutR, List.append_nil, List.nil_append, List.cons_append, List.append_assoc] at hk ⊢); exact ReadR.binE rfl rfl BinR.eql (congrArg Value.bool (decide_eq_false (show ¬ x.k = 2 by omega)))) ?_) | (refine gD 63 ?_; refine RGl.rdX (fun e hk => by (try dsimp only [bndR, ensR, oksR, fcutR, List.append_nil, List.nil_append, List.cons_append, List.append_assoc] at hk ⊢); exact ReadR.binE rfl rfl BinR.eql (congrArg Value.bool (decide_eq_true hkk))) ?_) | (refine gD 69 ?_; refine RGl.rdX (fun e hk => by (try dsimp only [bndR, ensR, oksR, fcutR, List.append_nil, List.nil_append, List.cons_append, List.append_assoc] at hk ⊢); exact ReadR.conv rfl hwr) ?_) | (refine gD 76 ?_; refine RGl.rdX (fun e hk => by (try dsimp only [bndR, ensR, oksR, fcutR, List.append_nil, List.nil_append, List.cons_append, List.append_assoc] at hk ⊢); exact ReadR.conv rfl hwr) ?_) | (refine gD 78 ?_; refine RGl.rdX (fun e hk => by (try dsimp only [bndR, ensR, oksR, fcutR, List.append_nil, List.nil_append, List.cons_append, List.append_assoc] at hk ⊢); exact ReadR.binE rfl rfl BinR.eql (congrArg Value.bool (decide_eq_true rfl))) ?_) | (refine gOp ?_; (refine gC 70 ?_; refine RGl.relG (.int .i64 r) (fun s : DS => dvA gV mD vd s) (fun s : DS => s.vw = D1 ∧ DInv n k s) hvA (fun e hk => by (try dsimp only [bndR, ensR, oksR, fcutR, List.append_nil, List.nil_append, List.cons_append, List.append_assoc] at hk ⊢); exact OpT.callTs c70) ?_)) | (refine gOp ?_; (refine gC 77 ?_; refine RGl.relG (.int .i64 r) (fun s : RfS => rsA gX s) (fun s : RfS => s.vw = D1 ∧ RInv n k s) hvB (fun e hk => by (try dsimp only [bndR, ensR, oksR, fcutR, List.append_nil, List.nil_append, List.cons_append, List.append_assoc] at hk ⊢); exact OpT.callTs c77) ?_)) | (refine gOp ?_; first | refine RGl.rdA ?_ | refine RGl.rdX (fun e hk => by (try dsimp only [bndR, ensR, oksR, fcutR, List.append_nil, List.nil_append, List.cons_append, List.append_assoc] at hk ⊢); exact readB) ?_) | (refine RGl.fin (fun e hk => ?_); (try dsimp only [bndA, ensAR, oksA, List.append_nil, List.nil_append, List.cons_append, List.append_assoc] at hk ⊢); (repeat (obtain ⟨hk1, hk⟩ := hk))) | fail)
     | (refine isCond ?_; first | refine WPc.cT ?_ | refine WPc.cF ?_ | (refine WPc.cQ (fun hc => ?_) (fun hc => ?_) <;> try exact prA))
     | (refine isD 5 ?_; refine WPl.boxC (daC x) hfx rfl (fun g5 => ?_))
     | (refine isD 30 ?_; refine WPl.rdX (ReadR.binE rfl rfl BinR.eql (congrArg Value.bool (decide_eq_false (show ¬ x.k = 1 by omega)))) ?_)
     | (refine isD 56 ?_; refine WPl.rdX (ReadR.binE rfl rfl BinR.eql (congrArg Value.bool (decide_eq_false (show ¬ x.k = 2 by omega)))) ?_)
     | (refine isD 63 ?_; refine WPl.rdX (ReadR.binE rfl rfl BinR.eql (congrArg Value.bool (decide_eq_true hkk))) ?_)
     | (refine isD 69 ?_; refine WPl.rdX (ReadR.conv rfl hwr) ?_)
     | (refine isD 76 ?_; refine WPl.rdX (ReadR.conv rfl hwr) ?_)
     | (refine isD 78 ?_; refine WPl.rdX (ReadR.binE rfl rfl BinR.eql (congrArg Value.bool (decide_eq_true rfl))) ?_)
     | (refine isOp ?_; first | refine WPl.rd ?_ | refine WPl.sk ?_ | refine WPl.rdB ?_)
     | (refine isBx ?_; refine WPl.nw fun g => ?_)
     | (show WPl _ _ _ _ _ _ _ (⟨_, .indexAddr _ _ _, _, _, _, _⟩ :: _) _; refine WPl.rdX (ReadR.indexE rfl rfl hasA (by first | assumption | omega)) ?_)
     | (show WPl _ _ _ _ _ _ _ (⟨_, .fieldAddr _ _ _, _, _, _, _⟩ :: _) _; refine WPl.rdX (ReadR.fieldE rfl hasA (by first | assumption | omega)) ?_)
     | (show WPl _ _ _ _ _ _ _ (⟨_, .load _ _, _, _, _, _⟩ :: _) _; first | refine WPl.rdX (ReadR.loadE rfl hasA (by assumption)) ?_ | refine WPl.rdX (ReadR.loadES (by assumption) (by first | assumption | omega) rfl hasA) ?_)
     | (show WPl _ _ _ _ _ _ _ (⟨_, .slice _ _ _ _ _, _, _, _, _⟩ :: _) _; first | refine WPl.rdX (ReadR.sliceH rfl rfl hasA (by omega)) ?_ | refine WPl.rdX (ReadR.sliceL rfl rfl hasA (by omega)) ?_ | refine WPl.rdX (ReadR.sliceLH rfl rfl rfl hasA (by omega) (by omega)) ?_)
     | (refine WPl.spQ (fun hc => ?_) (fun hc => ?_) <;> try exact prA)
     | fail)
    dsimp only [Nat.reduceAdd] at *
    have hA : (fun s : DS => s.vw = D1 ∧ DInv n k s) (pickG (fun s : DS => dvA gV mD vd s) (fun s : DS => s.vw = D1 ∧ DInv n k s) (e 6).2) := by assumption
    have hB : (fun s : RfS => s.vw = D1 ∧ RInv n k s) (pickG (fun s : RfS => rsA gX s) (fun s : RfS => s.vw = D1 ∧ RInv n k s) (e 13).2) := by assumption
    obtain ⟨T, hT⟩ : ∃ T, T = (pickG (fun s : DS => dvA gV mD vd s) (fun s : DS => s.vw = D1 ∧ DInv n k s) (e 6).2) := ⟨_, rfl⟩
    obtain ⟨U, hU⟩ : ∃ U, U = (pickG (fun s : RfS => rsA gX s) (fun s : RfS => s.vw = D1 ∧ RInv n k s) (e 13).2) := ⟨_, rfl⟩
    rw [← hT] at hA
    rw [← hU] at hB
    obtain ⟨hA1, hA2⟩ := hA
    obtain ⟨hB1, hB2⟩ := hB
    rw [← hT, ← hU]
    refine WPq.dX (ho := ownsW) (vs := [.bool true]) (bothA gV mD vd gX T U) ⟨T, U, rfl, hA1.trans hB1.symm, hA2.mono (Nat.le_succ _), hB2.mono (Nat.le_succ _), rfl⟩
  · exact (hdummy trivial).elim
theorem does5_t (hDi : DInv n k S) (hXi : RInv n k R) (hvw : S.vw = R.vw) (hn : n ≤ 100000) (hkb : k ≤ 90000) (hw : daW x) (hkk : x.k = 5) :
    Triple Try.prog 22 #[hD gV, hD gX, ag (daC x)] (rdN x.lv x.l.length (intsV x.l) :: bothA gV mD vd gX S R) (RBoth gV mD vd gX n (k + 1)) := by
  obtain ⟨w1, w2, w3, w4, w5⟩ := hw
  have hfx := daC_ok w5
  have hsg : sgood S.vw x.s x.a = sgood R.vw x.s x.a := by rw [hvw]
  have hls : S.vw.ls.length = n := hDi.nl
  by_cases hg : sgood R.vw x.s x.a = true
  · have hg2 := hg
    rw [← hvw] at hg2
    unfold sgood at hg2
    rw [hls, Bool.and_eq_true, Bool.and_eq_true, Bool.and_eq_true, decide_eq_true_eq, decide_eq_true_eq, decide_eq_true_eq, decide_eq_true_eq] at hg2
    obtain ⟨j, hj⟩ : ∃ j : Nat, x.s = (j : Int) := ⟨x.s.toNat, by omega⟩
    obtain ⟨t, ht⟩ : ∃ t : Nat, x.a = (t : Int) := ⟨x.a.toNat, by omega⟩
    have c105 := dspoil_t gV mD vd n k S j t x.b hDi hn (by omega) (by omega) (by omega)
    have c113 := rspoil_t gX n k R j t x.b hXi hn (by omega) (by omega) (by omega)
    rw [hvw] at c105
    rw [← hj, ← ht] at c105 c113
    obtain ⟨D1, hD1⟩ : ∃ D1, D1 = (R.vw.spoil x.s x.a x.b).1 := ⟨_, rfl⟩
    rw [← hD1] at c105 c113
    have hvA : ∀ v Γ', RD gV mD vd n k (.bool true) D1 v Γ' → v = .bool true ∧ ∃ s, Γ' = (fun s : DS => dvA gV mD vd s) s ∧ (fun s : DS => s.vw = D1 ∧ DInv n k s) s := fun v Γ' ⟨S', h1, h2, h3, h4⟩ => ⟨h1, S', h4, h2, h3⟩
    have hvB : ∀ v Γ', RRf gX n k (.bool true) D1 v Γ' → v = .bool true ∧ ∃ s, Γ' = (fun s : RfS => rsA gX s) s ∧ (fun s : RfS => s.vw = D1 ∧ RInv n k s) s := fun v Γ' ⟨S', h1, h2, h3, h4⟩ => ⟨h1, S', h4, h2, h3⟩
    refine Triple.enter Try.func22 rfl Try.ntmps22 rfl (fun W => ?_)
    dsimp only [argsF, Nat.reduceAdd]
    repeat' (first
     | refine WPl.nil ?_ | refine WPq.then ?_ | refine WPq.thenR ?_ | refine WPq.thenE ?_ | refine WPq.blockN ?_ | refine WPq.blockR ?_ | refine WPq.blockE ?_ | refine WPq.blockO rfl ?_ | refine WPc.seq ?_ | refine WPc.block ?_ | refine WPc.ret ?_ | refine WPc.exit ?_ | refine WPc.skip ?_ | refine WPc.region ?_
     | (refine isReg 19 ?_; refine WPc.drA [([18, 19, 20, 21, 22, 23, 24, 25, 26], [99, 100, 101, 102, 103, 104, 106, 107, 108, 109, 110, 111, 112]), ([18, 19, 20, 21, 22, 23, 24, 25, 26], [98, 101, 102, 103, 104, 106, 107, 108, 109, 110, 111, 112]), ([1, 18, 19, 20, 21, 22, 23, 24, 25, 26], [98, 99, 101, 102, 103, 104, 106, 107, 108, 109, 110, 111, 112]), ([18, 19, 20, 21, 22, 23, 24, 25, 26], [98, 99, 100, 103, 104, 106, 107, 108, 109, 110, 111, 112]), ([3, 18, 19, 20, 21, 22, 23, 24, 25, 26], [98, 99, 100, 101, 103, 104, 106, 107, 108, 109, 110, 111, 112]), ([18, 19, 20, 21, 22, 23, 24, 25, 26], [98, 99, 100, 101, 102, 106, 107, 108, 109, 110, 111, 112]), ([5, 18, 19, 20, 21, 22, 23, 24, 25, 26], [98, 99, 100, 101, 102, 103, 106, 107, 108, 109, 110, 111, 112]), ([0, 1, 2, 3, 4, 5, 6, 18, 19, 20, 21, 22, 23, 24, 25, 26], [98, 99, 100, 101, 102, 103, 104, 106, 107, 108, 109, 110, 111, 112]), ([18, 19, 20, 21, 22, 23, 24, 25, 26], [98, 99, 100, 101, 102, 103, 104, 105, 107, 108, 109, 110, 111, 112]), ([18, 19, 20, 21, 22, 23, 24, 25, 26], [98, 99, 100, 101, 102, 103, 104, 105, 106, 109, 110, 111, 112]), ([9, 18, 19, 20, 21, 22, 23, 24, 25, 26], [98, 99, 100, 101, 102, 103, 104, 105, 106, 107, 109, 110, 111, 112]), ([18, 19, 20, 21, 22, 23, 24, 25, 26], [98, 99, 100, 101, 102, 103, 104, 105, 106, 107, 108, 111, 112]), ([11, 18, 19, 20, 21, 22, 23, 24, 25, 26], [98, 99, 100, 101, 102, 103, 104, 105, 106, 107, 108, 109, 111, 112]), ([18, 19, 20, 21, 22, 23, 24, 25, 26], [98, 99, 100, 101, 102, 103, 104, 105, 106, 107, 108, 109, 110]), ([13, 18, 19, 20, 21, 22, 23, 24, 25, 26], [98, 99, 100, 101, 102, 103, 104, 105, 106, 107, 108, 109, 110, 111]), ([0, 1, 2, 3, 4, 5, 6, 7, 8, 9, 10, 11, 12, 13, 14, 18, 19, 20, 21, 22, 23, 24, 25, 26], [98, 99, 100, 101, 102, 103, 104, 105, 106, 107, 108, 109, 110, 111, 112]), ([0, 1, 2, 3, 4, 5, 6, 7, 8, 9, 10, 11, 12, 13, 14, 15, 18, 19, 20, 21, 22, 23, 24, 25, 26], [98, 99, 100, 101, 102, 103, 104, 105, 106, 107, 108, 109, 110, 111, 112, 113]), ([0, 1, 2, 3, 4, 5, 6, 7, 8, 9, 10, 11, 12, 13, 14, 15, 16, 18, 19, 20, 21, 22, 23, 24, 25, 26], [98, 99, 100, 101, 102, 103, 104, 105, 106, 107, 108, 109, 110, 111, 112, 113, 114])] [(18, 7), (19, 7), (20, 7), (21, 7), (22, 15), (23, 15), (24, 15), (25, 15), (26, 15), (18, 0), (18, 1), (18, 2), (18, 3), (18, 4), (18, 5), (18, 6), (19, 0), (19, 1), (19, 2), (19, 3), (19, 4), (19, 5), (19, 6), (20, 0), (20, 1), (20, 2), (20, 3), (20, 4), (20, 5), (20, 6), (21, 0), (21, 1), (21, 2), (21, 3), (21, 4), (21, 5), (21, 6), (22, 0), (22, 1), (22, 2), (22, 3), (22, 4), (22, 5), (22, 6), (22, 7), (22, 8), (22, 9), (22, 10), (22, 11), (22, 12), (22, 13), (22, 14), (23, 0), (23, 1), (23, 2), (23, 3), (23, 4), (23, 5), (23, 6), (23, 7), (23, 8), (23, 9), (23, 10), (23, 11), (23, 12), (23, 13), (23, 14), (24, 0), (24, 1), (24, 2), (24, 3), (24, 4), (24, 5), (24, 6), (24, 7), (24, 8), (24, 9), (24, 10), (24, 11), (24, 12), (24, 13), (24, 14), (25, 0), (25, 1), (25, 2), (25, 3), (25, 4), (25, 5), (25, 6), (25, 7), (25, 8), (25, 9), (25, 10), (25, 11), (25, 12), (25, 13), (25, 14), (26, 0), (26, 1), (26, 2), (26, 3), (26, 4), (26, 5), (26, 6), (26, 7), (26, 8), (26, 9), (26, 10), (26, 11), (26, 12), (26, 13), (26, 14)] (Γx := [bx gV 79 (dvc S.fu vd mD S.cn), rowN 81 256 vd S.ls.length (secs S.ls), mp secM mD S.es, bag S.es, bx gX 51 (rdc R.vL R.vA R.vB R.fu R.wr), rowN 31 1 R.vL R.L.length (valsV R.L), rowN 3 1 R.vA R.Z.length (intsV (zAt R.Z)), rowN 31 1 R.vB R.Z.length (valsV (zB R.Z)), vault R.rs]) (hox := ownsW) ?_; dsimp only [prev0, List.length_nil, List.length_cons])
     | (refine gAny ?_; first | (refine gD 30 ?_; refine RGl.rdX (fun e hk => by (try dsimp only [bndR, ensR, oksR, fcutR, List.append_nil, List.nil_append, List.cons_append, List.append_assoc] at hk ⊢); exact ReadR.binE rfl rfl BinR.eql (congrArg Value.bool (decide_eq_false (show ¬ x.k = 1 by omega)))) ?_) | (refine gD 56 ?_; refine RGl.rdX (fun e hk => by (try dsimp only [bndR, ensR, oksR, fcutR, List.append_nil, List.nil_append, List.cons_append, List.append_assoc] at hk ⊢); exact ReadR.binE rfl rfl BinR.eql (congrArg Value.bool (decide_eq_false (show ¬ x.k = 2 by omega)))) ?_) | (refine gD 63 ?_; refine RGl.rdX (fun e hk => by (try dsimp only [bndR, ensR, oksR, fcutR, List.append_nil, List.nil_append, List.cons_append, List.append_assoc] at hk ⊢); exact ReadR.binE rfl rfl BinR.eql (congrArg Value.bool (decide_eq_false (show ¬ x.k = 3 by omega)))) ?_) | (refine gD 80 ?_; refine RGl.rdX (fun e hk => by (try dsimp only [bndR, ensR, oksR, fcutR, List.append_nil, List.nil_append, List.cons_append, List.append_assoc] at hk ⊢); exact ReadR.binE rfl rfl BinR.eql (congrArg Value.bool (decide_eq_false (show ¬ x.k = 4 by omega)))) ?_) | (refine gD 97 ?_; refine RGl.rdX (fun e hk => by (try dsimp only [bndR, ensR, oksR, fcutR, List.append_nil, List.nil_append, List.cons_append, List.append_assoc] at hk ⊢); exact ReadR.binE rfl rfl BinR.eql (congrArg Value.bool (decide_eq_true hkk))) ?_) | (refine gD 114 ?_; refine RGl.rdX (fun e hk => by (try dsimp only [bndR, ensR, oksR, fcutR, List.append_nil, List.nil_append, List.cons_append, List.append_assoc] at hk ⊢); exact ReadR.binE rfl rfl (BinR.eqlB rfl) rfl) ?_) | (refine gOp ?_; (refine gC 105 ?_; refine RGl.relG (.bool true) (fun s : DS => dvA gV mD vd s) (fun s : DS => s.vw = D1 ∧ DInv n k s) hvA (fun e hk => by (try dsimp only [bndR, ensR, oksR, fcutR, List.append_nil, List.nil_append, List.cons_append, List.append_assoc] at hk ⊢); exact OpT.callTs c105) ?_)) | (refine gOp ?_; (refine gC 113 ?_; refine RGl.relG (.bool true) (fun s : RfS => rsA gX s) (fun s : RfS => s.vw = D1 ∧ RInv n k s) hvB (fun e hk => by (try dsimp only [bndR, ensR, oksR, fcutR, List.append_nil, List.nil_append, List.cons_append, List.append_assoc] at hk ⊢); exact OpT.callTs c113) ?_)) | (refine gOp ?_; first | refine RGl.rdA ?_ | refine RGl.rdX (fun e hk => by (try dsimp only [bndR, ensR, oksR, fcutR, List.append_nil, List.nil_append, List.cons_append, List.append_assoc] at hk ⊢); exact readB) ?_) | (refine RGl.fin (fun e hk => ?_); (try dsimp only [bndA, ensAR, oksA, List.append_nil, List.nil_append, List.cons_append, List.append_assoc] at hk ⊢); (repeat (obtain ⟨hk1, hk⟩ := hk))) | fail)
     | (refine isCond ?_; first | refine WPc.cT ?_ | refine WPc.cF ?_ | (refine WPc.cQ (fun hc => ?_) (fun hc => ?_) <;> try exact prA))
     | (refine isD 5 ?_; refine WPl.boxC (daC x) hfx rfl (fun g5 => ?_))
     | (refine isD 30 ?_; refine WPl.rdX (ReadR.binE rfl rfl BinR.eql (congrArg Value.bool (decide_eq_false (show ¬ x.k = 1 by omega)))) ?_)
     | (refine isD 56 ?_; refine WPl.rdX (ReadR.binE rfl rfl BinR.eql (congrArg Value.bool (decide_eq_false (show ¬ x.k = 2 by omega)))) ?_)
     | (refine isD 63 ?_; refine WPl.rdX (ReadR.binE rfl rfl BinR.eql (congrArg Value.bool (decide_eq_false (show ¬ x.k = 3 by omega)))) ?_)
     | (refine isD 80 ?_; refine WPl.rdX (ReadR.binE rfl rfl BinR.eql (congrArg Value.bool (decide_eq_false (show ¬ x.k = 4 by omega)))) ?_)
     | (refine isD 97 ?_; refine WPl.rdX (ReadR.binE rfl rfl BinR.eql (congrArg Value.bool (decide_eq_true hkk))) ?_)
     | (refine isD 114 ?_; refine WPl.rdX (ReadR.binE rfl rfl (BinR.eqlB rfl) rfl) ?_)
     | (refine isOp ?_; first | refine WPl.rd ?_ | refine WPl.sk ?_ | refine WPl.rdB ?_)
     | (refine isBx ?_; refine WPl.nw fun g => ?_)
     | (show WPl _ _ _ _ _ _ _ (⟨_, .indexAddr _ _ _, _, _, _, _⟩ :: _) _; refine WPl.rdX (ReadR.indexE rfl rfl hasA (by first | assumption | omega)) ?_)
     | (show WPl _ _ _ _ _ _ _ (⟨_, .fieldAddr _ _ _, _, _, _, _⟩ :: _) _; refine WPl.rdX (ReadR.fieldE rfl hasA (by first | assumption | omega)) ?_)
     | (show WPl _ _ _ _ _ _ _ (⟨_, .load _ _, _, _, _, _⟩ :: _) _; first | refine WPl.rdX (ReadR.loadE rfl hasA (by assumption)) ?_ | refine WPl.rdX (ReadR.loadES (by assumption) (by first | assumption | omega) rfl hasA) ?_)
     | (show WPl _ _ _ _ _ _ _ (⟨_, .slice _ _ _ _ _, _, _, _, _⟩ :: _) _; first | refine WPl.rdX (ReadR.sliceH rfl rfl hasA (by omega)) ?_ | refine WPl.rdX (ReadR.sliceL rfl rfl hasA (by omega)) ?_ | refine WPl.rdX (ReadR.sliceLH rfl rfl rfl hasA (by omega) (by omega)) ?_)
     | (refine WPl.spQ (fun hc => ?_) (fun hc => ?_) <;> try exact prA)
     | fail)
    dsimp only [Nat.reduceAdd] at *
    have hA : (fun s : DS => s.vw = D1 ∧ DInv n k s) (pickG (fun s : DS => dvA gV mD vd s) (fun s : DS => s.vw = D1 ∧ DInv n k s) (e 7).2) := by assumption
    have hB : (fun s : RfS => s.vw = D1 ∧ RInv n k s) (pickG (fun s : RfS => rsA gX s) (fun s : RfS => s.vw = D1 ∧ RInv n k s) (e 15).2) := by assumption
    obtain ⟨T, hT⟩ : ∃ T, T = (pickG (fun s : DS => dvA gV mD vd s) (fun s : DS => s.vw = D1 ∧ DInv n k s) (e 7).2) := ⟨_, rfl⟩
    obtain ⟨U, hU⟩ : ∃ U, U = (pickG (fun s : RfS => rsA gX s) (fun s : RfS => s.vw = D1 ∧ RInv n k s) (e 15).2) := ⟨_, rfl⟩
    rw [← hT] at hA
    rw [← hU] at hB
    obtain ⟨hA1, hA2⟩ := hA
    obtain ⟨hB1, hB2⟩ := hB
    rw [← hT, ← hU]
    refine WPq.dX (ho := ownsW) (vs := [.bool true]) (bothA gV mD vd gX T U) ⟨T, U, rfl, hA1.trans hB1.symm, hA2.mono (Nat.le_succ _), hB2.mono (Nat.le_succ _), rfl⟩
  · have c105 := dspoilNo_t gV mD vd n k S x.s x.a x.b hDi hn (by rw [hsg]; simpa using hg)
    have c113 := rspoilNo_t gX n k R x.s x.a x.b hXi hn (by simpa using hg)
    refine Triple.enter Try.func22 rfl Try.ntmps22 rfl (fun W => ?_)
    dsimp only [argsF, Nat.reduceAdd]
    repeat' (first
     | refine WPl.nil ?_ | refine WPq.then ?_ | refine WPq.thenR ?_ | refine WPq.thenE ?_ | refine WPq.blockN ?_ | refine WPq.blockR ?_ | refine WPq.blockE ?_ | refine WPq.blockO rfl ?_ | refine WPc.seq ?_ | refine WPc.block ?_ | refine WPc.ret ?_ | refine WPc.exit ?_ | refine WPc.skip ?_ | refine WPc.region ?_
     | (refine isReg 19 ?_; refine WPc.drA [([], [99, 100, 101, 102, 103, 104, 106, 107, 108, 109, 110, 111, 112]), ([], [98, 101, 102, 103, 104, 106, 107, 108, 109, 110, 111, 112]), ([1], [98, 99, 101, 102, 103, 104, 106, 107, 108, 109, 110, 111, 112]), ([], [98, 99, 100, 103, 104, 106, 107, 108, 109, 110, 111, 112]), ([3], [98, 99, 100, 101, 103, 104, 106, 107, 108, 109, 110, 111, 112]), ([], [98, 99, 100, 101, 102, 106, 107, 108, 109, 110, 111, 112]), ([5], [98, 99, 100, 101, 102, 103, 106, 107, 108, 109, 110, 111, 112]), ([0, 1, 2, 3, 4, 5, 6], [98, 99, 100, 101, 102, 103, 104, 106, 107, 108, 109, 110, 111, 112]), ([], [98, 99, 100, 101, 102, 103, 104, 105, 107, 108, 109, 110, 111, 112]), ([], [98, 99, 100, 101, 102, 103, 104, 105, 106, 109, 110, 111, 112]), ([9], [98, 99, 100, 101, 102, 103, 104, 105, 106, 107, 109, 110, 111, 112]), ([], [98, 99, 100, 101, 102, 103, 104, 105, 106, 107, 108, 111, 112]), ([11], [98, 99, 100, 101, 102, 103, 104, 105, 106, 107, 108, 109, 111, 112]), ([], [98, 99, 100, 101, 102, 103, 104, 105, 106, 107, 108, 109, 110]), ([13], [98, 99, 100, 101, 102, 103, 104, 105, 106, 107, 108, 109, 110, 111]), ([0, 1, 2, 3, 4, 5, 6, 7, 8, 9, 10, 11, 12, 13, 14], [98, 99, 100, 101, 102, 103, 104, 105, 106, 107, 108, 109, 110, 111, 112]), ([0, 1, 2, 3, 4, 5, 6, 7, 8, 9, 10, 11, 12, 13, 14, 15], [98, 99, 100, 101, 102, 103, 104, 105, 106, 107, 108, 109, 110, 111, 112, 113]), ([0, 1, 2, 3, 4, 5, 6, 7, 8, 9, 10, 11, 12, 13, 14, 15, 16], [98, 99, 100, 101, 102, 103, 104, 105, 106, 107, 108, 109, 110, 111, 112, 113, 114])] [] (Γx := []) ?_; dsimp only [prev0, List.length_nil, List.length_cons])
     | (refine gAny ?_; first | (refine gD 30 ?_; refine RGl.rdX (fun e hk => by (try dsimp only [bndR, ensR, oksR, fcutR, List.append_nil, List.nil_append, List.cons_append, List.append_assoc] at hk ⊢); exact ReadR.binE rfl rfl BinR.eql (congrArg Value.bool (decide_eq_false (show ¬ x.k = 1 by omega)))) ?_) | (refine gD 56 ?_; refine RGl.rdX (fun e hk => by (try dsimp only [bndR, ensR, oksR, fcutR, List.append_nil, List.nil_append, List.cons_append, List.append_assoc] at hk ⊢); exact ReadR.binE rfl rfl BinR.eql (congrArg Value.bool (decide_eq_false (show ¬ x.k = 2 by omega)))) ?_) | (refine gD 63 ?_; refine RGl.rdX (fun e hk => by (try dsimp only [bndR, ensR, oksR, fcutR, List.append_nil, List.nil_append, List.cons_append, List.append_assoc] at hk ⊢); exact ReadR.binE rfl rfl BinR.eql (congrArg Value.bool (decide_eq_false (show ¬ x.k = 3 by omega)))) ?_) | (refine gD 80 ?_; refine RGl.rdX (fun e hk => by (try dsimp only [bndR, ensR, oksR, fcutR, List.append_nil, List.nil_append, List.cons_append, List.append_assoc] at hk ⊢); exact ReadR.binE rfl rfl BinR.eql (congrArg Value.bool (decide_eq_false (show ¬ x.k = 4 by omega)))) ?_) | (refine gD 97 ?_; refine RGl.rdX (fun e hk => by (try dsimp only [bndR, ensR, oksR, fcutR, List.append_nil, List.nil_append, List.cons_append, List.append_assoc] at hk ⊢); exact ReadR.binE rfl rfl BinR.eql (congrArg Value.bool (decide_eq_true hkk))) ?_) | (refine gOp ?_; (refine gC 105 ?_; refine RGl.vl (fun e hk => OpT.callN c105 (hΔ := by (try dsimp only [bndR, ensR, oksR, fcutR, List.append_nil, List.nil_append, List.cons_append, List.append_assoc] at hk ⊢); exact provsW)) ?_)) | (refine gOp ?_; (refine gC 113 ?_; refine RGl.vl (fun e hk => OpT.callN c113 (hΔ := by (try dsimp only [bndR, ensR, oksR, fcutR, List.append_nil, List.nil_append, List.cons_append, List.append_assoc] at hk ⊢); exact provsW)) ?_)) | (refine gD 114 ?_; refine RGl.rdX (fun e hk => by (try dsimp only [bndR, ensR, oksR, fcutR, List.append_nil, List.nil_append, List.cons_append, List.append_assoc] at hk ⊢); exact ReadR.binE rfl rfl (BinR.eqlB rfl) rfl) ?_) | (refine gOp ?_; first | refine RGl.rdA ?_ | refine RGl.rdX (fun e hk => by (try dsimp only [bndR, ensR, oksR, fcutR, List.append_nil, List.nil_append, List.cons_append, List.append_assoc] at hk ⊢); exact readB) ?_) | (refine RGl.fin (fun e hk => ?_); (try dsimp only [bndA, ensAR, oksA, List.append_nil, List.nil_append, List.cons_append, List.append_assoc] at hk ⊢); (repeat (obtain ⟨hk1, hk⟩ := hk))) | fail)
     | (refine isCond ?_; first | refine WPc.cT ?_ | refine WPc.cF ?_ | (refine WPc.cQ (fun hc => ?_) (fun hc => ?_) <;> try exact prA))
     | (refine isD 5 ?_; refine WPl.boxC (daC x) hfx rfl (fun g5 => ?_))
     | (refine isD 30 ?_; refine WPl.rdX (ReadR.binE rfl rfl BinR.eql (congrArg Value.bool (decide_eq_false (show ¬ x.k = 1 by omega)))) ?_)
     | (refine isD 56 ?_; refine WPl.rdX (ReadR.binE rfl rfl BinR.eql (congrArg Value.bool (decide_eq_false (show ¬ x.k = 2 by omega)))) ?_)
     | (refine isD 63 ?_; refine WPl.rdX (ReadR.binE rfl rfl BinR.eql (congrArg Value.bool (decide_eq_false (show ¬ x.k = 3 by omega)))) ?_)
     | (refine isD 80 ?_; refine WPl.rdX (ReadR.binE rfl rfl BinR.eql (congrArg Value.bool (decide_eq_false (show ¬ x.k = 4 by omega)))) ?_)
     | (refine isD 97 ?_; refine WPl.rdX (ReadR.binE rfl rfl BinR.eql (congrArg Value.bool (decide_eq_true hkk))) ?_)
     | (refine isD 114 ?_; refine WPl.rdX (ReadR.binE rfl rfl (BinR.eqlB rfl) rfl) ?_)
     | (refine isOp ?_; first | refine WPl.rd ?_ | refine WPl.sk ?_ | refine WPl.rdB ?_)
     | (refine isBx ?_; refine WPl.nw fun g => ?_)
     | (show WPl _ _ _ _ _ _ _ (⟨_, .indexAddr _ _ _, _, _, _, _⟩ :: _) _; refine WPl.rdX (ReadR.indexE rfl rfl hasA (by first | assumption | omega)) ?_)
     | (show WPl _ _ _ _ _ _ _ (⟨_, .fieldAddr _ _ _, _, _, _, _⟩ :: _) _; refine WPl.rdX (ReadR.fieldE rfl hasA (by first | assumption | omega)) ?_)
     | (show WPl _ _ _ _ _ _ _ (⟨_, .load _ _, _, _, _, _⟩ :: _) _; first | refine WPl.rdX (ReadR.loadE rfl hasA (by assumption)) ?_ | refine WPl.rdX (ReadR.loadES (by assumption) (by first | assumption | omega) rfl hasA) ?_)
     | (show WPl _ _ _ _ _ _ _ (⟨_, .slice _ _ _ _ _, _, _, _, _⟩ :: _) _; first | refine WPl.rdX (ReadR.sliceH rfl rfl hasA (by omega)) ?_ | refine WPl.rdX (ReadR.sliceL rfl rfl hasA (by omega)) ?_ | refine WPl.rdX (ReadR.sliceLH rfl rfl rfl hasA (by omega) (by omega)) ?_)
     | (refine WPl.spQ (fun hc => ?_) (fun hc => ?_) <;> try exact prA)
     | fail)
    refine WPq.dX (ho := ownsW) (vs := [.bool true]) (bothA gV mD vd gX S R) ⟨S, R, rfl, hvw, hDi.mono (Nat.le_succ _), hXi.mono (Nat.le_succ _), rfl⟩
theorem does0_t (hDi : DInv n k S) (hXi : RInv n k R) (hvw : S.vw = R.vw) (hn : n ≤ 100000) (hkb : k ≤ 90000) (hw : daW x) (hkk : x.k ≠ 1 ∧ x.k ≠ 2 ∧ x.k ≠ 3 ∧ x.k ≠ 4 ∧ x.k ≠ 5) :
    Triple Try.prog 22 #[hD gV, hD gX, ag (daC x)] (rdN x.lv x.l.length (intsV x.l) :: bothA gV mD vd gX S R) (RBoth gV mD vd gX n (k + 1)) := by
  obtain ⟨w1, w2, w3, w4, w5⟩ := hw
  have hfx := daC_ok w5
  by_cases hr : 0 ≤ x.s ∧ x.s < (n : Int)
  · obtain ⟨j, hj⟩ : ∃ j : Nat, x.s = (j : Int) := ⟨x.s.toNat, by omega⟩
    have hjn : j < n := by omega
    have c20 := fun bv => dwr_t gV mD vd n k S j bv (secF x.b) hDi hn (by omega) hjn
    have c27 := fun bv => rwr_t gX n k R j bv (secF x.b) hXi hn (by omega) hjn
    rw [hvw] at c20
    rw [← hj] at c20 c27
    obtain ⟨r, hr2⟩ : ∃ r, r = (R.vw.wr j (secF x.b)).2 := ⟨_, rfl⟩
    obtain ⟨D1, hD1⟩ : ∃ D1, D1 = (R.vw.wr j (secF x.b)).1 := ⟨_, rfl⟩
    rw [← hr2, ← hD1] at c20 c27
    have hvA : ∀ v Γ', RD gV mD vd n (k + 1) (.int .i64 r) D1 v Γ' → v = .int .i64 r ∧ ∃ s, Γ' = (fun s : DS => dvA gV mD vd s) s ∧ (fun s : DS => s.vw = D1 ∧ DInv n (k + 1) s) s := fun v Γ' ⟨S', h1, h2, h3, h4⟩ => ⟨h1, S', h4, h2, h3⟩
    have hvB : ∀ v Γ', RRf gX n (k + 1) (.int .i64 r) D1 v Γ' → v = .int .i64 r ∧ ∃ s, Γ' = (fun s : RfS => rsA gX s) s ∧ (fun s : RfS => s.vw = D1 ∧ RInv n (k + 1) s) s := fun v Γ' ⟨S', h1, h2, h3, h4⟩ => ⟨h1, S', h4, h2, h3⟩
    refine Triple.enter Try.func22 rfl Try.ntmps22 rfl (fun W => ?_)
    dsimp only [argsF, Nat.reduceAdd]
    repeat' (first
     | refine WPl.nil ?_ | refine WPq.then ?_ | refine WPq.thenR ?_ | refine WPq.thenE ?_ | refine WPq.blockN ?_ | refine WPq.blockR ?_ | refine WPq.blockE ?_ | refine WPq.blockO rfl ?_ | refine WPc.seq ?_ | refine WPc.block ?_ | refine WPc.ret ?_ | refine WPc.exit ?_ | refine WPc.skip ?_ | refine WPc.region ?_
     | (refine isReg 2 ?_; refine WPc.drA [([16, 17, 18, 19, 20, 21, 22, 23, 24], [15, 16, 17, 18, 19, 21, 22, 23, 24, 25]), ([16, 17, 18, 19, 20, 21, 22, 23, 24], [14, 17, 18, 19, 21, 22, 23, 24, 25]), ([1, 16, 17, 18, 19, 20, 21, 22, 23, 24], [14, 15, 17, 18, 19, 21, 22, 23, 24, 25]), ([16, 17, 18, 19, 20, 21, 22, 23, 24], [14, 15, 16, 21, 22, 23, 24, 25]), ([3, 16, 17, 18, 19, 20, 21, 22, 23, 24], [14, 15, 16, 17, 21, 22, 23, 24, 25]), ([3, 4, 16, 17, 18, 19, 20, 21, 22, 23, 24], [14, 15, 16, 17, 18, 21, 22, 23, 24, 25]), ([0, 1, 2, 3, 4, 5, 16, 17, 18, 19, 20, 21, 22, 23, 24], [14, 15, 16, 17, 18, 19, 21, 22, 23, 24, 25]), ([16, 17, 18, 19, 20, 21, 22, 23, 24], [14, 15, 16, 17, 18, 19, 20, 22, 23, 24, 25, 26]), ([16, 17, 18, 19, 20, 21, 22, 23, 24], [14, 15, 16, 17, 18, 19, 20, 21, 24, 25, 26]), ([8, 16, 17, 18, 19, 20, 21, 22, 23, 24], [14, 15, 16, 17, 18, 19, 20, 21, 22, 24, 25, 26]), ([16, 17, 18, 19, 20, 21, 22, 23, 24], [14, 15, 16, 17, 18, 19, 20, 21, 22, 23]), ([10, 16, 17, 18, 19, 20, 21, 22, 23, 24], [14, 15, 16, 17, 18, 19, 20, 21, 22, 23, 24]), ([0, 1, 2, 3, 4, 5, 6, 10, 11, 16, 17, 18, 19, 20, 21, 22, 23, 24], [14, 15, 16, 17, 18, 19, 20, 21, 22, 23, 24, 25]), ([0, 1, 2, 3, 4, 5, 6, 7, 8, 9, 10, 11, 12, 16, 17, 18, 19, 20, 21, 22, 23, 24], [14, 15, 16, 17, 18, 19, 20, 21, 22, 23, 24, 25, 26]), ([0, 1, 2, 3, 4, 5, 6, 7, 8, 9, 10, 11, 12, 13, 16, 17, 18, 19, 20, 21, 22, 23, 24], [14, 15, 16, 17, 18, 19, 20, 21, 22, 23, 24, 25, 26, 27]), ([0, 1, 2, 3, 4, 5, 6, 7, 8, 9, 10, 11, 12, 13, 14, 16, 17, 18, 19, 20, 21, 22, 23, 24], [14, 15, 16, 17, 18, 19, 20, 21, 22, 23, 24, 25, 26, 27, 28])] [(16, 6), (17, 6), (18, 6), (19, 6), (20, 13), (21, 13), (22, 13), (23, 13), (24, 13), (16, 0), (16, 1), (16, 2), (16, 3), (16, 4), (16, 5), (17, 0), (17, 1), (17, 2), (17, 3), (17, 4), (17, 5), (18, 0), (18, 1), (18, 2), (18, 3), (18, 4), (18, 5), (19, 0), (19, 1), (19, 2), (19, 3), (19, 4), (19, 5), (20, 0), (20, 1), (20, 2), (20, 3), (20, 4), (20, 5), (20, 6), (20, 7), (20, 8), (20, 9), (20, 10), (20, 11), (20, 12), (21, 0), (21, 1), (21, 2), (21, 3), (21, 4), (21, 5), (21, 6), (21, 7), (21, 8), (21, 9), (21, 10), (21, 11), (21, 12), (22, 0), (22, 1), (22, 2), (22, 3), (22, 4), (22, 5), (22, 6), (22, 7), (22, 8), (22, 9), (22, 10), (22, 11), (22, 12), (23, 0), (23, 1), (23, 2), (23, 3), (23, 4), (23, 5), (23, 6), (23, 7), (23, 8), (23, 9), (23, 10), (23, 11), (23, 12), (24, 0), (24, 1), (24, 2), (24, 3), (24, 4), (24, 5), (24, 6), (24, 7), (24, 8), (24, 9), (24, 10), (24, 11), (24, 12)] (Γx := [bx gV 79 (dvc S.fu vd mD S.cn), rowN 81 256 vd S.ls.length (secs S.ls), mp secM mD S.es, bag S.es, bx gX 51 (rdc R.vL R.vA R.vB R.fu R.wr), rowN 31 1 R.vL R.L.length (valsV R.L), rowN 3 1 R.vA R.Z.length (intsV (zAt R.Z)), rowN 31 1 R.vB R.Z.length (valsV (zB R.Z)), vault R.rs]) (hox := ownsW) ?_; dsimp only [prev0, List.length_nil, List.length_cons])
     | (refine gAny ?_; first | (refine gC 19 ?_; refine RGl.row (Γ1 := fun _ => []) (fun e hk => OpT.callN (full_t x.b)) ?_) | (refine gC 26 ?_; refine RGl.row (Γ1 := fun _ => []) (fun e hk => OpT.callN (full_t x.b)) ?_) | (refine gD 30 ?_; refine RGl.rdX (fun e hk => by (try dsimp only [bndR, ensR, oksR, fcutR, List.append_nil, List.nil_append, List.cons_append, List.append_assoc] at hk ⊢); exact ReadR.binE rfl rfl BinR.eql (congrArg Value.bool (decide_eq_false (show ¬ x.k = 1 by omega)))) ?_) | (refine gD 56 ?_; refine RGl.rdX (fun e hk => by (try dsimp only [bndR, ensR, oksR, fcutR, List.append_nil, List.nil_append, List.cons_append, List.append_assoc] at hk ⊢); exact ReadR.binE rfl rfl BinR.eql (congrArg Value.bool (decide_eq_false (show ¬ x.k = 2 by omega)))) ?_) | (refine gD 63 ?_; refine RGl.rdX (fun e hk => by (try dsimp only [bndR, ensR, oksR, fcutR, List.append_nil, List.nil_append, List.cons_append, List.append_assoc] at hk ⊢); exact ReadR.binE rfl rfl BinR.eql (congrArg Value.bool (decide_eq_false (show ¬ x.k = 3 by omega)))) ?_) | (refine gD 80 ?_; refine RGl.rdX (fun e hk => by (try dsimp only [bndR, ensR, oksR, fcutR, List.append_nil, List.nil_append, List.cons_append, List.append_assoc] at hk ⊢); exact ReadR.binE rfl rfl BinR.eql (congrArg Value.bool (decide_eq_false (show ¬ x.k = 4 by omega)))) ?_) | (refine gD 97 ?_; refine RGl.rdX (fun e hk => by (try dsimp only [bndR, ensR, oksR, fcutR, List.append_nil, List.nil_append, List.cons_append, List.append_assoc] at hk ⊢); exact ReadR.binE rfl rfl BinR.eql (congrArg Value.bool (decide_eq_false (show ¬ x.k = 5 by omega)))) ?_) | (refine gD 28 ?_; refine RGl.rdX (fun e hk => by (try dsimp only [bndR, ensR, oksR, fcutR, List.append_nil, List.nil_append, List.cons_append, List.append_assoc] at hk ⊢); exact ReadR.binE rfl rfl BinR.eql (congrArg Value.bool (decide_eq_true rfl))) ?_) | (refine gOp ?_; (refine gC 20 ?_; refine RGl.relG (.int .i64 r) (fun s : DS => dvA gV mD vd s) (fun s : DS => s.vw = D1 ∧ DInv n (k + 1) s) hvA (fun e hk => by (try dsimp only [bndR, ensR, oksR, fcutR, List.append_nil, List.nil_append, List.cons_append, List.append_assoc] at hk ⊢); exact OpT.callM (c20 (e 5).1) evsA takesA (Provs.cons provA Provs.nil) (fpOb2 memA) (by kernel_rfl)) ?_)) | (refine gOp ?_; (refine gC 27 ?_; refine RGl.relG (.int .i64 r) (fun s : RfS => rsA gX s) (fun s : RfS => s.vw = D1 ∧ RInv n (k + 1) s) hvB (fun e hk => by (try dsimp only [bndR, ensR, oksR, fcutR, List.append_nil, List.nil_append, List.cons_append, List.append_assoc] at hk ⊢); exact OpT.callM (c27 (e 12).1) evsA takesA (Provs.cons provA Provs.nil) (fpOb2 memA) (by kernel_rfl)) ?_)) | (refine gOp ?_; first | refine RGl.rdA ?_ | refine RGl.rdX (fun e hk => by (try dsimp only [bndR, ensR, oksR, fcutR, List.append_nil, List.nil_append, List.cons_append, List.append_assoc] at hk ⊢); exact readB) ?_) | (refine RGl.fin (fun e hk => ?_); (try dsimp only [bndA, ensAR, oksA, List.append_nil, List.nil_append, List.cons_append, List.append_assoc] at hk ⊢); (repeat (obtain ⟨hk1, hk⟩ := hk))) | fail)
     | (refine isCond ?_; first | refine WPc.cT ?_ | refine WPc.cF ?_ | (refine WPc.cQ (fun hc => ?_) (fun hc => ?_) <;> try exact prA))
     | (refine isD 5 ?_; refine WPl.boxC (daC x) hfx rfl (fun g5 => ?_))
     | (refine isD 30 ?_; refine WPl.rdX (ReadR.binE rfl rfl BinR.eql (congrArg Value.bool (decide_eq_false (show ¬ x.k = 1 by omega)))) ?_)
     | (refine isD 56 ?_; refine WPl.rdX (ReadR.binE rfl rfl BinR.eql (congrArg Value.bool (decide_eq_false (show ¬ x.k = 2 by omega)))) ?_)
     | (refine isD 63 ?_; refine WPl.rdX (ReadR.binE rfl rfl BinR.eql (congrArg Value.bool (decide_eq_false (show ¬ x.k = 3 by omega)))) ?_)
     | (refine isD 80 ?_; refine WPl.rdX (ReadR.binE rfl rfl BinR.eql (congrArg Value.bool (decide_eq_false (show ¬ x.k = 4 by omega)))) ?_)
     | (refine isD 97 ?_; refine WPl.rdX (ReadR.binE rfl rfl BinR.eql (congrArg Value.bool (decide_eq_false (show ¬ x.k = 5 by omega)))) ?_)
     | (refine isC 19 ?_; refine WPl.cR (full_t x.b) fun v hv => ?_)
     | (refine isC 26 ?_; refine WPl.cR (full_t x.b) fun v hv => ?_)
     | (refine isD 28 ?_; refine WPl.rdX (ReadR.binE rfl rfl BinR.eql (congrArg Value.bool (decide_eq_true rfl))) ?_)
     | (refine isOp ?_; first | refine WPl.rd ?_ | refine WPl.sk ?_ | refine WPl.rdB ?_)
     | (refine isBx ?_; refine WPl.nw fun g => ?_)
     | (show WPl _ _ _ _ _ _ _ (⟨_, .indexAddr _ _ _, _, _, _, _⟩ :: _) _; refine WPl.rdX (ReadR.indexE rfl rfl hasA (by first | assumption | omega)) ?_)
     | (show WPl _ _ _ _ _ _ _ (⟨_, .fieldAddr _ _ _, _, _, _, _⟩ :: _) _; refine WPl.rdX (ReadR.fieldE rfl hasA (by first | assumption | omega)) ?_)
     | (show WPl _ _ _ _ _ _ _ (⟨_, .load _ _, _, _, _, _⟩ :: _) _; first | refine WPl.rdX (ReadR.loadE rfl hasA (by assumption)) ?_ | refine WPl.rdX (ReadR.loadES (by assumption) (by first | assumption | omega) rfl hasA) ?_)
     | (show WPl _ _ _ _ _ _ _ (⟨_, .slice _ _ _ _ _, _, _, _, _⟩ :: _) _; first | refine WPl.rdX (ReadR.sliceH rfl rfl hasA (by omega)) ?_ | refine WPl.rdX (ReadR.sliceL rfl rfl hasA (by omega)) ?_ | refine WPl.rdX (ReadR.sliceLH rfl rfl rfl hasA (by omega) (by omega)) ?_)
     | (refine WPl.spQ (fun hc => ?_) (fun hc => ?_) <;> try exact prA)
     | fail)
    dsimp only [Nat.reduceAdd] at *
    have hA : (fun s : DS => s.vw = D1 ∧ DInv n (k + 1) s) (pickG (fun s : DS => dvA gV mD vd s) (fun s : DS => s.vw = D1 ∧ DInv n (k + 1) s) (e 6).2) := by assumption
    have hB : (fun s : RfS => s.vw = D1 ∧ RInv n (k + 1) s) (pickG (fun s : RfS => rsA gX s) (fun s : RfS => s.vw = D1 ∧ RInv n (k + 1) s) (e 13).2) := by assumption
    obtain ⟨T, hT⟩ : ∃ T, T = (pickG (fun s : DS => dvA gV mD vd s) (fun s : DS => s.vw = D1 ∧ DInv n (k + 1) s) (e 6).2) := ⟨_, rfl⟩
    obtain ⟨U, hU⟩ : ∃ U, U = (pickG (fun s : RfS => rsA gX s) (fun s : RfS => s.vw = D1 ∧ RInv n (k + 1) s) (e 13).2) := ⟨_, rfl⟩
    rw [← hT] at hA
    rw [← hU] at hB
    obtain ⟨hA1, hA2⟩ := hA
    obtain ⟨hB1, hB2⟩ := hB
    rw [← hT, ← hU]
    refine WPq.dX (ho := ownsW) (vs := [.bool true]) (bothA gV mD vd gX T U) ⟨T, U, rfl, hA1.trans hB1.symm, hA2, hB2, rfl⟩
  · have hi : x.s < 0 ∨ (n : Int) ≤ x.s ∨ (secF x.b).b.length ≠ 256 := by omega
    have hl8 : (secF x.b).b.length ≤ 100000 := by rw [(secF x.b).len]; omega
    obtain ⟨D1, hD1⟩ : ∃ D1, D1 = R.vw := ⟨_, rfl⟩
    have c20 : ∀ bv, Triple Try.prog 13 #[hD gV, .int .i64 x.s, bv] ([rb bv (secF x.b).b] ++ dvA gV mD vd S) (RD gV mD vd n (k + 1) (.int .i64 1) D1) := fun bv => by
      refine Triple.mono (dwrNo_t gV mD vd n k S x.s bv (secF x.b).b hDi hn hl8 hi) ?_
      rintro v Γ' ⟨rfl, rfl⟩
      exact ⟨S, rfl, by rw [hD1]; exact hvw, hDi.mono (Nat.le_succ _), rfl⟩
    have c27 : ∀ bv, Triple Try.prog 53 #[hD gX, .int .i64 x.s, bv] ([rb bv (secF x.b).b] ++ rsA gX R) (RRf gX n (k + 1) (.int .i64 1) D1) := fun bv => by
      refine Triple.permΓ (List.perm_append_comm (l₁ := [rb bv (secF x.b).b])) ?_
      refine Triple.mono (Triple.keep (Γk := rsA gX R) (Γr := [rb bv (secF x.b).b]) (rwrNo_t gX n k R x.s bv (secF x.b).b hXi hn hl8 hi) provsW ownsW) ?_
      rintro v Γ' ⟨rfl, rfl⟩
      exact ⟨R, rfl, hD1.symm, hXi.mono (Nat.le_succ _), rfl⟩
    have hvA : ∀ v Γ', RD gV mD vd n (k + 1) (.int .i64 1) D1 v Γ' → v = .int .i64 1 ∧ ∃ s, Γ' = (fun s : DS => dvA gV mD vd s) s ∧ (fun s : DS => s.vw = D1 ∧ DInv n (k + 1) s) s := fun v Γ' ⟨S', h1, h2, h3, h4⟩ => ⟨h1, S', h4, h2, h3⟩
    have hvB : ∀ v Γ', RRf gX n (k + 1) (.int .i64 1) D1 v Γ' → v = .int .i64 1 ∧ ∃ s, Γ' = (fun s : RfS => rsA gX s) s ∧ (fun s : RfS => s.vw = D1 ∧ RInv n (k + 1) s) s := fun v Γ' ⟨S', h1, h2, h3, h4⟩ => ⟨h1, S', h4, h2, h3⟩
    refine Triple.enter Try.func22 rfl Try.ntmps22 rfl (fun W => ?_)
    dsimp only [argsF, Nat.reduceAdd]
    repeat' (first
     | refine WPl.nil ?_ | refine WPq.then ?_ | refine WPq.thenR ?_ | refine WPq.thenE ?_ | refine WPq.blockN ?_ | refine WPq.blockR ?_ | refine WPq.blockE ?_ | refine WPq.blockO rfl ?_ | refine WPc.seq ?_ | refine WPc.block ?_ | refine WPc.ret ?_ | refine WPc.exit ?_ | refine WPc.skip ?_ | refine WPc.region ?_
     | (refine isReg 2 ?_; refine WPc.drA [([16, 17, 18, 19, 20, 21, 22, 23, 24], [15, 16, 17, 18, 19, 21, 22, 23, 24, 25]), ([16, 17, 18, 19, 20, 21, 22, 23, 24], [14, 17, 18, 19, 21, 22, 23, 24, 25]), ([1, 16, 17, 18, 19, 20, 21, 22, 23, 24], [14, 15, 17, 18, 19, 21, 22, 23, 24, 25]), ([16, 17, 18, 19, 20, 21, 22, 23, 24], [14, 15, 16, 21, 22, 23, 24, 25]), ([3, 16, 17, 18, 19, 20, 21, 22, 23, 24], [14, 15, 16, 17, 21, 22, 23, 24, 25]), ([3, 4, 16, 17, 18, 19, 20, 21, 22, 23, 24], [14, 15, 16, 17, 18, 21, 22, 23, 24, 25]), ([0, 1, 2, 3, 4, 5, 16, 17, 18, 19, 20, 21, 22, 23, 24], [14, 15, 16, 17, 18, 19, 21, 22, 23, 24, 25]), ([16, 17, 18, 19, 20, 21, 22, 23, 24], [14, 15, 16, 17, 18, 19, 20, 22, 23, 24, 25, 26]), ([16, 17, 18, 19, 20, 21, 22, 23, 24], [14, 15, 16, 17, 18, 19, 20, 21, 24, 25, 26]), ([8, 16, 17, 18, 19, 20, 21, 22, 23, 24], [14, 15, 16, 17, 18, 19, 20, 21, 22, 24, 25, 26]), ([16, 17, 18, 19, 20, 21, 22, 23, 24], [14, 15, 16, 17, 18, 19, 20, 21, 22, 23]), ([10, 16, 17, 18, 19, 20, 21, 22, 23, 24], [14, 15, 16, 17, 18, 19, 20, 21, 22, 23, 24]), ([0, 1, 2, 3, 4, 5, 6, 10, 11, 16, 17, 18, 19, 20, 21, 22, 23, 24], [14, 15, 16, 17, 18, 19, 20, 21, 22, 23, 24, 25]), ([0, 1, 2, 3, 4, 5, 6, 7, 8, 9, 10, 11, 12, 16, 17, 18, 19, 20, 21, 22, 23, 24], [14, 15, 16, 17, 18, 19, 20, 21, 22, 23, 24, 25, 26]), ([0, 1, 2, 3, 4, 5, 6, 7, 8, 9, 10, 11, 12, 13, 16, 17, 18, 19, 20, 21, 22, 23, 24], [14, 15, 16, 17, 18, 19, 20, 21, 22, 23, 24, 25, 26, 27]), ([0, 1, 2, 3, 4, 5, 6, 7, 8, 9, 10, 11, 12, 13, 14, 16, 17, 18, 19, 20, 21, 22, 23, 24], [14, 15, 16, 17, 18, 19, 20, 21, 22, 23, 24, 25, 26, 27, 28])] [(16, 6), (17, 6), (18, 6), (19, 6), (20, 13), (21, 13), (22, 13), (23, 13), (24, 13), (16, 0), (16, 1), (16, 2), (16, 3), (16, 4), (16, 5), (17, 0), (17, 1), (17, 2), (17, 3), (17, 4), (17, 5), (18, 0), (18, 1), (18, 2), (18, 3), (18, 4), (18, 5), (19, 0), (19, 1), (19, 2), (19, 3), (19, 4), (19, 5), (20, 0), (20, 1), (20, 2), (20, 3), (20, 4), (20, 5), (20, 6), (20, 7), (20, 8), (20, 9), (20, 10), (20, 11), (20, 12), (21, 0), (21, 1), (21, 2), (21, 3), (21, 4), (21, 5), (21, 6), (21, 7), (21, 8), (21, 9), (21, 10), (21, 11), (21, 12), (22, 0), (22, 1), (22, 2), (22, 3), (22, 4), (22, 5), (22, 6), (22, 7), (22, 8), (22, 9), (22, 10), (22, 11), (22, 12), (23, 0), (23, 1), (23, 2), (23, 3), (23, 4), (23, 5), (23, 6), (23, 7), (23, 8), (23, 9), (23, 10), (23, 11), (23, 12), (24, 0), (24, 1), (24, 2), (24, 3), (24, 4), (24, 5), (24, 6), (24, 7), (24, 8), (24, 9), (24, 10), (24, 11), (24, 12)] (Γx := [bx gV 79 (dvc S.fu vd mD S.cn), rowN 81 256 vd S.ls.length (secs S.ls), mp secM mD S.es, bag S.es, bx gX 51 (rdc R.vL R.vA R.vB R.fu R.wr), rowN 31 1 R.vL R.L.length (valsV R.L), rowN 3 1 R.vA R.Z.length (intsV (zAt R.Z)), rowN 31 1 R.vB R.Z.length (valsV (zB R.Z)), vault R.rs]) (hox := ownsW) ?_; dsimp only [prev0, List.length_nil, List.length_cons])
     | (refine gAny ?_; first | (refine gC 19 ?_; refine RGl.row (Γ1 := fun _ => []) (fun e hk => OpT.callN (full_t x.b)) ?_) | (refine gC 26 ?_; refine RGl.row (Γ1 := fun _ => []) (fun e hk => OpT.callN (full_t x.b)) ?_) | (refine gD 30 ?_; refine RGl.rdX (fun e hk => by (try dsimp only [bndR, ensR, oksR, fcutR, List.append_nil, List.nil_append, List.cons_append, List.append_assoc] at hk ⊢); exact ReadR.binE rfl rfl BinR.eql (congrArg Value.bool (decide_eq_false (show ¬ x.k = 1 by omega)))) ?_) | (refine gD 56 ?_; refine RGl.rdX (fun e hk => by (try dsimp only [bndR, ensR, oksR, fcutR, List.append_nil, List.nil_append, List.cons_append, List.append_assoc] at hk ⊢); exact ReadR.binE rfl rfl BinR.eql (congrArg Value.bool (decide_eq_false (show ¬ x.k = 2 by omega)))) ?_) | (refine gD 63 ?_; refine RGl.rdX (fun e hk => by (try dsimp only [bndR, ensR, oksR, fcutR, List.append_nil, List.nil_append, List.cons_append, List.append_assoc] at hk ⊢); exact ReadR.binE rfl rfl BinR.eql (congrArg Value.bool (decide_eq_false (show ¬ x.k = 3 by omega)))) ?_) | (refine gD 80 ?_; refine RGl.rdX (fun e hk => by (try dsimp only [bndR, ensR, oksR, fcutR, List.append_nil, List.nil_append, List.cons_append, List.append_assoc] at hk ⊢); exact ReadR.binE rfl rfl BinR.eql (congrArg Value.bool (decide_eq_false (show ¬ x.k = 4 by omega)))) ?_) | (refine gD 97 ?_; refine RGl.rdX (fun e hk => by (try dsimp only [bndR, ensR, oksR, fcutR, List.append_nil, List.nil_append, List.cons_append, List.append_assoc] at hk ⊢); exact ReadR.binE rfl rfl BinR.eql (congrArg Value.bool (decide_eq_false (show ¬ x.k = 5 by omega)))) ?_) | (refine gD 28 ?_; refine RGl.rdX (fun e hk => by (try dsimp only [bndR, ensR, oksR, fcutR, List.append_nil, List.nil_append, List.cons_append, List.append_assoc] at hk ⊢); exact ReadR.binE rfl rfl BinR.eql (congrArg Value.bool (decide_eq_true rfl))) ?_) | (refine gOp ?_; (refine gC 20 ?_; refine RGl.relG (.int .i64 1) (fun s : DS => dvA gV mD vd s) (fun s : DS => s.vw = D1 ∧ DInv n (k + 1) s) hvA (fun e hk => by (try dsimp only [bndR, ensR, oksR, fcutR, List.append_nil, List.nil_append, List.cons_append, List.append_assoc] at hk ⊢); exact OpT.callM (c20 (e 5).1) evsA takesA (Provs.cons provA Provs.nil) (fpOb2 memA) (by kernel_rfl)) ?_)) | (refine gOp ?_; (refine gC 27 ?_; refine RGl.relG (.int .i64 1) (fun s : RfS => rsA gX s) (fun s : RfS => s.vw = D1 ∧ RInv n (k + 1) s) hvB (fun e hk => by (try dsimp only [bndR, ensR, oksR, fcutR, List.append_nil, List.nil_append, List.cons_append, List.append_assoc] at hk ⊢); exact OpT.callM (c27 (e 12).1) evsA takesA (Provs.cons provA Provs.nil) (fpOb2 memA) (by kernel_rfl)) ?_)) | (refine gOp ?_; first | refine RGl.rdA ?_ | refine RGl.rdX (fun e hk => by (try dsimp only [bndR, ensR, oksR, fcutR, List.append_nil, List.nil_append, List.cons_append, List.append_assoc] at hk ⊢); exact readB) ?_) | (refine RGl.fin (fun e hk => ?_); (try dsimp only [bndA, ensAR, oksA, List.append_nil, List.nil_append, List.cons_append, List.append_assoc] at hk ⊢); (repeat (obtain ⟨hk1, hk⟩ := hk))) | fail)
     | (refine isCond ?_; first | refine WPc.cT ?_ | refine WPc.cF ?_ | (refine WPc.cQ (fun hc => ?_) (fun hc => ?_) <;> try exact prA))
     | (refine isD 5 ?_; refine WPl.boxC (daC x) hfx rfl (fun g5 => ?_))
     | (refine isD 30 ?_; refine WPl.rdX (ReadR.binE rfl rfl BinR.eql (congrArg Value.bool (decide_eq_false (show ¬ x.k = 1 by omega)))) ?_)
     | (refine isD 56 ?_; refine WPl.rdX (ReadR.binE rfl rfl BinR.eql (congrArg Value.bool (decide_eq_false (show ¬ x.k = 2 by omega)))) ?_)
     | (refine isD 63 ?_; refine WPl.rdX (ReadR.binE rfl rfl BinR.eql (congrArg Value.bool (decide_eq_false (show ¬ x.k = 3 by omega)))) ?_)
     | (refine isD 80 ?_; refine WPl.rdX (ReadR.binE rfl rfl BinR.eql (congrArg Value.bool (decide_eq_false (show ¬ x.k = 4 by omega)))) ?_)
     | (refine isD 97 ?_; refine WPl.rdX (ReadR.binE rfl rfl BinR.eql (congrArg Value.bool (decide_eq_false (show ¬ x.k = 5 by omega)))) ?_)
     | (refine isC 19 ?_; refine WPl.cR (full_t x.b) fun v hv => ?_)
     | (refine isC 26 ?_; refine WPl.cR (full_t x.b) fun v hv => ?_)
     | (refine isD 28 ?_; refine WPl.rdX (ReadR.binE rfl rfl BinR.eql (congrArg Value.bool (decide_eq_true rfl))) ?_)
     | (refine isOp ?_; first | refine WPl.rd ?_ | refine WPl.sk ?_ | refine WPl.rdB ?_)
     | (refine isBx ?_; refine WPl.nw fun g => ?_)
     | (show WPl _ _ _ _ _ _ _ (⟨_, .indexAddr _ _ _, _, _, _, _⟩ :: _) _; refine WPl.rdX (ReadR.indexE rfl rfl hasA (by first | assumption | omega)) ?_)
     | (show WPl _ _ _ _ _ _ _ (⟨_, .fieldAddr _ _ _, _, _, _, _⟩ :: _) _; refine WPl.rdX (ReadR.fieldE rfl hasA (by first | assumption | omega)) ?_)
     | (show WPl _ _ _ _ _ _ _ (⟨_, .load _ _, _, _, _, _⟩ :: _) _; first | refine WPl.rdX (ReadR.loadE rfl hasA (by assumption)) ?_ | refine WPl.rdX (ReadR.loadES (by assumption) (by first | assumption | omega) rfl hasA) ?_)
     | (show WPl _ _ _ _ _ _ _ (⟨_, .slice _ _ _ _ _, _, _, _, _⟩ :: _) _; first | refine WPl.rdX (ReadR.sliceH rfl rfl hasA (by omega)) ?_ | refine WPl.rdX (ReadR.sliceL rfl rfl hasA (by omega)) ?_ | refine WPl.rdX (ReadR.sliceLH rfl rfl rfl hasA (by omega) (by omega)) ?_)
     | (refine WPl.spQ (fun hc => ?_) (fun hc => ?_) <;> try exact prA)
     | fail)
    dsimp only [Nat.reduceAdd] at *
    have hA : (fun s : DS => s.vw = D1 ∧ DInv n (k + 1) s) (pickG (fun s : DS => dvA gV mD vd s) (fun s : DS => s.vw = D1 ∧ DInv n (k + 1) s) (e 6).2) := by assumption
    have hB : (fun s : RfS => s.vw = D1 ∧ RInv n (k + 1) s) (pickG (fun s : RfS => rsA gX s) (fun s : RfS => s.vw = D1 ∧ RInv n (k + 1) s) (e 13).2) := by assumption
    obtain ⟨T, hT⟩ : ∃ T, T = (pickG (fun s : DS => dvA gV mD vd s) (fun s : DS => s.vw = D1 ∧ DInv n (k + 1) s) (e 6).2) := ⟨_, rfl⟩
    obtain ⟨U, hU⟩ : ∃ U, U = (pickG (fun s : RfS => rsA gX s) (fun s : RfS => s.vw = D1 ∧ RInv n (k + 1) s) (e 13).2) := ⟨_, rfl⟩
    rw [← hT] at hA
    rw [← hU] at hB
    obtain ⟨hA1, hA2⟩ := hA
    obtain ⟨hB1, hB2⟩ := hB
    rw [← hT, ← hU]
    refine WPq.dX (ho := ownsW) (vs := [.bool true]) (bothA gV mD vd gX T U) ⟨T, U, rfl, hA1.trans hB1.symm, hA2, hB2, rfl⟩
theorem does4_t (hDi : DInv n k S) (hXi : RInv n k R) (hvw : S.vw = R.vw) (hn : n ≤ 100000) (hkb : k ≤ 90000) (hw : daW x) (hkk : x.k = 4) :
    Triple Try.prog 22 #[hD gV, hD gX, ag (daC x)] (rdN x.lv x.l.length (intsV x.l) :: bothA gV mD vd gX S R) (RBoth gV mD vd gX n (k + 1)) := by
  obtain ⟨w1, w2, w3, w4, w5⟩ := hw
  have hfx := daC_ok w5
  refine Triple.enter Try.func22 rfl Try.ntmps22 rfl (fun W => ?_)
  dsimp only [argsF, Nat.reduceAdd]
  repeat' (first
   | (refine isSeqR 13 ?_; refine WPc.join (σ := Value × List Int) (fun p => p.2.length ≤ 40 ∧ ∀ y ∈ p.2, in64 y) (fun p => (rdN p.1 p.2.length (intsV p.2) :: [bx gV 79 (dvc S.fu vd mD S.cn), rowN 81 256 vd S.ls.length (secs S.ls), mp secM mD S.es, bag S.es, bx gX 51 (rdc R.vL R.vA R.vB R.fu R.wr), rowN 31 1 R.vL R.L.length (valsV R.L), rowN 3 1 R.vA R.Z.length (intsV (zAt R.Z)), rowN 31 1 R.vB R.Z.length (valsV (zB R.Z)), vault R.rs])) (fun p => [(0, hD gV), (1, hD gX), (11, p.1)]) ?_ (fun st hx => ?_))
   | refine WPl.nil ?_ | refine WPq.then ?_ | refine WPq.thenR ?_ | refine WPq.thenE ?_ | refine WPq.blockN ?_ | refine WPq.blockR ?_ | refine WPq.blockE ?_ | refine WPq.blockO rfl ?_ | refine WPc.seq ?_ | refine WPc.block ?_ | refine WPc.ret ?_ | refine WPc.exit ?_ | refine WPc.skip ?_ | refine WPc.region ?_
   | (refine isCond ?_; first | refine WPc.cT ?_ | refine WPc.cF ?_ | (refine WPc.cQ (fun hc => ?_) (fun hc => ?_) <;> try exact prA))
   | (refine isD 5 ?_; refine WPl.boxC (daC x) hfx rfl (fun g5 => ?_))
   | (refine isD 30 ?_; refine WPl.rdX (ReadR.binE rfl rfl BinR.eql (congrArg Value.bool (decide_eq_false (show ¬ x.k = 1 by omega)))) ?_)
   | (refine isD 56 ?_; refine WPl.rdX (ReadR.binE rfl rfl BinR.eql (congrArg Value.bool (decide_eq_false (show ¬ x.k = 2 by omega)))) ?_)
   | (refine isD 63 ?_; refine WPl.rdX (ReadR.binE rfl rfl BinR.eql (congrArg Value.bool (decide_eq_false (show ¬ x.k = 3 by omega)))) ?_)
   | (refine isD 80 ?_; refine WPl.rdX (ReadR.binE rfl rfl BinR.eql (congrArg Value.bool (decide_eq_true hkk))) ?_)
   | (refine isOp ?_; first | refine WPl.rd ?_ | refine WPl.sk ?_ | refine WPl.rdB ?_)
   | (refine isBx ?_; refine WPl.nw fun g => ?_)
   | (show WPl _ _ _ _ _ _ _ (⟨_, .indexAddr _ _ _, _, _, _, _⟩ :: _) _; refine WPl.rdX (ReadR.indexE rfl rfl hasA (by first | assumption | omega)) ?_)
   | (show WPl _ _ _ _ _ _ _ (⟨_, .fieldAddr _ _ _, _, _, _, _⟩ :: _) _; refine WPl.rdX (ReadR.fieldE rfl hasA (by first | assumption | omega)) ?_)
   | (show WPl _ _ _ _ _ _ _ (⟨_, .load _ _, _, _, _, _⟩ :: _) _; first | refine WPl.rdX (ReadR.loadE rfl hasA (by assumption)) ?_ | refine WPl.rdX (ReadR.loadES (by assumption) (by first | assumption | omega) rfl hasA) ?_)
   | (show WPl _ _ _ _ _ _ _ (⟨_, .slice _ _ _ _ _, _, _, _, _⟩ :: _) _; first | refine WPl.rdX (ReadR.sliceH rfl rfl hasA (by omega)) ?_ | refine WPl.rdX (ReadR.sliceL rfl rfl hasA (by omega)) ?_ | refine WPl.rdX (ReadR.sliceLH rfl rfl rfl hasA (by omega) (by omega)) ?_)
   | (refine WPl.spQ (fun hc => ?_) (fun hc => ?_) <;> try exact prA)
   | fail)
  · have hc2 : (x.l.length : Int) > 40 := hc
    refine WPq.subRd (v := x.lv) (m := x.l.length) (sz := 1) (k := 0) (j := 40) (xs := intsV x.l) memA (by rw [intsV_len]; omega) (by omega) ?_
    have e : rdN (subv 1 x.lv 0 40) 40 (((intsV x.l).drop (0 * 1)).take (40 * 1)) = rdN (subv 1 x.lv 0 40) (x.l.take 40).length (intsV (x.l.take 40)) := by
      rw [List.length_take, show min 40 x.l.length = 40 by omega, intsV_take]
      rfl
    rw [e]
    exact WPq.join (subv 1 x.lv 0 40, x.l.take 40) ⟨by dsimp only; rw [List.length_take]; omega, fun y hy => w4 y (List.mem_of_mem_take hy)⟩
  · exact WPq.join (x.lv, x.l) ⟨by dsimp only; omega, w4⟩
  obtain ⟨lv, lost⟩ := st
  obtain ⟨hl40, hli⟩ := hx
  dsimp only at hl40 hli ⊢
  have hones : ∀ u ∈ intsV lost, u.oneCell' = true := intsV_one lost
  repeat' (first
   | refine WPl.nil ?_ | refine WPq.then ?_ | refine WPq.thenR ?_ | refine WPq.thenE ?_ | refine WPq.blockN ?_ | refine WPq.blockR ?_ | refine WPq.blockE ?_ | refine WPq.blockO rfl ?_ | refine WPc.seq ?_ | refine WPc.block ?_ | refine WPc.ret ?_ | refine WPc.exit ?_ | refine WPc.skip ?_ | refine WPc.region ?_
   | (refine isCond ?_; first | refine WPc.cT ?_ | refine WPc.cF ?_ | (refine WPc.cQ (fun hc => ?_) (fun hc => ?_) <;> try exact prA))
   | (refine isD 89 ?_; refine WPl.litS0 fun v89 hv89 => ?_)
   | (refine isD 91 ?_; refine WPl.appN (m := 0) (m2 := lost.length) (xs := []) (ys := intsV lost) (by rw [intsV_len, Nat.mul_one]) hones (by omega) fun v91 hv91 => ?_)
   | (refine isOp ?_; first | refine WPl.rd ?_ | refine WPl.sk ?_ | refine WPl.rdB ?_)
   | (refine isBx ?_; refine WPl.nw fun g => ?_)
   | (show WPl _ _ _ _ _ _ _ (⟨_, .indexAddr _ _ _, _, _, _, _⟩ :: _) _; refine WPl.rdX (ReadR.indexE rfl rfl hasA (by first | assumption | omega)) ?_)
   | (show WPl _ _ _ _ _ _ _ (⟨_, .fieldAddr _ _ _, _, _, _, _⟩ :: _) _; refine WPl.rdX (ReadR.fieldE rfl hasA (by first | assumption | omega)) ?_)
   | (show WPl _ _ _ _ _ _ _ (⟨_, .load _ _, _, _, _, _⟩ :: _) _; first | refine WPl.rdX (ReadR.loadE rfl hasA (by assumption)) ?_ | refine WPl.rdX (ReadR.loadES (by assumption) (by first | assumption | omega) rfl hasA) ?_)
   | (show WPl _ _ _ _ _ _ _ (⟨_, .slice _ _ _ _ _, _, _, _, _⟩ :: _) _; first | refine WPl.rdX (ReadR.sliceH rfl rfl hasA (by omega)) ?_ | refine WPl.rdX (ReadR.sliceL rfl rfl hasA (by omega)) ?_ | refine WPl.rdX (ReadR.sliceLH rfl rfl rfl hasA (by omega) (by omega)) ?_)
   | (refine WPl.spQ (fun hc => ?_) (fun hc => ?_) <;> try exact prA)
   | fail)
  rw [Nat.zero_add, List.nil_append]
  have c92 := dcrash_t gV mD vd n k S v91 lost (by omega) hli hDi hn (by omega)
  have c95 := rcrash_t gX n k R lv lost (by omega) hli hXi hn (by omega)
  rw [hvw] at c92
  repeat' (first
   | refine WPl.nil ?_ | refine WPq.then ?_ | refine WPq.thenR ?_ | refine WPq.thenE ?_ | refine WPq.blockN ?_ | refine WPq.blockR ?_ | refine WPq.blockE ?_ | refine WPq.blockO rfl ?_ | refine WPc.seq ?_ | refine WPc.block ?_ | refine WPc.ret ?_ | refine WPc.exit ?_ | refine WPc.skip ?_ | refine WPc.region ?_
   | (refine isCond ?_; first | refine WPc.cT ?_ | refine WPc.cF ?_ | (refine WPc.cQ (fun hc => ?_) (fun hc => ?_) <;> try exact prA))
   | (refine isC 92 ?_; refine WPl.cO (c92) (fun v Γ1 hR => ?_) ?_; rotate_left; exact fpA; obtain ⟨S1, rfl, hS1, hSi, rfl⟩ := hR; (try dsimp only [putF, List.cons_append, List.nil_append]))
   | (refine isC 95 ?_; refine WPl.cO (c95) (fun v Γ1 hR => ?_) ?_; rotate_left; exact fpA; obtain ⟨R1, rfl, hR1, hRi, rfl⟩ := hR; (try dsimp only [putF, List.cons_append, List.nil_append]))
   | (refine isOp ?_; first | refine WPl.rd ?_ | refine WPl.sk ?_ | refine WPl.rdB ?_)
   | (refine isBx ?_; refine WPl.nw fun g => ?_)
   | (show WPl _ _ _ _ _ _ _ (⟨_, .indexAddr _ _ _, _, _, _, _⟩ :: _) _; refine WPl.rdX (ReadR.indexE rfl rfl hasA (by first | assumption | omega)) ?_)
   | (show WPl _ _ _ _ _ _ _ (⟨_, .fieldAddr _ _ _, _, _, _, _⟩ :: _) _; refine WPl.rdX (ReadR.fieldE rfl hasA (by first | assumption | omega)) ?_)
   | (show WPl _ _ _ _ _ _ _ (⟨_, .load _ _, _, _, _, _⟩ :: _) _; first | refine WPl.rdX (ReadR.loadE rfl hasA (by assumption)) ?_ | refine WPl.rdX (ReadR.loadES (by assumption) (by first | assumption | omega) rfl hasA) ?_)
   | (show WPl _ _ _ _ _ _ _ (⟨_, .slice _ _ _ _ _, _, _, _, _⟩ :: _) _; first | refine WPl.rdX (ReadR.sliceH rfl rfl hasA (by omega)) ?_ | refine WPl.rdX (ReadR.sliceL rfl rfl hasA (by omega)) ?_ | refine WPl.rdX (ReadR.sliceLH rfl rfl rfl hasA (by omega) (by omega)) ?_)
   | (refine WPl.spQ (fun hc => ?_) (fun hc => ?_) <;> try exact prA)
   | fail)
  refine WPq.dX (ho := ownsW) (vs := [.bool true]) (bothA gV mD vd gX S1 R1) ⟨S1, R1, rfl, hS1.trans hR1.symm, hSi.mono (Nat.le_succ _), hRi.mono (Nat.le_succ _), rfl⟩

theorem does_t (hDi : DInv n k S) (hXi : RInv n k R) (hvw : S.vw = R.vw) (hn : n ≤ 100000) (hkb : k ≤ 90000) (hw : daW x) :
    Triple Try.prog 22 #[hD gV, hD gX, ag (daC x)] ([rdN x.lv x.l.length (intsV x.l)] ++ bothA gV mD vd gX S R) (RBoth gV mD vd gX n (k + 1)) := by
  by_cases h1 : x.k = 1
  · exact does1_t gV mD vd gX n k S R x hDi hXi hvw hn hkb hw h1
  by_cases h2 : x.k = 2
  · exact does2_t gV mD vd gX n k S R x hDi hXi hvw hn hkb hw h2
  by_cases h3 : x.k = 3
  · exact does3_t gV mD vd gX n k S R x hDi hXi hvw hn hkb hw h3
  by_cases h4 : x.k = 4
  · exact does4_t gV mD vd gX n k S R x hDi hXi hvw hn hkb hw h4
  by_cases h5 : x.k = 5
  · exact does5_t gV mD vd gX n k S R x hDi hXi hvw hn hkb hw h5
  · exact does0_t gV mD vd gX n k S R x hDi hXi hvw hn hkb hw ⟨h1, h2, h3, h4, h5⟩
end
end Go.Proofs.Ytepmikgjnmjheaa
