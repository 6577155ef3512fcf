/- What the row of gateHeld_card_holds needs: part 8. -/
import Derived.Test.YtpilenbdimhegaaGreatDoorGHe7
import Derived.Test.YtpilenbdimhegaaGreatDoorGHe4
import Derived.Shelf.SlSortCmp.NoneTotal
import Derived.Shelf.Sort.Plain
/- Reference 35 (parts): the parts of a packet: contracts (printed by gen_vc.py). -/
namespace Go.Proofs.YtpilenbdimhegaaGreatDoor
open Go.RowKit
set_option linter.unusedVariables false
set_option linter.unusedSimpArgs false
theorem WPc.segRdV {P : Program} {m : Nat} {W : World} {S : Nat → Prop} {Γ : List Asn} {F : List (Nat × Value)} {Q : Exit → Act → World → Prop} {c : Code} {v : Value} {l : List UInt8} (k n : Nat) (hm : rb v l ∈ Γ) (hn : k + n ≤ l.length) (h : WPc P m W S (rb (subv 1 v k n) (seg l k n) :: Γ) F c Q) : WPc P m W S Γ F c Q := fun a w hf hg =>
  h a w hf (hg.more hm rfl rfl (fun g hg => ⟨fun e => hg.1 (by
    have : l = [] := by cases l with | nil => rfl | cons x l => cases e
    rw [this]; simp [seg, u8s]), subv_block g hg.2⟩) fun w hw => (HasS.subB (Γ := [rb v l]) (HasS.rd (List.mem_singleton.2 rfl)) hn) w fun A hA => by rw [List.mem_singleton.1 hA]; exact hw)
/-- Where a piece ends; its bytes as the reference writes them; how many there are. -/
def rpEnd (n z i : Nat) : Nat := if n < i * z + z then n else i * z + z
def rpW (n z i : Nat) : Nat := i * z / 8 + (if rpEnd n z i < n then 8192 else 0)
def rpA (X : List UInt8) (id w : Nat) : List UInt8 := (((((((X.set 2 (UInt8.ofNat (X.length / 256))).set 3 (UInt8.ofNat X.length)).set 4 (UInt8.ofNat (id / 256))).set 5 (UInt8.ofNat id)).set 6 (UInt8.ofNat (w / 256))).set 7 (UInt8.ofNat w)).set 10 0).set 11 0
def rpB (Y : List UInt8) (s : Nat) : List UInt8 := (Y.set 10 (UInt8.ofNat (s / 256))).set 11 (UInt8.ofNat s)
def rpL (X : List UInt8) (id w : Nat) : List UInt8 := rpB (rpA X id w) (csum (seg (rpA X id w) 0 20))
def rpX (b D : List UInt8) (q en : Nat) : List UInt8 := seg b 0 20 ++ seg D q (en - q)
def rpAt (b : List UInt8) (id z i : Nat) : List UInt8 := rpL (rpX b (seg b 20 (b.length - 20)) (i * z) (rpEnd (b.length - 20) z i)) id (rpW (b.length - 20) z i)
/-- How many parts there are. -/
def rpNum (n z : Nat) : Nat := if n ≤ z then 1 else (n + z - 1) / z
theorem rpNum_of {n z k : Nat} (hz : 0 < z) (h1 : 1 ≤ k) (h2 : n ≤ k * z) (h3 : 1 < k → (k - 1) * z < n) : k = rpNum n z := by
  unfold rpNum
  by_cases hk : k = 1
  · subst hk
    rw [if_pos (by omega)]
  · obtain ⟨j, rfl⟩ : ∃ j, k = j + 2 := ⟨k - 2, by omega⟩
    have h3' := h3 (by omega)
    rw [show j + 2 - 1 = j + 1 by omega, Nat.succ_mul] at h3'
    rw [Nat.add_mul] at h2
    rw [if_neg (by omega)]
    have e : n + z - 1 = (j + 2) * z + (n - 1 - (j + 1) * z) := by rw [Nat.add_mul, Nat.add_mul]; omega
    rw [e, Nat.add_comm ((j + 2) * z), Nat.add_mul_div_right _ _ hz, Nat.div_eq_of_lt (by rw [Nat.add_mul]; omega)]
    omega
open Go.RowKit
set_option linter.unusedSimpArgs false
set_option linter.unusedVariables false
set_option maxRecDepth 20000
set_option maxHeartbeats 4000000
attribute [local irreducible] WPc WPl WPq ReadR OpT BinR HasS bx rdN rowN Take Takes Prov Triple ResF BuildP Done ag Int.decLt Int.decLe Int.instDecidableEq
instance bysEltV : EltN Tryz.prog 39 1 := ⟨by kernel_rfl⟩
def vrowV (p : Value × List UInt8) : List Asn := [ob p.1 p.2]
theorem vrowV_own (p : Value × List UInt8) (A : Asn) (h : A ∈ vrowV p) : A.own = true := by
  rw [List.mem_singleton.1 h]; exact rowN_own
theorem ownsV35 {Γ : List Asn} (h : ∀ A, A ∈ Γ → A.own = true := by ((repeat' (first | exact own_nil | refine own_cons (by first | exact bx_own | exact rowN_own | exact gbag_own | exact rfl) ?_ | fail)) <;> fail)) : ∀ A, A ∈ Γ → A.own = true := h
/-- What reference 35's Split gives. -/
def splE (b : List UInt8) : Int := if ferr b = 0 then (if (fread b).part = true ∨ ¬ (fread b).pos = 20 then 13 else 0) else ferr b
def RSpl (b : List UInt8) (id z : Nat) : Value → List Asn → Prop := fun v Γ => ∃ (vo : Value) (es : List (Value × List UInt8)), vo.oneCell' = true ∧ v = .tuple #[vo, .int .i64 0] ∧ es.map (·.2) = (List.range (rpNum (b.length - 20) z)).map (rpAt b id z) ∧ Γ = [rowN 39 1 vo es.length (es.map (·.1)), gbag vrowV es]
attribute [local irreducible] gbag ferr fread ihl seg csum rpA rpB rpEnd rpW List.set
theorem rsplNo_t (v : Value) (b : List UInt8) (id : Nat) (z : Int) (hl : b.length ≤ 100000) (he : ¬ splE b = 0) :
    Triple Tryz.prog 39 #[v, .int .u16 (id : Int), .int .i64 z] [rb v b] (RRow2 39 1 0 [] (.int .i64 (splE b))) := by
  have c20 := rf_t v b (by omega)
  simp only [fVal] at c20
  have w1 := (fread b).src.len
  have w2 := (fread b).dst.len
  by_cases h0 : ferr b = 0
  · have e : splE b = 13 := by
      unfold splE at he ⊢
      rw [if_pos h0] at he ⊢
      split at he
      · rename_i h; rw [if_pos h]
      · exact absurd rfl he
    have hc : (fread b).part = true ∨ ¬ (fread b).pos = 20 := by
      apply Classical.byContradiction
      intro hc
      unfold splE at he
      rw [if_pos h0, if_neg hc] at he
      exact he rfl
    rw [e]
    rw [h0] at c20
    generalize fread b = H at *
    cases hp : H.part with
    | true =>
      refine Triple.enter Tryz.func39 rfl Tryz.ntmps39 rfl (fun W => ?_)
      dsimp only [argsF, Nat.reduceAdd]
      repeat' (first
       | refine WPl.nil ?_ | refine WPq.then ?_ | refine WPq.thenR ?_ | refine WPc.seq ?_ | refine WPc.ret ?_ | refine WPc.skip ?_ | refine WPc.region ?_
       | (refine isCond ?_; first | refine WPc.cT ?_ | refine WPc.cF ?_ | (refine WPc.cQ (fun hc => ?_) (fun hc => ?_) <;> try exact prA))
       | (refine isC 20 ?_; refine WPl.cV (c20) ?_)
       | (refine isD 17 ?_; refine WPl.litS0 fun v17 hv17 => ?_)
       | (refine isD 24 ?_; refine WPl.rdX (ReadR.binE rfl rfl BinR.neq (congrArg (fun q => Value.bool (!q)) (decide_eq_true (rfl : (0 : Int) = 0)))) ?_)
       | (refine isOp ?_; first | refine WPl.rd ?_ | refine WPl.sk ?_ | refine WPl.rdB ?_)
       | (refine isAl ?_; refine WPl.nw fun g => ?_)
       | (refine isSt ?_; first | refine WPl.st1 ?_ | refine WPl.stA ?_ | refine WPl.stEB ?_ | refine WPl.stRB ?_)
       | (refine WPl.spQ (fun hc => ?_) (fun hc => ?_) <;> try exact prA)
       | fail)
      all_goals try (first | exact WPq.dTp | exact WPq.dTs | exact WPq.dV | exact WPq.dR | exact WPq.dR2 | exact WPq.dH | exact WPq.dBH | exact WPq.dT)
    | false =>
      have hp2 : ¬ H.pos = 20 := by
        rcases hc with h | h
        · rw [hp] at h; cases h
        · exact h
      refine Triple.enter Tryz.func39 rfl Tryz.ntmps39 rfl (fun W => ?_)
      dsimp only [argsF, Nat.reduceAdd]
      repeat' (first
       | refine WPl.nil ?_ | refine WPq.then ?_ | refine WPq.thenR ?_ | refine WPc.seq ?_ | refine WPc.ret ?_ | refine WPc.skip ?_ | refine WPc.region ?_
       | (refine isCond ?_; first | refine WPc.cT ?_ | refine WPc.cF ?_ | (refine WPc.cQ (fun hc => ?_) (fun hc => ?_) <;> try exact prA))
       | (refine isC 20 ?_; refine WPl.cV (c20) ?_)
       | (refine isD 17 ?_; refine WPl.litS0 fun v17 hv17 => ?_)
       | (refine isD 24 ?_; refine WPl.rdX (ReadR.binE rfl rfl BinR.neq (congrArg (fun q => Value.bool (!q)) (decide_eq_true (rfl : (0 : Int) = 0)))) ?_)
       | (refine isD 32 ?_; refine WPl.rdX (ReadR.binE rfl rfl BinR.neq (congrArg (fun q => Value.bool (!q)) (decide_eq_false hp2))) ?_)
       | (refine isOp ?_; first | refine WPl.rd ?_ | refine WPl.sk ?_ | refine WPl.rdB ?_)
       | (refine isAl ?_; refine WPl.nw fun g => ?_)
       | (refine isSt ?_; first | refine WPl.st1 ?_ | refine WPl.stA ?_ | refine WPl.stEB ?_ | refine WPl.stRB ?_)
       | (refine WPl.spQ (fun hc => ?_) (fun hc => ?_) <;> try exact prA)
       | fail)
      all_goals try (first | exact WPq.dTp | exact WPq.dTs | exact WPq.dV | exact WPq.dR | exact WPq.dR2 | exact WPq.dH | exact WPq.dBH | exact WPq.dT)
  · have e : splE b = ferr b := by unfold splE; rw [if_neg h0]
    rw [e]
    generalize fread b = H at *
    generalize ferr b = y at *
    refine Triple.enter Tryz.func39 rfl Tryz.ntmps39 rfl (fun W => ?_)
    dsimp only [argsF, Nat.reduceAdd]
    repeat' (first
     | refine WPl.nil ?_ | refine WPq.then ?_ | refine WPq.thenR ?_ | refine WPc.seq ?_ | refine WPc.ret ?_ | refine WPc.region ?_
     | (refine isCond ?_; first | refine WPc.cT ?_ | refine WPc.cF ?_ | (refine WPc.cQ (fun hc => ?_) (fun hc => ?_) <;> try exact prA))
     | (refine isC 20 ?_; refine WPl.cV (c20) ?_)
     | (refine isD 17 ?_; refine WPl.litS0 fun v17 hv17 => ?_)
     | (refine isD 24 ?_; refine WPl.rdX (ReadR.binE rfl rfl BinR.neq (congrArg (fun q => Value.bool (!q)) (decide_eq_false h0))) ?_)
     | (refine isOp ?_; first | refine WPl.rd ?_ | refine WPl.sk ?_ | refine WPl.rdB ?_)
     | (refine isAl ?_; refine WPl.nw fun g => ?_)
     | (refine isSt ?_; first | refine WPl.st1 ?_ | refine WPl.stA ?_ | refine WPl.stEB ?_ | refine WPl.stRB ?_)
     | fail)
    all_goals try (first | exact WPq.dTp | exact WPq.dTs | exact WPq.dV | exact WPq.dR | exact WPq.dR2 | exact WPq.dH | exact WPq.dBH | exact WPq.dT)
theorem rspl_t (v : Value) (b : List UInt8) (id z : Nat) (hid : id < 65536) (he : splE b = 0) (hz1 : 8 ≤ z) (hz2 : z ≤ 2024) (hz3 : z % 8 = 0) :
    Triple Tryz.prog 39 #[v, .int .u16 (id : Int), .int .i64 (z : Int)] [rb v b] (RSpl b id z) := by
  have h0 : ferr b = 0 := by
    apply Classical.byContradiction
    intro h0
    unfold splE at he
    rw [if_neg h0] at he
    exact h0 he
  have hc : ¬ ((fread b).part = true ∨ ¬ (fread b).pos = 20) := by
    intro hc
    unfold splE at he
    rw [if_pos h0, if_pos hc] at he
    omega
  have hp : (fread b).part = false := by cases h : (fread b).part with | true => exact absurd (.inl h) hc | false => rfl
  have hpos : (fread b).pos = 20 := by
    apply Classical.byContradiction
    intro h
    exact hc (.inr h)
  obtain ⟨z1, z2, _⟩ := ferr_zero h0
  have c20 := rf_t v b (by omega)
  simp only [fVal] at c20
  rw [h0] at c20
  have w1 := (fread b).src.len
  have w2 := (fread b).dst.len
  generalize fread b = H at *
  obtain ⟨n, hn⟩ : ∃ n, n = b.length - 20 := ⟨_, rfl⟩
  have hDl : (seg b 20 n).length = n := seg_length (by omega)
  have hSl : (seg b 0 20).length = 20 := seg_length (by omega)
  have h8 : (z : Int) % 8 = 0 := by omega
  have q1 : ¬ (z : Int) < 8 := by omega
  have q2 : ¬ (z : Int) > 2024 := by omega
  refine Triple.enter Tryz.func39 rfl Tryz.ntmps39 rfl (fun W => ?_)
  dsimp only [argsF, Nat.reduceAdd]
  refine WPc.gbag0 vrowV ?_
  refine WPc.segRdV (v := v) (l := b) 20 n memA (by omega) ?_
  obtain ⟨D, hD⟩ : ∃ D, D = seg b 20 n := ⟨_, rfl⟩
  obtain ⟨vD, hvD⟩ : ∃ vD, vD = subv 1 v 20 (b.length - 20) := ⟨_, rfl⟩
  have hvD2 : subv 1 v 20 n = vD := by rw [hvD, hn]
  rw [hvD2, ← hD]
  rw [← hD] at hDl
  repeat' (first
   | refine WPl.nil ?_ | refine WPq.then ?_ | refine WPc.seq ?_ | refine WPc.block ?_ | refine WPc.skip ?_ | refine WPc.region ?_
   | (refine isCond ?_; first | refine WPc.cT ?_ | refine WPc.cF ?_ | (refine WPc.cQ (fun hc => ?_) (fun hc => ?_) <;> try exact prA))
   | (refine isC 20 ?_; refine WPl.cV (c20) ?_)
   | (refine isD 17 ?_; refine WPl.litS0 fun v17 hv17 => ?_)
   | (refine isD 24 ?_; refine WPl.rdX (ReadR.binE rfl rfl BinR.neq (congrArg (fun q => Value.bool (!q)) (decide_eq_true (rfl : (0 : Int) = 0)))) ?_)
   | (refine isD 32 ?_; refine WPl.rdX (ReadR.binE rfl rfl BinR.neq (congrArg (fun q => Value.bool (!q)) (decide_eq_true hpos))) ?_)
   | (refine isD 36 ?_; refine WPl.rdX (ReadR.binE rfl rfl BinR.lss (congrArg Value.bool (decide_eq_false q1))) ?_)
   | (refine isD 39 ?_; refine WPl.rdX (ReadR.binE rfl rfl BinR.gtr (congrArg Value.bool (decide_eq_false q2))) ?_)
   | (refine isD 44 ?_; refine WPl.rdX (ReadR.binE rfl rfl BinR.neq (congrArg (fun q => Value.bool (!q)) (decide_eq_true h8))) ?_)
   | (refine isOp ?_; first | refine WPl.rd ?_ | refine WPl.sk ?_ | refine WPl.rdB ?_)
   | (refine isAl ?_; refine WPl.nw fun g => ?_)
   | (refine isSt ?_; first | refine WPl.st1 ?_ | refine WPl.stA ?_ | refine WPl.stEB ?_ | refine WPl.stRB ?_)
   | (refine WPl.spQ (fun hc => ?_) (fun hc => ?_) <;> try exact prA)
   | fail)
  rw [← hvD]
  have hD2 : D = seg b 20 (b.length - 20) := by rw [hD, hn]
  clear hD
  subst hDl
  have hbn : D.length ≤ 2028 := by omega
  have ezr : rowN 39 1 v17 0 [] = rowN 39 1 v17 ([] : List (Value × List UInt8)).length (([] : List (Value × List UInt8)).map (·.1)) := rfl
  rw [ezr]
  first | refine WPc.loop (σ := Nat × Value × List (Value × List UInt8)) (fun st => st.1 * z ≤ D.length + z ∧ st.2.1.oneCell' = true ∧ st.2.2.map (·.2) = (List.range st.1).map (rpAt b id z) ∧ (1 < st.1 → (st.1 - 1) * z < D.length)) (fun st => [rb vD D, rb v b, gbag vrowV st.2.2, rowN 39 1 st.2.1 st.2.2.length (st.2.2.map (·.1))]) (fun st => [(0, v), (1, .int .u16 (id : Int)), (2, .int .i64 (z : Int)), (11, vD), (12, .int .i64 ((z * st.1 : Nat) : Int)), (8, st.2.1)]) (fun st => 5000 - st.1 * z) ((0, v17, [])) ?_ takesA frsA (fun st km hx hk => ?_)
  · exact ⟨by omega, hv17, rfl, fun h => absurd h (by omega)⟩
  obtain ⟨i, vo, es⟩ := st
  obtain ⟨hiz, hvo, hes, hi1⟩ := hx
  dsimp only at hiz hvo hes hi1 hk ⊢
  have hkm : km = 5000 - i * z := hk
  clear hk
  have hel : es.length = i := by have := congrArg List.length hes; rwa [List.length_map, List.length_map, List.length_range] at this
  obtain ⟨q, hq⟩ : ∃ q, q = i * z := ⟨_, rfl⟩
  have hil : i ≤ q := by rw [hq]; exact Nat.le_mul_of_pos_right i (by omega)
  have hq1 : (i + 1) * z = q + z := by rw [Nat.succ_mul, hq]
  by_cases hgo : i = 0 ∨ q < D.length
  · rw [Nat.mul_comm z i, ← hq]
    obtain ⟨en, hen⟩ : ∃ en, en = rpEnd D.length z i := ⟨_, rfl⟩
    have hen2 : en = if D.length < q + z then D.length else q + z := by
      have : rpEnd D.length z i = if D.length < i * z + z then D.length else i * z + z := by with_unfolding_all rfl
      rw [hen, this, ← hq]
    obtain ⟨W0, hW0⟩ : ∃ W0, W0 = rpW D.length z i := ⟨_, rfl⟩
    have hW2 : W0 = q / 8 + (if en < D.length then 8192 else 0) := by
      have : rpW D.length z i = i * z / 8 + (if rpEnd D.length z i < D.length then 8192 else 0) := by with_unfolding_all rfl
      rw [hW0, this, ← hq, ← hen]
    have hqD0 : q ≤ D.length := by
      rcases hgo with h | h
      · rw [hq, h, Nat.zero_mul]; exact Nat.zero_le _
      · omega
    have hqe : q ≤ en ∧ en ≤ D.length := by
      rw [hen2]; split <;> omega
    have hen3 : (D.length < q + z → en = D.length) ∧ (¬ D.length < q + z → en = q + z) := ⟨fun h => by rw [hen2, if_pos h], fun h => by rw [hen2, if_neg h]⟩
    have hW3 : (en < D.length → W0 = q / 8 + 8192) ∧ (¬ en < D.length → W0 = q / 8) := ⟨fun h => by rw [hW2, if_pos h], fun h => by rw [hW2, if_neg h]; rfl⟩
    have hW4 : W0 ≤ 65535 := by rw [hW2]; split <;> omega
    clear hW2 hen2
    have hXl : (seg b 0 20 ++ seg D q (en - q)).length = 20 + (en - q) := by rw [List.length_append, hSl, seg_length (by omega)]
    have hpl : rpAt b id z i = rpL (seg b 0 20 ++ seg D q (en - q)) id W0 := by
      have : rpAt b id z i = rpL (seg b 0 20 ++ seg (seg b 20 (b.length - 20)) (i * z) (rpEnd (b.length - 20) z i - i * z)) id (rpW (b.length - 20) z i) := by with_unfolding_all rfl
      rw [this, ← hD2, ← hn, ← hen, ← hq, ← hW0]
    clear hen hW0
    have hq00 : i = 0 → q = 0 := fun h => by rw [hq, h, Nat.zero_mul]
    repeat' (first
     | (refine isSeq1 11 ?_; refine WPc.join (σ := Unit) (fun u => True) (fun u => [rb vD D, rb v b, gbag vrowV es, rowN 39 1 vo es.length (es.map (·.1))]) (fun u => [(0, v), (1, .int .u16 (id : Int)), (2, .int .i64 (z : Int)), (11, vD), (12, .int .i64 (q : Int)), (8, vo), (56, .bool true)]) ?_ (fun st hx => ?_))
     | (refine isSeqR 14 ?_; refine WPc.join (σ := Unit) (fun u => True) (fun u => [rb vD D, rb v b, gbag vrowV es, rowN 39 1 vo es.length (es.map (·.1))]) (fun u => [(0, v), (1, .int .u16 (id : Int)), (2, .int .i64 (z : Int)), (11, vD), (12, .int .i64 (q : Int)), (8, vo), (13, .int .i64 (en : Int))]) ?_ (fun st hx => ?_))
     | refine WPl.nil ?_ | refine WPq.then ?_ | refine WPc.seq ?_ | refine WPc.block ?_ | refine WPc.skip ?_ | refine WPc.region ?_
     | (refine isCond ?_; first | refine WPc.cT ?_ | refine WPc.cF ?_ | (refine WPc.cQ (fun hc => ?_) (fun hc => ?_) <;> try exact prA))
     | (refine isD 55 ?_; refine WPl.rdX (ReadR.binE rfl rfl BinR.lss (congrArg Value.bool (decide_eq_true (show (q : Int) < (D.length : Int) by omega)))) ?_)
     | (refine isD 62 ?_; refine WPl.rdX (ReadR.binE rfl rfl (BinR.addI (by omega) (by omega)) (congrArg (Value.int .i64) (show (q : Int) + (z : Int) = ((q + z : Nat) : Int) by omega))) ?_)
     | (refine isOp ?_; first | refine WPl.rd ?_ | refine WPl.sk ?_ | refine WPl.rdB ?_)
     | (refine WPl.spQ (fun hc => ?_) (fun hc => ?_) <;> try exact prA)
     | fail)
    · exact WPq.join () trivial
    · exact WPq.join () trivial
    · have e1 : en = D.length := by omega
      subst e1
      exact WPq.join () trivial
    · have e1 : en = q + z := by omega
      subst e1
      exact WPq.join () trivial
    repeat' (first
     | (refine isSeqR 17 ?_; refine Held.it ?_)
     | refine WPq.then ?_
     | (refine isReg 16 ?_; refine WPc.drA [([], [70, 71, 73, 74, 75, 76, 78, 79]), ([], [69, 73, 74, 75, 76, 78, 79]), ([1], [69, 70, 73, 74, 75, 76, 78, 79]), ([0, 1, 2], [69, 70, 71, 73, 74, 75, 76, 78, 79]), ([], [69, 70, 71, 72, 74, 75, 78, 79]), ([], [69, 70, 71, 72, 73, 75, 78, 79]), ([], [69, 70, 71, 72, 73, 74, 78, 79]), ([4, 5, 6], [69, 70, 71, 72, 73, 74, 75, 78, 79]), ([0, 1, 2, 3, 4, 5, 6, 7], [69, 70, 71, 72, 73, 74, 75, 76, 78, 79]), ([], [14, 69, 70, 71, 72, 73, 74, 75, 76, 77]), ([9], [14, 69, 70, 71, 72, 73, 74, 75, 76, 77, 78]), ([0, 1, 2, 3, 4, 5, 6, 7, 8], [69, 70, 71, 72, 73, 74, 75, 76, 77, 78, 79]), ([0, 1, 2, 3, 4, 5, 6, 7, 8, 9, 10, 11], [14, 69, 70, 71, 72, 73, 74, 75, 76, 77, 78, 79])] [(0, 3), (3, 8)] (Γx := []) ?_; dsimp only [prev0, List.length_nil, List.length_cons])
     | (refine gAny ?_; first | (refine gD 76 ?_; refine RGl.rdX (fun e hk => by (try dsimp only [bndR, ensR, oksR, fcutR, List.append_nil, List.nil_append, List.cons_append, List.append_assoc] at hk ⊢); exact ReadR.sliceLH (i := q) (j := en) rfl rfl rfl hasA (by omega) (by omega)) ?_) | (refine gD 79 ?_; refine RGl.rdX (fun e hk => by (try dsimp only [bndR, ensR, oksR, fcutR, List.append_nil, List.nil_append, List.cons_append, List.append_assoc] at hk ⊢); exact ReadR.binE rfl rfl (BinR.quoK (by omega) (by omega) (by simp only [kmax]; omega)) (congrArg (Value.int .i64) (show (q : Int) / 8 = ((q / 8 : Nat) : Int) by omega))) ?_) | (refine gOp ?_; first | refine RGl.rdA ?_ | refine RGl.rdX (fun e hk => by (try dsimp only [bndR, ensR, oksR, fcutR, List.append_nil, List.nil_append, List.cons_append, List.append_assoc] at hk ⊢); exact readB) ?_) | (refine gLit ?_; refine RGl.litA ?_) | (refine gApp ?_; refine RGl.appA ?_) | (refine RGl.fin (fun e hk => ?_); (try dsimp only [bndA, ensAR, oksA, List.append_nil, List.nil_append, List.cons_append, List.append_assoc] at hk ⊢); (repeat (obtain ⟨hk1, hk⟩ := hk))) | fail)
     | fail)
    refine ⟨?_⟩
    dsimp only [Nat.reduceAdd]
    have ho8 : (e 8).1.oneCell' = true := by assumption
    generalize (e 8).1 = vx at *
    simp only [show nbs [] = [] from rfl, List.nil_append]
    generalize seg b 0 20 ++ seg D q (en - q) = X at *
    have a1 := wrap_hi (n := X.length) (by omega)
    have a2 := wrap_lo (n := X.length) (by omega)
    have a3 := wrap_hi (n := id) (by omega)
    have a4 := wrap_lo (n := id) (by omega)
    have a5 := wrap_hi (n := W0) (by omega)
    have a6 := wrap_lo (n := W0) (by omega)
    have l1 : ((X).set 2 (UInt8.ofNat (X.length / 256))).length = 20 + (en - q) := by rw [List.length_set]; exact hXl
    have l2 : (((X).set 2 (UInt8.ofNat (X.length / 256))).set 3 (UInt8.ofNat X.length)).length = 20 + (en - q) := by rw [List.length_set]; exact l1
    have l3 : ((((X).set 2 (UInt8.ofNat (X.length / 256))).set 3 (UInt8.ofNat X.length)).set 4 (UInt8.ofNat (id / 256))).length = 20 + (en - q) := by rw [List.length_set]; exact l2
    have l4 : (((((X).set 2 (UInt8.ofNat (X.length / 256))).set 3 (UInt8.ofNat X.length)).set 4 (UInt8.ofNat (id / 256))).set 5 (UInt8.ofNat id)).length = 20 + (en - q) := by rw [List.length_set]; exact l3
    have l5 : ((((((X).set 2 (UInt8.ofNat (X.length / 256))).set 3 (UInt8.ofNat X.length)).set 4 (UInt8.ofNat (id / 256))).set 5 (UInt8.ofNat id)).set 6 (UInt8.ofNat (W0 / 256))).length = 20 + (en - q) := by rw [List.length_set]; exact l4
    have l6 : (((((((X).set 2 (UInt8.ofNat (X.length / 256))).set 3 (UInt8.ofNat X.length)).set 4 (UInt8.ofNat (id / 256))).set 5 (UInt8.ofNat id)).set 6 (UInt8.ofNat (W0 / 256))).set 7 (UInt8.ofNat W0)).length = 20 + (en - q) := by rw [List.length_set]; exact l5
    have l7 : ((((((((X).set 2 (UInt8.ofNat (X.length / 256))).set 3 (UInt8.ofNat X.length)).set 4 (UInt8.ofNat (id / 256))).set 5 (UInt8.ofNat id)).set 6 (UInt8.ofNat (W0 / 256))).set 7 (UInt8.ofNat W0)).set 10 0).length = 20 + (en - q) := by rw [List.length_set]; exact l6
    have l8 : (((((((((X).set 2 (UInt8.ofNat (X.length / 256))).set 3 (UInt8.ofNat X.length)).set 4 (UInt8.ofNat (id / 256))).set 5 (UInt8.ofNat id)).set 6 (UInt8.ofNat (W0 / 256))).set 7 (UInt8.ofNat W0)).set 10 0).set 11 0).length = 20 + (en - q) := by rw [List.length_set]; exact l7
    have c124 := fun u => rsum_t (subv 1 u 0 20) (seg (((((((((X).set 2 (UInt8.ofNat (X.length / 256))).set 3 (UInt8.ofNat X.length)).set 4 (UInt8.ofNat (id / 256))).set 5 (UInt8.ofNat id)).set 6 (UInt8.ofNat (W0 / 256))).set 7 (UInt8.ofNat W0)).set 10 0).set 11 0) 0 20) (by rw [seg_length (by omega)]; omega)
    have hcs := csum_le (seg (((((((((X).set 2 (UInt8.ofNat (X.length / 256))).set 3 (UInt8.ofNat X.length)).set 4 (UInt8.ofNat (id / 256))).set 5 (UInt8.ofNat id)).set 6 (UInt8.ofNat (W0 / 256))).set 7 (UInt8.ofNat W0)).set 10 0).set 11 0) 0 20)
    have hsl20 : (seg (((((((((X).set 2 (UInt8.ofNat (X.length / 256))).set 3 (UInt8.ofNat X.length)).set 4 (UInt8.ofNat (id / 256))).set 5 (UInt8.ofNat id)).set 6 (UInt8.ofNat (W0 / 256))).set 7 (UInt8.ofNat W0)).set 10 0).set 11 0) 0 20).length = 20 := seg_length (by omega)
    have eL : rpL X id W0 = ((((((((((X).set 2 (UInt8.ofNat (X.length / 256))).set 3 (UInt8.ofNat X.length)).set 4 (UInt8.ofNat (id / 256))).set 5 (UInt8.ofNat id)).set 6 (UInt8.ofNat (W0 / 256))).set 7 (UInt8.ofNat W0)).set 10 0).set 11 0).set 10 (UInt8.ofNat (csum (seg (((((((((X).set 2 (UInt8.ofNat (X.length / 256))).set 3 (UInt8.ofNat X.length)).set 4 (UInt8.ofNat (id / 256))).set 5 (UInt8.ofNat id)).set 6 (UInt8.ofNat (W0 / 256))).set 7 (UInt8.ofNat W0)).set 10 0).set 11 0) 0 20) / 256))).set 11 (UInt8.ofNat (csum (seg (((((((((X).set 2 (UInt8.ofNat (X.length / 256))).set 3 (UInt8.ofNat X.length)).set 4 (UInt8.ofNat (id / 256))).set 5 (UInt8.ofNat id)).set 6 (UInt8.ofNat (W0 / 256))).set 7 (UInt8.ofNat W0)).set 10 0).set 11 0) 0 20))) := by with_unfolding_all rfl
    rw [eL] at hpl
    generalize csum (seg (((((((((X).set 2 (UInt8.ofNat (X.length / 256))).set 3 (UInt8.ofNat X.length)).set 4 (UInt8.ofNat (id / 256))).set 5 (UInt8.ofNat id)).set 6 (UInt8.ofNat (W0 / 256))).set 7 (UInt8.ofNat W0)).set 10 0).set 11 0) 0 20) = s0 at *
    have l9 : ((((((((((X).set 2 (UInt8.ofNat (X.length / 256))).set 3 (UInt8.ofNat X.length)).set 4 (UInt8.ofNat (id / 256))).set 5 (UInt8.ofNat id)).set 6 (UInt8.ofNat (W0 / 256))).set 7 (UInt8.ofNat W0)).set 10 0).set 11 0).set 10 (UInt8.ofNat (s0 / 256))).length = 20 + (en - q) := by rw [List.length_set]; exact l8
    have a7 := wrap_hi hcs
    have a8 := wrap_lo hcs
    repeat' (first
     | (refine isSeqR 17 ?_; refine WPc.join (σ := Unit) (fun u => True) (fun u => [ob vx X, rb vD D, rb v b, gbag vrowV es, rowN 39 1 vo es.length (es.map (·.1))]) (fun u => [(0, v), (1, .int .u16 (id : Int)), (2, .int .i64 (z : Int)), (11, vD), (12, .int .i64 (q : Int)), (8, vo), (14, vx), (15, .int .i64 (W0 : Int))]) ?_ (fun st hx => ?_))
     | refine WPl.nil ?_ | refine WPq.then ?_ | refine WPq.blockN ?_ | refine WPc.seq ?_ | refine WPc.skip ?_ | refine WPc.region ?_
     | (refine isCond ?_; first | refine WPc.cT ?_ | refine WPc.cF ?_ | (refine WPc.cQ (fun hc => ?_) (fun hc => ?_) <;> try exact prA))
     | (refine isD 93 ?_; refine WPl.rdX (ReadR.convT a1 rfl rfl) ?_)
     | (refine isD 97 ?_; refine WPl.rdX (ReadR.convT a2 rfl rfl) ?_)
     | (refine isD 100 ?_; refine WPl.rdX (ReadR.convT a3 rfl rfl) ?_)
     | (refine isD 103 ?_; refine WPl.rdX (ReadR.convT a4 rfl rfl) ?_)
     | (refine isD 114 ?_; refine WPl.rdX (ReadR.convT a5 rfl rfl) ?_)
     | (refine isD 117 ?_; refine WPl.rdX (ReadR.convT a6 rfl rfl) ?_)
     | (show WPl _ _ _ _ _ _ _ (⟨_, .store _ (.tmp 120) _, _, _, _, _⟩ :: _) _; first | refine WPl.stEB (b := (0 : UInt8)) ?_ | refine WPl.stRB (b := (0 : UInt8)) ?_)
     | (show WPl _ _ _ _ _ _ _ (⟨_, .store _ (.tmp 121) _, _, _, _, _⟩ :: _) _; first | refine WPl.stEB (b := (0 : UInt8)) ?_ | refine WPl.stRB (b := (0 : UInt8)) ?_)
     | (refine isC 124 ?_; refine WPl.cV ((c124 _)) ?_)
     | (refine isD 129 ?_; refine WPl.rdX (ReadR.convT a7 rfl rfl) ?_)
     | (refine isD 132 ?_; refine WPl.rdX (ReadR.convT a8 rfl rfl) ?_)
     | (refine isD 59 ?_; refine WPl.rdX (ReadR.binE rfl rfl (BinR.addI (by omega) (by omega)) (congrArg (Value.int .i64) (show (q : Int) + (z : Int) = ((q + z : Nat) : Int) by omega))) ?_)
     | (refine isLit ?_; refine WPl.lits fun v hv => ?_)
     | (refine isD 138 ?_; refine WPl.appN (m := es.length) (m2 := 1) (xs := es.map (·.1)) (ys := [vx]) rfl (fun u hu => by rw [List.mem_singleton.1 hu]; exact ho8) (by omega) fun v138 hv138 => ?_)
     | (refine isOp ?_; first | refine WPl.rd ?_ | refine WPl.sk ?_ | refine WPl.rdB ?_)
     | (refine isSt ?_; first | refine WPl.st1 ?_ | refine WPl.stA ?_ | refine WPl.stEB ?_ | refine WPl.stRB ?_)
     | fail)
    · rw [show ((W0 : Nat) : Int) = ((q / 8 : Nat) : Int) + 8192 by omega]
      exact WPq.join () trivial
    · rw [show ((W0 : Nat) : Int) = ((q / 8 : Nat) : Int) by omega]
      exact WPq.join () trivial
    rw [← hpl]
    clear eL hpl l9 hsl20 c124 l8 l7 l6 l5 l4 l3 l2 l1 a1 a2 a3 a4 a5 a6 a7 a8 hcs
    have hes2 : (es ++ [(vx, rpAt b id z i)]).map (·.2) = (List.range (i + 1)).map (rpAt b id z) := by
      rw [List.map_append, hes, List.range_succ, List.map_append, List.map_singleton, List.map_singleton]
    have hnx : (i + 1) * z ≤ D.length + z := by rw [hq1]; omega
    have hst1 : 1 < i + 1 → (i + 1 - 1) * z < D.length := fun h => by
      rw [Nat.add_sub_cancel, ← hq]
      rcases hgo with h2 | h2 <;> omega
    refine WPq.gbagI (row := vrowV) (es := es ++ [(vx, rpAt b id z i)]) (es' := es) (x := (vx, rpAt b id z i)) vrowV_own List.perm_append_comm (show Takes _ [gbag vrowV es, ob vx (rpAt b id z i)] _ from takesA) ?_
    rw [show rowN 39 1 v138 (es.length + 1) (es.map (·.1) ++ [vx]) = rowN 39 1 v138 (es ++ [(vx, rpAt b id z i)]).length ((es ++ [(vx, rpAt b id z i)]).map (·.1)) from by rw [List.length_append, List.map_append]; rfl]
    exact WPq.rnd (i + 1, v138, es ++ [(vx, rpAt b id z i)]) ⟨hnx, hv138, hes2, hst1⟩ (by dsimp only; rw [hq1]; omega) (hF := by rw [Nat.mul_comm z (i + 1), hq1]; exact frsA)
  · have hi0 : ¬ i = 0 := fun h => hgo (.inl h)
    have hq0 : 0 < q := by rw [hq]; exact Nat.mul_pos (by omega) (by omega)
    have hk2 : i = rpNum (b.length - 20) z := by
      rw [← hn]
      exact rpNum_of (by omega) (by omega) (by rw [← hq]; omega) hi1
    rw [Nat.mul_comm z i, ← hq]
    repeat' (first
     | refine WPl.nil ?_ | refine WPq.then ?_ | refine WPq.thenE ?_ | refine WPq.blockE ?_ | refine WPc.seq ?_ | refine WPc.ret ?_ | refine WPc.exit ?_ | refine WPc.region ?_
     | (refine isCond ?_; first | refine WPc.cT ?_ | refine WPc.cF ?_ | (refine WPc.cQ (fun hc => ?_) (fun hc => ?_) <;> try exact prA))
     | (refine isD 50 ?_; refine WPl.rdX (ReadR.binE rfl rfl BinR.eql (congrArg Value.bool (decide_eq_false (show ¬ (q : Int) = 0 by omega)))) ?_)
     | (refine isD 55 ?_; refine WPl.rdX (ReadR.binE rfl rfl BinR.lss (congrArg Value.bool (decide_eq_false (show ¬ (q : Int) < (D.length : Int) by omega)))) ?_)
     | (refine isOp ?_; first | refine WPl.rd ?_ | refine WPl.sk ?_ | refine WPl.rdB ?_)
     | fail)
    exact WPq.dX (vs := [vo, .int .i64 0]) [rowN 39 1 vo es.length (es.map (·.1)), gbag vrowV es] ⟨vo, es, hvo, rfl, by rw [← hk2]; exact hes, rfl⟩ (ho := ownsV35)

end Go.Proofs.YtpilenbdimhegaaGreatDoor
/- Layer 42 (gate): a statement's packet: its bytes: contracts. -/
namespace Go.Proofs.YtpilenbdimhegaaGreatDoor
open Go.RowKit
set_option linter.unusedVariables false
set_option linter.unusedSimpArgs false
theorem WPq.gbagO {n : Nat} {W : World} {S : Nat → Prop} {Γ : List Asn} {F : List (Nat × Value)} {Q : Exit → Act → World → Prop} {α : Type} {row : α → List Asn} {es es' : List α} {x : α} {e : Exit} {Γf : List Asn} (ho : ∀ x A, A ∈ row x → A.own = true) (hp : es.Perm (x :: es')) (ht : Takes Γ [gbag row es] Γf) (k : WPq n W S (gbag row es' :: (row x ++ Γf)) F Q e) : WPq n W S Γ F Q e := fun a w hf hg => k a w hf (Good.gbagOut ho hp (hg.perm ht))
theorem WPq.oneOb {n : Nat} {W : World} {S : Nat → Prop} {Γ : List Asn} {F : List (Nat × Value)} {Q : Exit → Act → World → Prop} {ty : TypeId} {sz m : Nat} {v : Value} {xs : List Value} {e : Exit} (hm : rowN ty sz v m xs ∈ Γ) (k : v.oneCell' = true → WPq n W S Γ F Q e) : WPq n W S Γ F Q e := fun a w hf hg => k (by
  have h : w.ownsRow 0 ty sz v m xs := hg.all _ hm
  rcases h.2 with hn | ⟨g, cap, cur, hv, _⟩
  · rw [hn.1]; rfl
  · rw [hv]; rfl) a w hf hg
theorem spl_pick {es : List (Value × List UInt8)} {k : Nat} {g : Nat → List UInt8} (hes : es.map (·.2) = (List.range k).map g) (hk : 1 ≤ k) (a : Nat) :
    es.length = k ∧ a % es.length < es.length ∧ ∃ p es', (es.map (·.1))[a % es.length]? = some p.1 ∧ p.2 = g (a % k) ∧ es.Perm (p :: es') := by
  have hel : es.length = k := by have := congrArg List.length hes; rwa [List.length_map, List.length_map, List.length_range] at this
  have hlt : a % es.length < es.length := Nat.mod_lt _ (by omega)
  refine ⟨hel, hlt, es[a % es.length], es.take (a % es.length) ++ es.drop (a % es.length + 1), ?_, ?_, ?_⟩
  · rw [List.getElem?_map, List.getElem?_eq_getElem hlt]; rfl
  · have h := congrArg (fun l => l[a % es.length]?) hes
    try dsimp only at h
    rw [List.getElem?_map, List.getElem?_map, List.getElem?_eq_getElem hlt, List.getElem?_range (by omega)] at h
    rw [← hel]
    exact Option.some.inj h
  · have h : es = es.take (a % es.length) ++ es[a % es.length] :: es.drop (a % es.length + 1) := by
      rw [← List.drop_eq_getElem_cons hlt, List.take_append_drop]
    conv => lhs; rw [h]
    exact List.perm_middle
open Go.RowKit
set_option linter.unusedSimpArgs false
set_option linter.unusedVariables false
set_option maxRecDepth 20000
set_option maxHeartbeats 4000000
attribute [local irreducible] WPc WPl WPq ReadR OpT BinR HasS bx rdN rowN Take Takes Prov Triple ResF BuildP Done ag Int.decLt Int.decLe Int.instDecidableEq
/-- A packet that comes. -/
structure GA where
  f : Fl
  flags : UInt8
  v : Value
  d : List UInt8
  raw : Bool
  size : UInt8
  at' : UInt8
  more : UInt8
abbrev gaC (x : GA) : Ch := [(1, [.bool x.f.src.six]), (16, u8s x.f.src.b), (1, [.bool x.f.dst.six]), (16, u8s x.f.dst.b), (1, [.int .u16 (x.f.sp : Int)]), (1, [.int .u16 (x.f.dp : Int)]), (1, [.int .u8 ((x.f.proto.toNat : Nat) : Int)]), (1, [.int .u8 ((x.flags.toNat : Nat) : Int)]), (1, [x.v]), (1, [.bool x.raw]), (1, [.int .u8 ((x.size.toNat : Nat) : Int)]), (1, [.int .u8 ((x.at'.toNat : Nat) : Int)]), (1, [.int .u8 ((x.more.toNat : Nat) : Int)])]
def gaZ (x : GA) : Nat := 8 * (1 + x.size.toNat % 6)
def gaP (x : GA) : List UInt8 := pbL x.f x.flags 64 (x.d.take 100)
/-- Its bytes. -/
def gaB (x : GA) : List UInt8 :=
  if x.raw then x.d.take 100
  else if x.size.toNat = 0 then gaP x
  else if splE (gaP x) = 0 then rpAt (gaP x) 7 (gaZ x) (x.at'.toNat % rpNum ((gaP x).length - 20) (gaZ x))
  else gaP x
theorem rpNum_pos (n : Nat) {z : Nat} (hz : 0 < z) : 1 ≤ rpNum n z := by
  unfold rpNum
  split
  · exact Nat.le_refl _
  · rename_i h
    exact (Nat.le_div_iff_mul_le hz).2 (by omega)
theorem pbL_len (f : Fl) (flags hops : UInt8) (d : List UInt8) (hd : d.length ≤ 500) : (pbL f flags hops d).length ≤ 1000 := by
  unfold pbL
  split
  · exact Nat.zero_le _
  · rename_i he
    have hB := swL_len (h := pbH f hops) (s := pbS f flags) (d := d) (by omega)
    split
    · unfold xwL
      split
      · unfold xpkt pbB
        have y1 := (pbH f hops).src.bytes_le
        have y2 := (pbH f hops).dst.bytes_le
        have y3 := be_length (swL (pbH f hops) (pbS f flags) d).length 2
        simp only [List.flatten_cons, List.flatten_nil, List.length_append, List.append_nil, nbs, List.length_map, List.length_cons, List.length_nil, y3]
        omega
      · exact Nat.zero_le _
    · unfold fwL
      split
      · rename_i h2
        obtain ⟨hb, _⟩ := fwerr_zero h2
        obtain ⟨b1, b2, b3, b4, b5, b6, b7⟩ := fwBad_no hb
        unfold fpkt pbB
        have y1 := fpre_len (h := pbH f hops) (n := (swL (pbH f hops) (pbS f flags) d).length) b4 b5
        have y2 := be_length (csum (fpre (pbH f hops) (swL (pbH f hops) (pbS f flags) d).length)) 2
        rw [List.flatten_cons, List.flatten_cons, List.flatten_nil, List.append_nil, List.length_append, over_length (by rw [y1, y2]; omega), y1]
        omega
      · exact Nat.zero_le _
attribute [local irreducible] gbag splE rpAt rpNum pbL pbE gaP gaZ
theorem gbytes_t (x : GA) (h1 : x.f.sp < 65536) (h2 : x.f.dp < 65536) (hv : x.v.oneCell' = true) : Triple Tryz.prog 11 #[ag (gaC x)] [rb x.v x.d] (ROb (gaB x)) := by
  have ls := x.f.src.len
  have ld := x.f.dst.len
  have c10 := few_t x.v x.d 100 (by omega)
  have hd : (x.d.take 100).length ≤ 100 := List.length_take_le _ _
  have c20 := fun v => rbuild_t x.f x.flags 64 v (x.d.take 100) (by omega) h1 h2
  have hl : (gaP x).length ≤ 1000 := by
    have : gaP x = pbL x.f x.flags 64 (x.d.take 100) := by with_unfolding_all rfl
    rw [this]
    exact pbL_len _ _ _ _ (by omega)
  have eP : pbL x.f x.flags 64 (x.d.take 100) = gaP x := by with_unfolding_all rfl
  rw [eP] at c20
  cases hr : x.raw with
  | true =>
    have e : gaB x = x.d.take 100 := by unfold gaB; rw [if_pos hr]
    rw [e]
    generalize x.d.take 100 = D at *
    refine Triple.enter Tryz.func11 rfl Tryz.ntmps11 rfl (fun W => ?_)
    dsimp only [argsF, Nat.reduceAdd]
    repeat' (first
     | refine WPl.nil ?_ | refine WPq.then ?_ | refine WPq.thenR ?_ | refine WPq.thenE ?_ | refine WPq.blockN ?_ | refine WPq.blockR ?_ | refine WPq.blockE ?_ | refine WPq.blockO rfl ?_ | refine WPc.seq ?_ | refine WPc.block ?_ | refine WPc.ret ?_ | refine WPc.exit ?_ | refine WPc.skip ?_ | refine WPc.region ?_
     | (refine isCond ?_; first | refine WPc.cT ?_ | refine WPc.cF ?_ | (refine WPc.cQ (fun hc => ?_) (fun hc => ?_) <;> try exact prA))
     | (refine isC 10 ?_; refine WPl.cR (c10) fun v hv => ?_)
     | (refine isD 12 ?_; refine WPl.rdX (ReadR.loadS rfl memA (congrArg (fun b => some [(1, [Value.bool b])]) hr)) ?_)
     | (refine isOp ?_; first | refine WPl.rd ?_ | refine WPl.sk ?_ | refine WPl.rdB ?_)
     | (refine isBx ?_; refine WPl.nw fun g => ?_)
     | (show WPl _ _ _ _ _ _ _ (⟨_, .indexAddr _ _ _, _, _, _, _⟩ :: _) _; refine WPl.rdX (ReadR.indexE rfl rfl hasA (by first | assumption | omega)) ?_)
     | (show WPl _ _ _ _ _ _ _ (⟨_, .fieldAddr _ _ _, _, _, _, _⟩ :: _) _; refine WPl.rdX (ReadR.fieldE rfl hasA (by first | assumption | omega)) ?_)
     | (show WPl _ _ _ _ _ _ _ (⟨_, .load _ _, _, _, _, _⟩ :: _) _; first | refine WPl.rdX (ReadR.loadE rfl hasA (by assumption)) ?_ | refine WPl.rdX (ReadR.loadES (by assumption) (by first | assumption | omega) rfl hasA) ?_)
     | (show WPl _ _ _ _ _ _ _ (⟨_, .slice _ _ _ _ _, _, _, _, _⟩ :: _) _; first | refine WPl.rdX (ReadR.sliceH rfl rfl hasA (by omega)) ?_ | refine WPl.rdX (ReadR.sliceL rfl rfl hasA (by omega)) ?_ | refine WPl.rdX (ReadR.sliceLH rfl rfl rfl hasA (by omega) (by omega)) ?_)
     | (refine WPl.spQ (fun hc => ?_) (fun hc => ?_) <;> try exact prA)
     | fail)
    all_goals try (first | exact WPq.dTp | exact WPq.dTs | exact WPq.dV | exact WPq.dR | exact WPq.dR2 | exact WPq.dH | exact WPq.dBH | exact WPq.dT)
  | false =>
    have e0 : gaB x = if x.size.toNat = 0 then gaP x else if splE (gaP x) = 0 then rpAt (gaP x) 7 (gaZ x) (x.at'.toNat % rpNum ((gaP x).length - 20) (gaZ x)) else gaP x := by unfold gaB; rw [if_neg (by rw [hr]; decide)]
    rw [e0]
    clear e0
    generalize pbE x.f x.flags 64 (x.d.take 100) = y at *
    generalize x.d.take 100 = D at *
    generalize gaP x = B at *
    by_cases hs : x.size.toNat = 0
    · rw [if_pos hs]
      refine Triple.enter Tryz.func11 rfl Tryz.ntmps11 rfl (fun W => ?_)
      dsimp only [argsF, Nat.reduceAdd]
      repeat' (first
       | refine WPl.nil ?_ | refine WPq.then ?_ | refine WPq.thenR ?_ | refine WPq.thenE ?_ | refine WPq.blockN ?_ | refine WPq.blockR ?_ | refine WPq.blockE ?_ | refine WPq.blockO rfl ?_ | refine WPc.seq ?_ | refine WPc.block ?_ | refine WPc.ret ?_ | refine WPc.exit ?_ | refine WPc.skip ?_ | refine WPc.region ?_
       | (refine isCond ?_; first | refine WPc.cT ?_ | refine WPc.cF ?_ | (refine WPc.cQ (fun hc => ?_) (fun hc => ?_) <;> try exact prA))
       | (refine isC 10 ?_; refine WPl.cR (c10) fun v hv => ?_)
       | (refine isC 20 ?_; refine WPl.cR2 ((c20 _)) fun v hv => ?_)
       | (refine isD 12 ?_; refine WPl.rdX (ReadR.loadS rfl memA (congrArg (fun b => some [(1, [Value.bool b])]) hr)) ?_)
       | (refine isD 25 ?_; refine WPl.rdX (ReadR.binE rfl rfl BinR.eql (congrArg Value.bool (decide_eq_true (show ((x.size.toNat : Nat) : Int) = 0 by omega)))) ?_)
       | (refine isOp ?_; first | refine WPl.rd ?_ | refine WPl.sk ?_ | refine WPl.rdB ?_)
       | (refine isBx ?_; refine WPl.nw fun g => ?_)
       | (show WPl _ _ _ _ _ _ _ (⟨_, .indexAddr _ _ _, _, _, _, _⟩ :: _) _; refine WPl.rdX (ReadR.indexE rfl rfl hasA (by first | assumption | omega)) ?_)
       | (show WPl _ _ _ _ _ _ _ (⟨_, .fieldAddr _ _ _, _, _, _, _⟩ :: _) _; refine WPl.rdX (ReadR.fieldE rfl hasA (by first | assumption | omega)) ?_)
       | (show WPl _ _ _ _ _ _ _ (⟨_, .load _ _, _, _, _, _⟩ :: _) _; first | refine WPl.rdX (ReadR.loadE rfl hasA (by assumption)) ?_ | refine WPl.rdX (ReadR.loadES (by assumption) (by first | assumption | omega) rfl hasA) ?_)
       | (show WPl _ _ _ _ _ _ _ (⟨_, .slice _ _ _ _ _, _, _, _, _⟩ :: _) _; first | refine WPl.rdX (ReadR.sliceH rfl rfl hasA (by omega)) ?_ | refine WPl.rdX (ReadR.sliceL rfl rfl hasA (by omega)) ?_ | refine WPl.rdX (ReadR.sliceLH rfl rfl rfl hasA (by omega) (by omega)) ?_)
       | (refine WPl.spQ (fun hc => ?_) (fun hc => ?_) <;> try exact prA)
       | fail)
      all_goals try (first | exact WPq.dTp | exact WPq.dTs | exact WPq.dV | exact WPq.dR | exact WPq.dR2 | exact WPq.dH | exact WPq.dBH | exact WPq.dT)
    · rw [if_neg hs]
      have hsz := x.size.toNat_lt
      have hz : gaZ x = 8 * (1 + x.size.toNat % 6) := by with_unfolding_all rfl
      by_cases he : splE B = 0
      · rw [if_pos he]
        have c35 := fun v => rspl_t v B 7 (gaZ x) (by omega) he (by omega) (by omega) (by omega)
        have hat := x.at'.toNat_lt
        have hk1 := rpNum_pos (B.length - 20) (z := gaZ x) (by omega)
        have hn0 : Value.bool (!decide ((0 : Int) = 0)) = .bool false := by rw [decide_eq_true rfl]; rfl
        refine Triple.enter Tryz.func11 rfl Tryz.ntmps11 rfl (fun W => ?_)
        dsimp only [argsF, Nat.reduceAdd]
        repeat' (first
         | refine WPl.nil ?_ | refine WPq.then ?_ | refine WPq.thenR ?_ | refine WPq.thenE ?_ | refine WPq.blockN ?_ | refine WPq.blockR ?_ | refine WPq.blockE ?_ | refine WPq.blockO rfl ?_ | refine WPc.seq ?_ | refine WPc.block ?_ | refine WPc.ret ?_ | refine WPc.exit ?_ | refine WPc.skip ?_ | refine WPc.region ?_
         | (refine isCond ?_; first | refine WPc.cT ?_ | refine WPc.cF ?_ | (refine WPc.cQ (fun hc => ?_) (fun hc => ?_) <;> try exact prA))
         | (refine isC 10 ?_; refine WPl.cR (c10) fun v hv => ?_)
         | (refine isC 20 ?_; refine WPl.cR2 ((c20 _)) fun v hv => ?_)
         | (refine isD 12 ?_; refine WPl.rdX (ReadR.loadS rfl memA (congrArg (fun b => some [(1, [Value.bool b])]) hr)) ?_)
         | (refine isD 25 ?_; refine WPl.rdX (ReadR.binE rfl rfl BinR.eql (congrArg Value.bool (decide_eq_false (show ¬ ((x.size.toNat : Nat) : Int) = 0 by omega)))) ?_)
         | (refine isD 34 ?_; refine WPl.rdX (ReadR.binE rfl rfl (BinR.mulI (by omega) (by omega)) (congrArg (Value.int .i64) (show _ = ((gaZ x : Nat) : Int) from by omega))) ?_)
         | (refine isC 35 ?_; refine WPl.cX (c35 _) fun v35 Γ1 hR => ?_; obtain ⟨vo, es, hvo, rfl, hes, rfl⟩ := hR; obtain ⟨hel, hlt, p, es', hp1, hp2, hperm⟩ := spl_pick hes hk1 x.at'.toNat; have hmo : ((x.at'.toNat : Nat) : Int) % ((es.length : Nat) : Int) = ((x.at'.toNat % es.length : Nat) : Int) := (Int.natCast_emod _ _).symm; (try dsimp only [putF, List.cons_append, List.nil_append]))
         | (refine isD 39 ?_; refine WPl.rdX (ReadR.binE rfl rfl BinR.neq hn0) ?_)
         | (refine isD 47 ?_; refine WPl.rdX (ReadR.binE rfl rfl (BinR.remK (by omega) (by omega)) (congrArg (Value.int .i64) hmo)) ?_)
         | (refine isD 48 ?_; refine WPl.rdX (ReadR.indexE1 (i := x.at'.toNat % es.length) rfl rfl hasA hlt) ?_)
         | (refine isD 49 ?_; refine WPl.rdX (ReadR.loadE rfl hasA hp1) ?_)
         | (refine isOp ?_; first | refine WPl.rd ?_ | refine WPl.sk ?_ | refine WPl.rdB ?_)
         | (refine isBx ?_; refine WPl.nw fun g => ?_)
         | (show WPl _ _ _ _ _ _ _ (⟨_, .indexAddr _ _ _, _, _, _, _⟩ :: _) _; refine WPl.rdX (ReadR.indexE rfl rfl hasA (by first | assumption | omega)) ?_)
         | (show WPl _ _ _ _ _ _ _ (⟨_, .fieldAddr _ _ _, _, _, _, _⟩ :: _) _; refine WPl.rdX (ReadR.fieldE rfl hasA (by first | assumption | omega)) ?_)
         | (show WPl _ _ _ _ _ _ _ (⟨_, .load _ _, _, _, _, _⟩ :: _) _; first | refine WPl.rdX (ReadR.loadE rfl hasA (by assumption)) ?_ | refine WPl.rdX (ReadR.loadES (by assumption) (by first | assumption | omega) rfl hasA) ?_)
         | (show WPl _ _ _ _ _ _ _ (⟨_, .slice _ _ _ _ _, _, _, _, _⟩ :: _) _; first | refine WPl.rdX (ReadR.sliceH rfl rfl hasA (by omega)) ?_ | refine WPl.rdX (ReadR.sliceL rfl rfl hasA (by omega)) ?_ | refine WPl.rdX (ReadR.sliceLH rfl rfl rfl hasA (by omega) (by omega)) ?_)
         | (refine WPl.spQ (fun hc => ?_) (fun hc => ?_) <;> try exact prA)
         | fail)
        refine WPq.gbagO (row := vrowV) vrowV_own hperm takesA ?_
        show WPq _ _ _ (gbag vrowV es' :: ob p.1 p.2 :: _) _ _ _
        rw [hp2]
        exact WPq.oneOb (List.Mem.tail _ (List.Mem.head _)) (fun hone => WPq.dR)
      · rw [if_neg he]
        have c35 := fun v => rsplNo_t v B 7 ((gaZ x : Nat) : Int) (by omega) he
        have hne : Value.bool (!decide (splE B = 0)) = .bool true := by rw [decide_eq_false he]; rfl
        refine Triple.enter Tryz.func11 rfl Tryz.ntmps11 rfl (fun W => ?_)
        dsimp only [argsF, Nat.reduceAdd]
        repeat' (first
         | refine WPl.nil ?_ | refine WPq.then ?_ | refine WPq.thenR ?_ | refine WPq.thenE ?_ | refine WPq.blockN ?_ | refine WPq.blockR ?_ | refine WPq.blockE ?_ | refine WPq.blockO rfl ?_ | refine WPc.seq ?_ | refine WPc.block ?_ | refine WPc.ret ?_ | refine WPc.exit ?_ | refine WPc.skip ?_ | refine WPc.region ?_
         | (refine isCond ?_; first | refine WPc.cT ?_ | refine WPc.cF ?_ | (refine WPc.cQ (fun hc => ?_) (fun hc => ?_) <;> try exact prA))
         | (refine isC 10 ?_; refine WPl.cR (c10) fun v hv => ?_)
         | (refine isC 20 ?_; refine WPl.cR2 ((c20 _)) fun v hv => ?_)
         | (refine isD 12 ?_; refine WPl.rdX (ReadR.loadS rfl memA (congrArg (fun b => some [(1, [Value.bool b])]) hr)) ?_)
         | (refine isD 25 ?_; refine WPl.rdX (ReadR.binE rfl rfl BinR.eql (congrArg Value.bool (decide_eq_false (show ¬ ((x.size.toNat : Nat) : Int) = 0 by omega)))) ?_)
         | (refine isD 34 ?_; refine WPl.rdX (ReadR.binE rfl rfl (BinR.mulI (by omega) (by omega)) (congrArg (Value.int .i64) (show _ = ((gaZ x : Nat) : Int) from by omega))) ?_)
         | (refine isC 35 ?_; refine WPl.cR2 ((c35 _)) fun v hv => ?_)
         | (refine isD 39 ?_; refine WPl.rdX (ReadR.binE rfl rfl BinR.neq hne) ?_)
         | (refine isOp ?_; first | refine WPl.rd ?_ | refine WPl.sk ?_ | refine WPl.rdB ?_)
         | (refine isBx ?_; refine WPl.nw fun g => ?_)
         | (show WPl _ _ _ _ _ _ _ (⟨_, .indexAddr _ _ _, _, _, _, _⟩ :: _) _; refine WPl.rdX (ReadR.indexE rfl rfl hasA (by first | assumption | omega)) ?_)
         | (show WPl _ _ _ _ _ _ _ (⟨_, .fieldAddr _ _ _, _, _, _, _⟩ :: _) _; refine WPl.rdX (ReadR.fieldE rfl hasA (by first | assumption | omega)) ?_)
         | (show WPl _ _ _ _ _ _ _ (⟨_, .load _ _, _, _, _, _⟩ :: _) _; first | refine WPl.rdX (ReadR.loadE rfl hasA (by assumption)) ?_ | refine WPl.rdX (ReadR.loadES (by assumption) (by first | assumption | omega) rfl hasA) ?_)
         | (show WPl _ _ _ _ _ _ _ (⟨_, .slice _ _ _ _ _, _, _, _, _⟩ :: _) _; first | refine WPl.rdX (ReadR.sliceH rfl rfl hasA (by omega)) ?_ | refine WPl.rdX (ReadR.sliceL rfl rfl hasA (by omega)) ?_ | refine WPl.rdX (ReadR.sliceLH rfl rfl rfl hasA (by omega) (by omega)) ?_)
         | (refine WPl.spQ (fun hc => ?_) (fun hc => ?_) <;> try exact prA)
         | fail)
        all_goals try (first | exact WPq.dTp | exact WPq.dTs | exact WPq.dV | exact WPq.dR | exact WPq.dR2 | exact WPq.dH | exact WPq.dBH | exact WPq.dT)

end Go.Proofs.YtpilenbdimhegaaGreatDoor
/- A packet that comes (law 42), opened. -/
namespace Go.Proofs.YtpilenbdimhegaaGreatDoor
open Go.ChangeShapes Go.WideShapes Go.ChangeAt Go.RowKit
set_option linter.unusedSimpArgs false
set_option linter.unusedVariables false
section
variable {H : Type} {enc : TypeId × Value → H} {P : Program} {W : World}
theorem FitsV.split {W : World} : ∀ {ks : List (Option IntKind)} {ks' : List KV} {vs : List Value}, FitsV W (ks.map KV.k ++ ks') vs → ∃ v1 v2, vs = v1 ++ v2 ∧ Fits ks v1 ∧ FitsV W ks' v2
  | [], ks', vs, h => ⟨[], vs, rfl, trivial, h⟩
  | none :: ks, ks', v :: vs, h => by
    obtain ⟨h1, h2⟩ := h
    obtain ⟨v1, v2, rfl, h3, h4⟩ := FitsV.split h2
    exact ⟨v :: v1, v2, rfl, ⟨h1, h3⟩, h4⟩
  | some k :: ks, ks', v :: vs, h => by
    obtain ⟨h1, h2⟩ := h
    obtain ⟨v1, v2, rfl, h3, h4⟩ := FitsV.split h2
    exact ⟨v :: v1, v2, rfl, ⟨h1, h3⟩, h4⟩
  | none :: ks, ks', [], h => h.elim
  | some k :: ks, ks', [], h => h.elim
theorem fitsY_bool {ks : List KV} : ∀ {vs : List Value}, FitsV W (.k none :: ks) vs → ∃ (b : Bool) (r : List Value), vs = .bool b :: r ∧ FitsV W ks r
  | v :: r, h => by obtain ⟨⟨b, hb⟩, h⟩ := h; exact ⟨b, r, by rw [hb], h⟩
theorem fitsY_u8 {ks : List KV} : ∀ {vs : List Value}, FitsV W (.k (some .u8) :: ks) vs → ∃ (b : UInt8) (r : List Value), (vs = .int .u8 ((b.toNat : Nat) : Int) :: r) ∧ FitsV W ks r
  | v :: r, h => by
    obtain ⟨⟨n, hn, hw⟩, h⟩ := h
    have hb := bounds_u8 hw
    exact ⟨UInt8.ofNat n.toNat, r, by rw [hn, u8_of, show ((n.toNat % 256 : Nat) : Int) = n by omega], h⟩
theorem fitsY_s {k : IntKind} {ks : List KV} : ∀ {vs : List Value}, FitsV W (.s k :: ks) vs → ∃ (v : Value) (r : List Value), vs = v :: r ∧ ∃ xs : List Int, (rdN v xs.length (xs.map (Value.int k))).holds W ∧ (∀ n ∈ xs, (Lit.int k n).wf = true) ∧ FitsV W ks r
  | v :: r, h => by
    obtain ⟨⟨xs, h1, h2⟩, h⟩ := h
    exact ⟨v, r, rfl, xs, h1, h2, h⟩
theorem fitsY_nil : ∀ {vs : List Value}, FitsV W [] vs → vs = []
  | [], _ => rfl
theorem readsY_one {v : Value} {n : Nat} {xs : List Value} {w : World} (h : (rdN v n xs).holds w) : v.oneCell' = true := by
  rcases h with ⟨rfl, _, _⟩ | ⟨_, _, rfl, _⟩ <;> rfl
theorem fitsY_fl {vs : List Value} (h : Fits (adKinds ++ (adKinds ++ [some .u16, some .u16, some .u8])) vs) : ∃ x : Fl, vs = flat (flc x) ∧ x.sp < 65536 ∧ x.dp < 65536 := by
  obtain ⟨v1, v2, rfl, g1, g2⟩ := Fits.split h
  obtain ⟨a, rfl⟩ := fits_adr g1
  obtain ⟨v3, v4, rfl, g3, g4⟩ := Fits.split g2
  obtain ⟨b, rfl⟩ := fits_adr g3
  obtain ⟨n1, r1, rfl, b1, k1⟩ := fits_uint rfl g4
  obtain ⟨n2, r2, rfl, b2, k2⟩ := fits_uint rfl k1
  obtain ⟨c, r3, rfl, k3⟩ := fits_u8n k2
  obtain rfl := fits_nil k3
  exact ⟨⟨a, b, n1, n2, c⟩, by simp [flat_eq], by simpa [IntKind.bits] using b1, by simpa [IntKind.bits] using b2⟩
abbrev gaKs : List KV := List.map KV.k (adKinds ++ (adKinds ++ [some IntKind.u16, some IntKind.u16, some IntKind.u8])) ++ [.k (some .u8), .s .u8, .k none, .k (some .u8), .k (some .u8), .k (some .u8)]
theorem fits_ga {es : List Value} (h : FitsV W gaKs es) : ∃ x : GA, es = flat (gaC x) ∧ x.f.sp < 65536 ∧ x.f.dp < 65536 ∧ x.v.oneCell' = true ∧ (rb x.v x.d).holds W := by
  obtain ⟨v1, v2, rfl, h1, h2⟩ := FitsV.split h
  obtain ⟨f, rfl, f1, f2⟩ := fitsY_fl h1
  obtain ⟨fg, r1, rfl, i1⟩ := fitsY_u8 h2
  obtain ⟨v, r2, rfl, xs, h3, h4, i2⟩ := fitsY_s i1
  obtain ⟨raw, r3, rfl, i3⟩ := fitsY_bool i2
  obtain ⟨sz, r4, rfl, i4⟩ := fitsY_u8 i3
  obtain ⟨a, r5, rfl, i5⟩ := fitsY_u8 i4
  obtain ⟨mo, r6, rfl, i6⟩ := fitsY_u8 i5
  obtain rfl := fitsY_nil i6
  have e : xs.map (Value.int .u8) = u8s (xs.map fun n => UInt8.ofNat n.toNat) := by
    unfold u8s
    rw [List.map_map]
    apply List.map_congr_left
    intro n hn
    have hb := bounds_u8 (h4 n hn)
    show Value.int .u8 n = Value.int .u8 (((UInt8.ofNat n.toNat).toNat : Nat) : Int)
    rw [u8_of, show ((n.toNat % 256 : Nat) : Int) = n by omega]
  refine ⟨⟨f, fg, v, xs.map fun n => UInt8.ofNat n.toNat, raw, sz, a, mo⟩, ?_, f1, f2, readsY_one h3, ?_⟩
  · simp [flat]
  · show (rdN v (xs.map fun n => UInt8.ofNat n.toNat).length (u8s (xs.map fun n => UInt8.ofNat n.toNat))).holds W
    rw [← e, List.length_map]
    exact h3
end
end Go.Proofs.YtpilenbdimhegaaGreatDoor
/- Prefixes of addresses, as they stand in cells. -/
namespace Go.Proofs.YtpilenbdimhegaaGreatDoor
open Go.RowKit
set_option linter.unusedSimpArgs false
set_option linter.unusedVariables false

abbrev Pf := Adr × Int
abbrev pfxc (p : Pf) : Ch := [(1, [.bool p.1.six]), (16, u8s p.1.b), (1, [.int .i64 p.2])]
def pfK : List (Option IntKind) := none :: (List.replicate 16 (some .u8) ++ [some .i64])
theorem pf_flat (p : Pf) : flat (pfxc p) = .bool p.1.six :: (u8s p.1.b ++ [.int .i64 p.2]) := by simp [pfxc, flat]
theorem pf_inj {a b : Pf} (h : flat (pfxc a) = flat (pfxc b)) : a = b := by
  rw [pf_flat, pf_flat] at h
  obtain ⟨h1, h2⟩ := List.cons.inj h
  have hl : (u8s a.1.b).length = (u8s b.1.b).length := by simp [u8s, a.1.len, b.1.len]
  obtain ⟨h3, h4⟩ := List.append_inj h2 hl
  have e1 : a.1 = b.1 := Adr.ext (by simpa using h1) (u8s_inj.1 h3)
  have e2 : a.2 = b.2 := by simpa using h4
  exact Prod.ext e1 e2
theorem pf_shp (p : Pf) : Shp pfK (flat (pfxc p)) := by
  rw [pf_flat]
  refine ⟨⟨_, rfl⟩, ?_⟩
  have := shp_u8s p.1.b
  rw [p.1.len] at this
  exact this.append ⟨⟨_, rfl⟩, trivial⟩
theorem pf_keyed {p : Pf} (hp : in64 p.2) : Shp pfK (flat (pfxc p)) ∧ ∀ v ∈ flat (pfxc p), inR v := ⟨pf_shp p, fun v hv => by
      rw [pf_flat, List.mem_cons, List.mem_append, List.mem_singleton] at hv
      rcases hv with rfl | hv | rfl
      · trivial
      · exact inR_u8 v hv
      · exact in64_wf hp⟩
end Go.Proofs.YtpilenbdimhegaaGreatDoor
/- Layer 33 (bucket): what it holds: clients in order, linked; plain facts. -/
namespace Go.Proofs.YtpilenbdimhegaaGreatDoor
open Go.RowKit
set_option linter.unusedSimpArgs false
set_option linter.unusedVariables false

def ptrO : Option Nat → Value
  | none => .pointer none
  | some g => .pointer (some ⟨g, 0, none⟩)
def prM : MK Pf (Option Nat) := ⟨fun p => ag (pfxc p), ptrO, none, fun p => in64 p.2⟩
instance prI : MapI Tryz.prog 129 prM :=
  mapI_of (kT := 56) (eT := 130) (ks := pfK) pfxc (fun _ => rfl) (by kernel_rfl) (have h : EqI Tryz.prog 56 _ := inferInstance; h) (by kernel_rfl) (by kernel_rfl) (by kernel_rfl) (by kernel_rfl) (of_decide_eq_true (by kernel_rfl)) (by kernel_rfl) (by kernel_rfl)
    (fun p hp => ⟨pf_shp p, fun v hv => by
      rw [pf_flat, List.mem_cons, List.mem_append, List.mem_singleton] at hv
      rcases hv with rfl | hv | rfl
      · trivial
      · exact inR_u8 v hv
      · exact in64_wf hp⟩) (by kernel_rfl) (fun a b h => pf_inj h)

/-- A client's tokens at a time. -/
structure Cl where
  p : Pf
  tok : Int
  at' : Int
abbrev Nd := Nat × Cl
abbrev clc (c : Cl) (y e : Option Nat) : Ch := [(1, [.bool c.p.1.six]), (16, u8s c.p.1.b), (1, [.int .i64 c.p.2]), (1, [.int .i64 c.tok]), (1, [.int .u64 c.at']), (1, [ptrO y]), (1, [ptrO e])]
def hdO (nx : Option Nat) : List Nd → Option Nat
  | [] => nx
  | c :: _ => some c.1
def lsO (pv : Option Nat) : List Nd → Option Nat
  | [] => pv
  | c :: r => lsO (some c.1) r
def lnk (f : Nat → Option Ch) : Option Nat → List Nd → Option Nat → Prop
  | _, [], _ => True
  | pv, c :: r, nx => f c.1 = some (clc c.2 pv (hdO nx r)) ∧ lnk f (some c.1) r nx
theorem hdO_append {nx : Option Nat} {A B : List Nd} : hdO nx (A ++ B) = hdO (hdO nx B) A := by cases A <;> rfl
theorem lsO_append {pv : Option Nat} {A B : List Nd} : lsO pv (A ++ B) = lsO (lsO pv A) B := by
  induction A generalizing pv with
  | nil => rfl
  | cons c A ih => exact ih
theorem lnk_append {f : Nat → Option Ch} {pv nx : Option Nat} {A B : List Nd} : lnk f pv (A ++ B) nx ↔ lnk f pv A (hdO nx B) ∧ lnk f (lsO pv A) B nx := by
  induction A generalizing pv with
  | nil => exact ⟨fun h => ⟨trivial, h⟩, fun h => h.2⟩
  | cons c A ih =>
    show (f c.1 = some (clc c.2 pv (hdO nx (A ++ B))) ∧ lnk f (some c.1) (A ++ B) nx) ↔ _
    rw [ih, hdO_append]
    exact ⟨fun ⟨h1, h2, h3⟩ => ⟨⟨h1, h2⟩, h3⟩, fun ⟨⟨h1, h2⟩, h3⟩ => ⟨h1, h2, h3⟩⟩
theorem lnk_frame {f f' : Nat → Option Ch} {pv nx : Option Nat} {A : List Nd} (h : ∀ c ∈ A, f' c.1 = f c.1) (k : lnk f pv A nx) : lnk f' pv A nx := by
  induction A generalizing pv with
  | nil => trivial
  | cons c A ih => exact ⟨by rw [h c (List.mem_cons_self ..)]; exact k.1, ih (fun d hd => h d (List.mem_cons_of_mem _ hd)) k.2⟩
theorem lnk_set {f : Nat → Option Ch} {pv nx : Option Nat} {A : List Nd} {g : Nat} {cs : Ch} (h : ∀ c ∈ A, c.1 ≠ g) (k : lnk f pv A nx) : lnk (fset f g cs) pv A nx := lnk_frame (fun c hc => fset_ne (h c hc)) k
theorem lnk_mem {f : Nat → Option Ch} {pv nx : Option Nat} {A : List Nd} {c : Nd} (hc : c ∈ A) (k : lnk f pv A nx) : ∃ y e, f c.1 = some (clc c.2 y e) := by
  induction A generalizing pv with
  | nil => cases hc
  | cons d A ih =>
    rcases List.mem_cons.1 hc with rfl | hc
    · exact ⟨_, _, k.1⟩
    · exact ih hc k.2
/-- The last one. -/
theorem snoc_of {A : List Nd} (h : A ≠ []) : ∃ A' a, A = A' ++ [a] := ⟨A.dropLast, A.getLast h, (List.dropLast_concat_getLast h).symm⟩
theorem lsO_snoc {pv : Option Nat} {A : List Nd} {a : Nd} : lsO pv (A ++ [a]) = some a.1 := by rw [lsO_append]; rfl

/-! ### What is told -/
def full (per burst : Int) (c : Cl) (now : Int) : Int := if now ≤ c.at' ∨ per = 0 then c.tok else min burst (c.tok + (now - c.at') * per)
def keptD (burst : Int) (clients : Nat) (D : List Cl) (p : Pf) (now : Int) : Cl × List Cl :=
  match D.find? (fun c => decide (c.p = p)) with
  | some c => (c, D.eraseP (fun c => decide (c.p = p)))
  | none => (⟨p, burst, now⟩, if clients ≤ D.length then D.dropLast else D)
def takeD (per burst : Int) (clients : Nat) (D : List Cl) (p : Pf) (n now : Int) : List Cl × Bool :=
  let k := keptD burst clients D p now
  let t := full per burst k.1 now
  (⟨k.1.p, if 0 ≤ n ∧ n ≤ t then t - n else t, max k.1.at' now⟩ :: k.2, decide (0 ≤ n ∧ n ≤ t))
def hasD (per burst : Int) (D : List Cl) (p : Pf) (now : Int) : Int :=
  match D.find? (fun c => decide (c.p = p)) with
  | some c => full per burst c now
  | none => burst
theorem full_le {per burst : Int} {c : Cl} {now : Int} (h1 : 0 ≤ c.tok) (h2 : c.tok ≤ burst) (hp : 0 ≤ per) : 0 ≤ full per burst c now ∧ full per burst c now ≤ burst := by
  unfold full
  split
  · exact ⟨h1, h2⟩
  · rename_i h
    have : 0 ≤ (now - c.at') * per := Int.mul_nonneg (by omega) hp
    omega
/-- What stands in the buckets. -/
structure BkI (burst : Int) (clients : Nat) (L : List Nd) (M : List (Pf × Option Nat)) (f : Nat → Option Ch) : Prop where
  nod : L.Pairwise (fun a b => a.1 ≠ b.1)
  lk : lnk f none L none
  key : ∀ p v, mfind M p = some v ↔ ∃ c ∈ L, c.2.p = p ∧ v = some c.1
  len : M.length = L.length
  keys : L.Pairwise (fun a b => a.2.p ≠ b.2.p)
  ok : ∀ c ∈ L, in64 c.2.p.2 ∧ 0 ≤ c.2.tok ∧ c.2.tok ≤ burst ∧ 0 ≤ c.2.at' ∧ c.2.at' < 18446744073709551616
  few : L.length ≤ clients
  mkn : (M.map (·.1)).Nodup
theorem ne_of_pw {L : List Nd} {A B : List Nd} {c : Nd} (h : L.Pairwise (fun a b => a.1 ≠ b.1)) (e : L = A ++ c :: B) : (∀ x ∈ A, x.1 ≠ c.1) ∧ (∀ x ∈ B, x.1 ≠ c.1) ∧ (A ++ B).Pairwise (fun a b => a.1 ≠ b.1) := by
  subst e
  obtain ⟨h1, h2, h3⟩ := List.pairwise_append.1 h
  rw [List.pairwise_cons] at h2
  exact ⟨fun x hx => h3 x hx c (List.mem_cons_self ..), fun x hx => (h2.1 x hx).symm, List.pairwise_append.2 ⟨h1, h2.2, fun x hx y hy => h3 x hx y (List.mem_cons_of_mem _ hy)⟩⟩
end Go.Proofs.YtpilenbdimhegaaGreatDoor
/- Layer 33 (bucket): the ring: contracts. -/
namespace Go.Proofs.YtpilenbdimhegaaGreatDoor
open Go.RowKit
set_option linter.unusedSimpArgs false
set_option linter.unusedVariables false
set_option maxRecDepth 20000
set_option maxHeartbeats 4000000
attribute [local irreducible] WPc WPl WPq ReadR OpT BinR HasS bx rdN rowN Take Takes Prov Triple ResF BuildP Done ag Int.decLt Int.decLe Int.instDecidableEq
attribute [local irreducible] pool fset lnk
abbrev hP' (g : Nat) : Value := .pointer (some ⟨g, 0, none⟩)
abbrev bkc (fi la : Option Nat) (per burst cl : Int) (m : Nat) : Ch := [(1, [ptrO fi]), (1, [ptrO la]), (1, [.int .i64 per]), (1, [.int .i64 burst]), (1, [.int .i64 cl]), (1, [.map (some m)])]
section
variable (gB m : Nat) (per burst cl : Int) (f : Nat → Option Ch)
theorem out00 (gc : Nat) (c : Cl) (fi la : Option Nat) (hc : f gc = some (clc c none none)) :
    Triple Tryz.prog 115 #[hP' gB, hP' gc] [(bx gB 134 (bkc fi la per burst cl m)), (pool 150 f)] (RTurns (resV []) [(bx gB 134 (bkc none none per burst cl m)), (pool 150 (fset (fset f gc (clc c none none)) gc (clc c none none)))]) := by
  have hc2 : fset f gc (clc c none none) gc = some (clc c none none) := fset_same
  refine Triple.enter Tryz.func115 rfl Tryz.ntmps115 rfl (fun W => ?_)
  dsimp only [argsF, Nat.reduceAdd]
  repeat' (first
   | refine WPl.nil ?_ | refine WPq.then ?_ | refine WPc.seq ?_ | refine WPc.region ?_
   | (refine isCond ?_; first | refine WPc.cT ?_ | refine WPc.cF ?_ | (refine WPc.cQ (fun hc => ?_) (fun hc => ?_) <;> try exact prA))
   | (refine isD 7 ?_; refine WPl.rdX (ReadR.loadP memA hc rfl rfl) ?_)
   | (refine isD 8 ?_; refine WPl.rdX (readP) ?_)
   | (refine isD 13 ?_; refine WPl.rdX (ReadR.loadP memA hc rfl rfl) ?_)
   | (refine isD 29 ?_; refine WPl.rdX (ReadR.loadP memA hc rfl rfl) ?_)
   | (refine isD 30 ?_; refine WPl.rdX (readP) ?_)
   | (refine isD 35 ?_; refine WPl.rdX (ReadR.loadP memA hc rfl rfl) ?_)
   | (show WPl _ _ _ _ _ _ _ (⟨_, .store _ (.tmp 51) _, _, _, _, _⟩ :: _) _; refine WPl.stP (hc) ?_)
   | (show WPl _ _ _ _ _ _ _ (⟨_, .store _ (.tmp 53) _, _, _, _, _⟩ :: _) _; refine WPl.stP (hc2) ?_)
   | (refine isOp ?_; first | refine WPl.rd ?_ | refine WPl.sk ?_ | refine WPl.rdB ?_)
   | (refine isSt ?_; first | refine WPl.st1 ?_ | refine WPl.stA ?_ | refine WPl.stEB ?_ | refine WPl.stRB ?_)
   | fail)
  all_goals (show WPq _ _ _ _ _ _ _; exact WPq.dTp)
theorem out01 (gc ge : Nat) (c e1 : Cl) (fi la ye ee : Option Nat) (hne : ge ≠ gc) (hc : f gc = some (clc c none (some ge))) (he : f ge = some (clc e1 ye ee)) :
    Triple Tryz.prog 115 #[hP' gB, hP' gc] [(bx gB 134 (bkc fi la per burst cl m)), (pool 150 f)] (RTurns (resV []) [(bx gB 134 (bkc (some ge) la per burst cl m)), (pool 150 (fset (fset (fset f ge (clc e1 none ee)) gc (clc c none (some ge))) gc (clc c none none)))]) := by
  have hc2 : fset f ge (clc e1 none ee) gc = some (clc c none (some ge)) := by rw [fset_ne (Ne.symm hne)]; exact hc
  have hc3 : fset (fset f ge (clc e1 none ee)) gc (clc c none (some ge)) gc = some (clc c none (some ge)) := fset_same
  refine Triple.enter Tryz.func115 rfl Tryz.ntmps115 rfl (fun W => ?_)
  dsimp only [argsF, Nat.reduceAdd]
  repeat' (first
   | refine WPl.nil ?_ | refine WPq.then ?_ | refine WPc.seq ?_ | refine WPc.region ?_
   | (refine isReg 5 ?_; refine WPc.drA [([11], [42, 43, 44, 45]), ([0, 11], [38, 42, 43, 44, 45]), ([0, 1, 11], [38, 39, 42, 43, 44, 45]), ([0, 1, 2, 11], [38, 39, 40, 42, 43, 44, 45]), ([11], [38, 39, 40, 41]), ([4, 11], [38, 39, 40, 41, 42]), ([4, 5, 11], [38, 39, 40, 41, 42, 43]), ([4, 5, 6, 11], [38, 39, 40, 41, 42, 43, 44]), ([0, 1, 2, 3, 4, 5, 6, 7, 11], [38, 39, 40, 41, 42, 43, 44, 45]), ([0, 1, 2, 3, 4, 5, 6, 7, 8, 11], [38, 39, 40, 41, 42, 43, 44, 45, 46]), ([0, 1, 2, 3, 4, 5, 6, 7, 8, 9, 11], [38, 39, 40, 41, 42, 43, 44, 45, 46, 47])] [(11, 10), (11, 0), (11, 1), (11, 2), (11, 3), (11, 4), (11, 5), (11, 6), (11, 7), (11, 8), (11, 9)] (Γx := [(pool 150 f)]) (hox := ownsP) ?_; dsimp only [prev0, List.length_nil, List.length_cons])
   | (refine gAny ?_; first | (show RGl _ _ _ _ _ _ _ _ (⟨_, .store _ (.tmp 47) _, _, _, _, _⟩ :: _) _ _; refine RGl.turn (fun e hk => by (try dsimp only [bndR, ensR, oksR, fcutR, List.append_nil, List.nil_append, List.cons_append, List.append_assoc] at hk ⊢); exact OpT.storeP1 rfl rfl takesA (he) (by first | rfl | exact ptrO_one | assumption) (by dsimp only [sel, takeCh, upd, dropCh, appCh, setAt, chAt, Option.map_some, List.cons_append, List.nil_append, Nat.reduceSub, Nat.reduceAdd] <;> exact rfl)) ?_) | (refine gD 41 ?_; refine RGl.rdX (fun e hk => by (try dsimp only [bndR, ensR, oksR, fcutR, List.append_nil, List.nil_append, List.cons_append, List.append_assoc] at hk ⊢); exact ReadR.loadP memA hc rfl rfl) ?_) | (refine gD 45 ?_; refine RGl.rdX (fun e hk => by (try dsimp only [bndR, ensR, oksR, fcutR, List.append_nil, List.nil_append, List.cons_append, List.append_assoc] at hk ⊢); exact ReadR.loadP memA hc rfl rfl) ?_) | (refine gOp ?_; first | refine RGl.rdA ?_ | refine RGl.rdX (fun e hk => by (try dsimp only [bndR, ensR, oksR, fcutR, List.append_nil, List.nil_append, List.cons_append, List.append_assoc] at hk ⊢); exact readB) ?_) | (refine RGl.fin (fun e hk => ?_); (try dsimp only [bndA, ensAR, oksA, List.append_nil, List.nil_append, List.cons_append, List.append_assoc] at hk ⊢); (repeat (obtain ⟨hk1, hk⟩ := hk))) | fail)
   | (refine isCond ?_; first | refine WPc.cT ?_ | refine WPc.cF ?_ | (refine WPc.cQ (fun hc => ?_) (fun hc => ?_) <;> try exact prA))
   | (refine isD 7 ?_; refine WPl.rdX (ReadR.loadP memA hc rfl rfl) ?_)
   | (refine isD 8 ?_; refine WPl.rdX (readP) ?_)
   | (refine isD 13 ?_; refine WPl.rdX (ReadR.loadP memA hc rfl rfl) ?_)
   | (refine isD 29 ?_; refine WPl.rdX (ReadR.loadP memA hc rfl rfl) ?_)
   | (refine isD 30 ?_; refine WPl.rdX (readP) ?_)
   | (show WPl _ _ _ _ _ _ _ (⟨_, .store _ (.tmp 51) _, _, _, _, _⟩ :: _) _; refine WPl.stP (hc2) ?_)
   | (show WPl _ _ _ _ _ _ _ (⟨_, .store _ (.tmp 53) _, _, _, _, _⟩ :: _) _; refine WPl.stP (hc3) ?_)
   | (refine isOp ?_; first | refine WPl.rd ?_ | refine WPl.sk ?_ | refine WPl.rdB ?_)
   | (refine isSt ?_; first | refine WPl.st1 ?_ | refine WPl.stA ?_ | refine WPl.stEB ?_ | refine WPl.stRB ?_)
   | fail)
  all_goals (show WPq _ _ _ _ _ _ _; exact WPq.dTp)
theorem out10 (gc gy : Nat) (c y1 : Cl) (fi la yy ey : Option Nat) (hne : gy ≠ gc) (hc : f gc = some (clc c (some gy) none)) (hy : f gy = some (clc y1 yy ey)) :
    Triple Tryz.prog 115 #[hP' gB, hP' gc] [(bx gB 134 (bkc fi la per burst cl m)), (pool 150 f)] (RTurns (resV []) [(bx gB 134 (bkc fi (some gy) per burst cl m)), (pool 150 (fset (fset (fset f gy (clc y1 yy none)) gc (clc c none none)) gc (clc c none none)))]) := by
  have hc2 : fset f gy (clc y1 yy none) gc = some (clc c (some gy) none) := by rw [fset_ne (Ne.symm hne)]; exact hc
  have hc3 : fset (fset f gy (clc y1 yy none)) gc (clc c none none) gc = some (clc c none none) := fset_same
  refine Triple.enter Tryz.func115 rfl Tryz.ntmps115 rfl (fun W => ?_)
  dsimp only [argsF, Nat.reduceAdd]
  repeat' (first
   | refine WPl.nil ?_ | refine WPq.then ?_ | refine WPc.seq ?_ | refine WPc.region ?_
   | (refine isReg 2 ?_; refine WPc.drA [([11], [20, 21, 22, 23]), ([0, 11], [16, 20, 21, 22, 23]), ([0, 1, 11], [16, 17, 20, 21, 22, 23]), ([0, 1, 2, 11], [16, 17, 18, 20, 21, 22, 23]), ([11], [16, 17, 18, 19]), ([4, 11], [16, 17, 18, 19, 20]), ([4, 5, 11], [16, 17, 18, 19, 20, 21]), ([4, 5, 6, 11], [16, 17, 18, 19, 20, 21, 22]), ([0, 1, 2, 3, 4, 5, 6, 7, 11], [16, 17, 18, 19, 20, 21, 22, 23]), ([0, 1, 2, 3, 4, 5, 6, 7, 8, 11], [16, 17, 18, 19, 20, 21, 22, 23, 24]), ([0, 1, 2, 3, 4, 5, 6, 7, 8, 9, 11], [16, 17, 18, 19, 20, 21, 22, 23, 24, 25])] [(11, 10), (11, 0), (11, 1), (11, 2), (11, 3), (11, 4), (11, 5), (11, 6), (11, 7), (11, 8), (11, 9)] (Γx := [(pool 150 f)]) (hox := ownsP) ?_; dsimp only [prev0, List.length_nil, List.length_cons])
   | (refine gAny ?_; first | (show RGl _ _ _ _ _ _ _ _ (⟨_, .store _ (.tmp 25) _, _, _, _, _⟩ :: _) _ _; refine RGl.turn (fun e hk => by (try dsimp only [bndR, ensR, oksR, fcutR, List.append_nil, List.nil_append, List.cons_append, List.append_assoc] at hk ⊢); exact OpT.storeP1 rfl rfl takesA (hy) (by first | rfl | exact ptrO_one | assumption) (by dsimp only [sel, takeCh, upd, dropCh, appCh, setAt, chAt, Option.map_some, List.cons_append, List.nil_append, Nat.reduceSub, Nat.reduceAdd] <;> exact rfl)) ?_) | (refine gD 19 ?_; refine RGl.rdX (fun e hk => by (try dsimp only [bndR, ensR, oksR, fcutR, List.append_nil, List.nil_append, List.cons_append, List.append_assoc] at hk ⊢); exact ReadR.loadP memA hc rfl rfl) ?_) | (refine gD 23 ?_; refine RGl.rdX (fun e hk => by (try dsimp only [bndR, ensR, oksR, fcutR, List.append_nil, List.nil_append, List.cons_append, List.append_assoc] at hk ⊢); exact ReadR.loadP memA hc rfl rfl) ?_) | (refine gOp ?_; first | refine RGl.rdA ?_ | refine RGl.rdX (fun e hk => by (try dsimp only [bndR, ensR, oksR, fcutR, List.append_nil, List.nil_append, List.cons_append, List.append_assoc] at hk ⊢); exact readB) ?_) | (refine RGl.fin (fun e hk => ?_); (try dsimp only [bndA, ensAR, oksA, List.append_nil, List.nil_append, List.cons_append, List.append_assoc] at hk ⊢); (repeat (obtain ⟨hk1, hk⟩ := hk))) | fail)
   | (refine isCond ?_; first | refine WPc.cT ?_ | refine WPc.cF ?_ | (refine WPc.cQ (fun hc => ?_) (fun hc => ?_) <;> try exact prA))
   | (refine isD 7 ?_; refine WPl.rdX (ReadR.loadP memA hc rfl rfl) ?_)
   | (refine isD 8 ?_; refine WPl.rdX (readP) ?_)
   | (refine isD 29 ?_; refine WPl.rdX (ReadR.loadP memA hc2 rfl rfl) ?_)
   | (refine isD 30 ?_; refine WPl.rdX (readP) ?_)
   | (refine isD 35 ?_; refine WPl.rdX (ReadR.loadP memA hc2 rfl rfl) ?_)
   | (show WPl _ _ _ _ _ _ _ (⟨_, .store _ (.tmp 51) _, _, _, _, _⟩ :: _) _; refine WPl.stP (hc2) ?_)
   | (show WPl _ _ _ _ _ _ _ (⟨_, .store _ (.tmp 53) _, _, _, _, _⟩ :: _) _; refine WPl.stP (hc3) ?_)
   | (refine isOp ?_; first | refine WPl.rd ?_ | refine WPl.sk ?_ | refine WPl.rdB ?_)
   | (refine isSt ?_; first | refine WPl.st1 ?_ | refine WPl.stA ?_ | refine WPl.stEB ?_ | refine WPl.stRB ?_)
   | fail)
  all_goals (show WPq _ _ _ _ _ _ _; exact WPq.dTp)
theorem out11 (gc gy ge : Nat) (c y1 e1 : Cl) (fi la yy ey ye ee : Option Nat) (hne : gy ≠ gc) (hne2 : ge ≠ gc) (hne3 : gy ≠ ge) (hc : f gc = some (clc c (some gy) (some ge))) (hy : f gy = some (clc y1 yy ey)) (he : f ge = some (clc e1 ye ee)) :
    Triple Tryz.prog 115 #[hP' gB, hP' gc] [(bx gB 134 (bkc fi la per burst cl m)), (pool 150 f)] (RTurns (resV []) [(bx gB 134 (bkc fi la per burst cl m)), (pool 150 (fset (fset (fset (fset f gy (clc y1 yy (some ge))) ge (clc e1 (some gy) ee)) gc (clc c none (some ge))) gc (clc c none none)))]) := by
  have hc2 : fset f gy (clc y1 yy (some ge)) gc = some (clc c (some gy) (some ge)) := by rw [fset_ne (Ne.symm hne)]; exact hc
  have he2 : fset f gy (clc y1 yy (some ge)) ge = some (clc e1 ye ee) := by rw [fset_ne (Ne.symm hne3)]; exact he
  have hc3 : fset (fset f gy (clc y1 yy (some ge))) ge (clc e1 (some gy) ee) gc = some (clc c (some gy) (some ge)) := by rw [fset_ne (Ne.symm hne2)]; exact hc2
  have hc4 : fset (fset (fset f gy (clc y1 yy (some ge))) ge (clc e1 (some gy) ee)) gc (clc c none (some ge)) gc = some (clc c none (some ge)) := fset_same
  refine Triple.enter Tryz.func115 rfl Tryz.ntmps115 rfl (fun W => ?_)
  dsimp only [argsF, Nat.reduceAdd]
  repeat' (first
   | refine WPl.nil ?_ | refine WPq.then ?_ | refine WPc.seq ?_ | refine WPc.region ?_
   | (refine isReg 2 ?_; refine WPc.drA [([11], [20, 21, 22, 23]), ([0, 11], [16, 20, 21, 22, 23]), ([0, 1, 11], [16, 17, 20, 21, 22, 23]), ([0, 1, 2, 11], [16, 17, 18, 20, 21, 22, 23]), ([11], [16, 17, 18, 19]), ([4, 11], [16, 17, 18, 19, 20]), ([4, 5, 11], [16, 17, 18, 19, 20, 21]), ([4, 5, 6, 11], [16, 17, 18, 19, 20, 21, 22]), ([0, 1, 2, 3, 4, 5, 6, 7, 11], [16, 17, 18, 19, 20, 21, 22, 23]), ([0, 1, 2, 3, 4, 5, 6, 7, 8, 11], [16, 17, 18, 19, 20, 21, 22, 23, 24]), ([0, 1, 2, 3, 4, 5, 6, 7, 8, 9, 11], [16, 17, 18, 19, 20, 21, 22, 23, 24, 25])] [(11, 10), (11, 0), (11, 1), (11, 2), (11, 3), (11, 4), (11, 5), (11, 6), (11, 7), (11, 8), (11, 9)] (Γx := [(pool 150 f)]) (hox := ownsP) ?_; dsimp only [prev0, List.length_nil, List.length_cons])
   | (refine isReg 5 ?_; refine WPc.drA [([11], [42, 43, 44, 45]), ([0, 11], [38, 42, 43, 44, 45]), ([0, 1, 11], [38, 39, 42, 43, 44, 45]), ([0, 1, 2, 11], [38, 39, 40, 42, 43, 44, 45]), ([11], [38, 39, 40, 41]), ([4, 11], [38, 39, 40, 41, 42]), ([4, 5, 11], [38, 39, 40, 41, 42, 43]), ([4, 5, 6, 11], [38, 39, 40, 41, 42, 43, 44]), ([0, 1, 2, 3, 4, 5, 6, 7, 11], [38, 39, 40, 41, 42, 43, 44, 45]), ([0, 1, 2, 3, 4, 5, 6, 7, 8, 11], [38, 39, 40, 41, 42, 43, 44, 45, 46]), ([0, 1, 2, 3, 4, 5, 6, 7, 8, 9, 11], [38, 39, 40, 41, 42, 43, 44, 45, 46, 47])] [(11, 10), (11, 0), (11, 1), (11, 2), (11, 3), (11, 4), (11, 5), (11, 6), (11, 7), (11, 8), (11, 9)] (Γx := [(pool 150 (fset f gy (clc y1 yy (some ge))))]) (hox := ownsP) ?_; dsimp only [prev0, List.length_nil, List.length_cons])
   | (refine gAny ?_; first | (show RGl _ _ _ _ _ _ _ _ (⟨_, .store _ (.tmp 25) _, _, _, _, _⟩ :: _) _ _; refine RGl.turn (fun e hk => by (try dsimp only [bndR, ensR, oksR, fcutR, List.append_nil, List.nil_append, List.cons_append, List.append_assoc] at hk ⊢); exact OpT.storeP1 rfl rfl takesA (hy) (by first | rfl | exact ptrO_one | assumption) (by dsimp only [sel, takeCh, upd, dropCh, appCh, setAt, chAt, Option.map_some, List.cons_append, List.nil_append, Nat.reduceSub, Nat.reduceAdd] <;> exact rfl)) ?_) | (show RGl _ _ _ _ _ _ _ _ (⟨_, .store _ (.tmp 47) _, _, _, _, _⟩ :: _) _ _; refine RGl.turn (fun e hk => by (try dsimp only [bndR, ensR, oksR, fcutR, List.append_nil, List.nil_append, List.cons_append, List.append_assoc] at hk ⊢); exact OpT.storeP1 rfl rfl takesA (he2) (by first | rfl | exact ptrO_one | assumption) (by dsimp only [sel, takeCh, upd, dropCh, appCh, setAt, chAt, Option.map_some, List.cons_append, List.nil_append, Nat.reduceSub, Nat.reduceAdd] <;> exact rfl)) ?_) | (refine gD 19 ?_; refine RGl.rdX (fun e hk => by (try dsimp only [bndR, ensR, oksR, fcutR, List.append_nil, List.nil_append, List.cons_append, List.append_assoc] at hk ⊢); exact ReadR.loadP memA hc rfl rfl) ?_) | (refine gD 23 ?_; refine RGl.rdX (fun e hk => by (try dsimp only [bndR, ensR, oksR, fcutR, List.append_nil, List.nil_append, List.cons_append, List.append_assoc] at hk ⊢); exact ReadR.loadP memA hc rfl rfl) ?_) | (refine gD 41 ?_; refine RGl.rdX (fun e hk => by (try dsimp only [bndR, ensR, oksR, fcutR, List.append_nil, List.nil_append, List.cons_append, List.append_assoc] at hk ⊢); exact ReadR.loadP memA hc2 rfl rfl) ?_) | (refine gD 45 ?_; refine RGl.rdX (fun e hk => by (try dsimp only [bndR, ensR, oksR, fcutR, List.append_nil, List.nil_append, List.cons_append, List.append_assoc] at hk ⊢); exact ReadR.loadP memA hc2 rfl rfl) ?_) | (refine gOp ?_; first | refine RGl.rdA ?_ | refine RGl.rdX (fun e hk => by (try dsimp only [bndR, ensR, oksR, fcutR, List.append_nil, List.nil_append, List.cons_append, List.append_assoc] at hk ⊢); exact readB) ?_) | (refine RGl.fin (fun e hk => ?_); (try dsimp only [bndA, ensAR, oksA, List.append_nil, List.nil_append, List.cons_append, List.append_assoc] at hk ⊢); (repeat (obtain ⟨hk1, hk⟩ := hk))) | fail)
   | (refine isCond ?_; first | refine WPc.cT ?_ | refine WPc.cF ?_ | (refine WPc.cQ (fun hc => ?_) (fun hc => ?_) <;> try exact prA))
   | (refine isD 7 ?_; refine WPl.rdX (ReadR.loadP memA hc rfl rfl) ?_)
   | (refine isD 8 ?_; refine WPl.rdX (readP) ?_)
   | (refine isD 29 ?_; refine WPl.rdX (ReadR.loadP memA hc2 rfl rfl) ?_)
   | (refine isD 30 ?_; refine WPl.rdX (readP) ?_)
   | (show WPl _ _ _ _ _ _ _ (⟨_, .store _ (.tmp 51) _, _, _, _, _⟩ :: _) _; refine WPl.stP (hc3) ?_)
   | (show WPl _ _ _ _ _ _ _ (⟨_, .store _ (.tmp 53) _, _, _, _, _⟩ :: _) _; refine WPl.stP (hc4) ?_)
   | (refine isOp ?_; first | refine WPl.rd ?_ | refine WPl.sk ?_ | refine WPl.rdB ?_)
   | fail)
  all_goals (show WPq _ _ _ _ _ _ _; exact WPq.dTp)
theorem ahead0 (gc : Nat) (c : Cl) (la : Option Nat) (hc : f gc = some (clc c none none)) :
    Triple Tryz.prog 116 #[hP' gB, hP' gc] [(bx gB 134 (bkc none la per burst cl m)), (pool 150 f)] (RTurns (resV []) [(bx gB 134 (bkc (some gc) (some gc) per burst cl m)), (pool 150 (fset f gc (clc c none none)))]) := by
  refine Triple.enter Tryz.func116 rfl Tryz.ntmps116 rfl (fun W => ?_)
  dsimp only [argsF, Nat.reduceAdd]
  repeat' (first
   | refine WPl.nil ?_ | refine WPq.then ?_ | refine WPc.seq ?_ | refine WPc.region ?_
   | (refine isCond ?_; first | refine WPc.cT ?_ | refine WPc.cF ?_ | (refine WPc.cQ (fun hc => ?_) (fun hc => ?_) <;> try exact prA))
   | (show WPl _ _ _ _ _ _ _ (⟨_, .store _ (.tmp 10) _, _, _, _, _⟩ :: _) _; refine WPl.stP (hc) ?_)
   | (refine isD 15 ?_; refine WPl.rdX (readP) ?_)
   | (refine isOp ?_; first | refine WPl.rd ?_ | refine WPl.sk ?_ | refine WPl.rdB ?_)
   | (refine isSt ?_; first | refine WPl.st1 ?_ | refine WPl.stA ?_ | refine WPl.stEB ?_ | refine WPl.stRB ?_)
   | fail)
  all_goals (show WPq _ _ _ _ _ _ _; exact WPq.dTp)
theorem ahead1 (gc g1 : Nat) (c c1 : Cl) (la y1 e1 : Option Nat) (hne : g1 ≠ gc) (hc : f gc = some (clc c none none)) (h1 : f g1 = some (clc c1 y1 e1)) :
    Triple Tryz.prog 116 #[hP' gB, hP' gc] [(bx gB 134 (bkc (some g1) la per burst cl m)), (pool 150 f)] (RTurns (resV []) [(bx gB 134 (bkc (some gc) la per burst cl m)), (pool 150 (fset (fset f gc (clc c none (some g1))) g1 (clc c1 (some gc) e1)))]) := by
  have h2 : fset f gc (clc c none (some g1)) g1 = some (clc c1 y1 e1) := by rw [fset_ne hne]; exact h1
  refine Triple.enter Tryz.func116 rfl Tryz.ntmps116 rfl (fun W => ?_)
  dsimp only [argsF, Nat.reduceAdd]
  repeat' (first
   | refine WPl.nil ?_ | refine WPq.then ?_ | refine WPc.seq ?_ | refine WPc.region ?_
   | (refine isCond ?_; first | refine WPc.cT ?_ | refine WPc.cF ?_ | (refine WPc.cQ (fun hc => ?_) (fun hc => ?_) <;> try exact prA))
   | (show WPl _ _ _ _ _ _ _ (⟨_, .store _ (.tmp 10) _, _, _, _, _⟩ :: _) _; refine WPl.stP (hc) ?_)
   | (refine isD 15 ?_; refine WPl.rdX (readP) ?_)
   | (show WPl _ _ _ _ _ _ _ (⟨_, .store _ (.tmp 26) _, _, _, _, _⟩ :: _) _; refine WPl.stP (h2) ?_)
   | (refine isOp ?_; first | refine WPl.rd ?_ | refine WPl.sk ?_ | refine WPl.rdB ?_)
   | (refine isSt ?_; first | refine WPl.st1 ?_ | refine WPl.stA ?_ | refine WPl.stEB ?_ | refine WPl.stRB ?_)
   | fail)
  all_goals (show WPq _ _ _ _ _ _ _; exact WPq.dTp)
end
end Go.Proofs.YtpilenbdimhegaaGreatDoor
/- Layer 33 (bucket): the ring as a list: contracts. -/
namespace Go.Proofs.YtpilenbdimhegaaGreatDoor
open Go.RowKit
set_option linter.unusedSimpArgs false
set_option linter.unusedVariables false
section
variable (gB m : Nat) (per burst cl : Int) (f : Nat → Option Ch)
theorem out_l (A B : List Nd) (c : Nd) (hl : lnk f none (A ++ c :: B) none) (hn : (A ++ c :: B).Pairwise (fun a b => a.1 ≠ b.1)) :
    ∃ f', Triple Tryz.prog 115 #[hP' gB, hP' c.1] [(bx gB 134 (bkc (hdO none (A ++ c :: B)) (lsO none (A ++ c :: B)) per burst cl m)), (pool 150 f)] (RTurns (resV []) [(bx gB 134 (bkc (hdO none (A ++ B)) (lsO none (A ++ B)) per burst cl m)), (pool 150 f')]) ∧ lnk f' none (A ++ B) none ∧ f' c.1 = some (clc c.2 none none) := by
  obtain ⟨n1, n2, n3⟩ := ne_of_pw hn rfl
  obtain ⟨l1, l2, l3⟩ := lnk_append.1 hl
  rcases Classical.em (A = []) with rfl | hA
  · cases B with
    | nil => exact ⟨_, out00 gB m per burst cl f c.1 c.2 _ _ l2, trivial, fset_same⟩
    | cons b B' =>
      obtain ⟨l4, l5⟩ := l3
      have hb : b.1 ≠ c.1 := n2 b (List.mem_cons_self ..)
      have hB : ∀ x ∈ B', x.1 ≠ b.1 := fun x hx => ((List.pairwise_cons.1 n3).1 x hx).symm
      have hC : ∀ x ∈ B', x.1 ≠ c.1 := fun x hx => n2 x (List.mem_cons_of_mem _ hx)
      refine ⟨_, out01 gB m per burst cl f c.1 b.1 c.2 b.2 _ _ _ _ hb l2 l4, ⟨?_, ?_⟩, fset_same⟩
      · rw [fset_ne hb, fset_ne hb, fset_same]
      · exact lnk_frame (fun x hx => by rw [fset_ne (hC x hx), fset_ne (hC x hx), fset_ne (hB x hx)]) l5
  · obtain ⟨A', a, rfl⟩ := snoc_of hA
    obtain ⟨l6, l7, _⟩ := lnk_append.1 l1
    rw [lsO_snoc] at l2
    have ha : a.1 ≠ c.1 := n1 a (by simp)
    have hAc : ∀ x ∈ A', x.1 ≠ c.1 := fun x hx => n1 x (List.mem_append_left _ hx)
    have hAa : ∀ x ∈ A', x.1 ≠ a.1 := fun x hx => (List.pairwise_append.1 (List.pairwise_append.1 n3).1).2.2 x hx a (List.mem_singleton.2 rfl)
    cases B with
    | nil =>
      have h := out10 gB m per burst cl f c.1 a.1 c.2 a.2 (hdO none (A' ++ [a] ++ [c])) (lsO none (A' ++ [a] ++ [c])) _ _ ha l2 l7
      rw [List.append_nil, show lsO none (A' ++ [a]) = some a.1 from lsO_snoc]
      have e : hdO none (A' ++ [a] ++ [c]) = hdO none (A' ++ [a]) := by cases A' <;> rfl
      refine ⟨_, by rw [e] at h; rw [e]; exact h, lnk_append.2 ⟨?_, ?_, trivial⟩, fset_same⟩
      · exact lnk_frame (fun x hx => by rw [fset_ne (hAc x hx), fset_ne (hAc x hx), fset_ne (hAa x hx)]) l6
      · rw [fset_ne ha, fset_ne ha, fset_same]; rfl
    | cons b B' =>
      obtain ⟨l4, l5⟩ := l3
      have hb : b.1 ≠ c.1 := n2 b (List.mem_cons_self ..)
      have hC : ∀ x ∈ B', x.1 ≠ c.1 := fun x hx => n2 x (List.mem_cons_of_mem _ hx)
      obtain ⟨m1, m2, m3⟩ := List.pairwise_append.1 n3
      have hab : a.1 ≠ b.1 := m3 a (by simp) b (List.mem_cons_self ..)
      have hBa : ∀ x ∈ B', x.1 ≠ a.1 := fun x hx => (m3 a (by simp) x (List.mem_cons_of_mem _ hx)).symm
      have hBb : ∀ x ∈ B', x.1 ≠ b.1 := fun x hx => ((List.pairwise_cons.1 m2).1 x hx).symm
      have hAb : ∀ x ∈ A', x.1 ≠ b.1 := fun x hx => m3 x (List.mem_append_left _ hx) b (List.mem_cons_self ..)
      have h := out11 gB m per burst cl f c.1 a.1 b.1 c.2 a.2 b.2 (hdO none (A' ++ [a] ++ c :: b :: B')) (lsO none (A' ++ [a] ++ c :: b :: B')) _ _ _ _ ha hb hab l2 l7 l4
      have e1 : hdO none (A' ++ [a] ++ c :: b :: B') = hdO none (A' ++ [a] ++ b :: B') := by cases A' <;> rfl
      have e2 : lsO none (A' ++ [a] ++ c :: b :: B') = lsO none (A' ++ [a] ++ b :: B') := by rw [lsO_append (A := A' ++ [a]), lsO_append (A := A' ++ [a])]; rfl
      refine ⟨_, by rw [e1, e2] at h; rw [e1, e2]; exact h, lnk_append.2 ⟨lnk_append.2 ⟨?_, ?_, trivial⟩, ?_, ?_⟩, fset_same⟩
      · exact lnk_frame (fun x hx => by rw [fset_ne (hAc x hx), fset_ne (hAc x hx), fset_ne (hAb x hx), fset_ne (hAa x hx)]) l6
      · rw [fset_ne ha, fset_ne ha, fset_ne hab, fset_same]; rfl
      · rw [lsO_snoc, fset_ne hb, fset_ne hb, fset_same]
      · exact lnk_frame (fun x hx => by rw [fset_ne (hC x hx), fset_ne (hC x hx), fset_ne (hBb x hx), fset_ne (hBa x hx)]) l5
theorem ahead_l (L : List Nd) (c : Nd) (hl : lnk f none L none) (hc : f c.1 = some (clc c.2 none none)) (hn : ∀ x ∈ L, x.1 ≠ c.1) (hp : L.Pairwise (fun a b => a.1 ≠ b.1)) :
    ∃ f', Triple Tryz.prog 116 #[hP' gB, hP' c.1] [(bx gB 134 (bkc (hdO none L) (lsO none L) per burst cl m)), (pool 150 f)] (RTurns (resV []) [(bx gB 134 (bkc (some c.1) (lsO none (c :: L)) per burst cl m)), (pool 150 f')]) ∧ lnk f' none (c :: L) none := by
  cases L with
  | nil => exact ⟨_, ahead0 gB m per burst cl f c.1 c.2 _ hc, fset_same, trivial⟩
  | cons d L' =>
    obtain ⟨l1, l2⟩ := hl
    have hd : d.1 ≠ c.1 := hn d (List.mem_cons_self ..)
    refine ⟨_, ahead1 gB m per burst cl f c.1 d.1 c.2 d.2 _ _ _ hd hc l1, ?_, fset_same, ?_⟩
    · rw [fset_ne (Ne.symm hd), fset_same]; rfl
    · exact lnk_frame (fun x hx => by rw [fset_ne ((List.pairwise_cons.1 hp).1 x hx).symm, fset_ne (hn x (List.mem_cons_of_mem _ hx))]) l2
end
end Go.Proofs.YtpilenbdimhegaaGreatDoor
/- Layer 33 (bucket): tokens at a time: contract. -/
namespace Go.Proofs.YtpilenbdimhegaaGreatDoor
open Go.RowKit
set_option linter.unusedSimpArgs false
set_option linter.unusedVariables false
set_option maxRecDepth 20000
set_option maxHeartbeats 4000000
attribute [local irreducible] WPc WPl WPq ReadR OpT BinR HasS bx rdN rowN Take Takes Prov Triple ResF BuildP Done ag Int.decLt Int.decLe Int.instDecidableEq
attribute [local irreducible] pool fset lnk
section
variable (gB m : Nat) (per burst cl : Int) (f : Nat → Option Ch)
theorem bhas_t (gc : Nat) (c : Cl) (fi la y e0 : Option Nat) (now : Int) (hc : f gc = some (clc c y e0)) (p1 : 0 ≤ per) (p2 : per ≤ 1048576) (b2 : burst ≤ 1073741824) (t1 : 0 ≤ c.tok) (t2 : c.tok ≤ burst) (a1 : 0 ≤ c.at') (a2 : c.at' < 18446744073709551616) (n1 : 0 ≤ now) (n2 : now < 18446744073709551616) :
    Triple Tryz.prog 69 #[hP' gB, hP' gc, .int .u64 now] [(bx gB 134 (bkc fi la per burst cl m)), (pool 150 f)] (RTurns (.int .i64 (full per burst c now)) [(bx gB 134 (bkc fi la per burst cl m)), (pool 150 f)]) := by
  by_cases h1 : now ≤ c.at'
  · rw [show full per burst c now = c.tok by unfold full; rw [if_pos (.inl h1)]]
    refine Triple.enter Tryz.func69 rfl Tryz.ntmps69 rfl (fun W => ?_)
    dsimp only [argsF, Nat.reduceAdd]
    repeat' (first
     | refine WPl.nil ?_ | refine WPq.then ?_ | refine WPq.thenR ?_ | refine WPc.seq ?_ | refine WPc.ret ?_ | refine WPc.region ?_
     | (refine isCond ?_; first | refine WPc.cT ?_ | refine WPc.cF ?_ | (refine WPc.cQ (fun hc => ?_) (fun hc => ?_) <;> try exact prA))
     | (refine isD 13 ?_; refine WPl.rdX (ReadR.loadP memA hc rfl rfl) ?_)
     | (refine isD 14 ?_; refine WPl.rdX (ReadR.binE rfl rfl BinR.leq (congrArg Value.bool (decide_eq_true h1))) ?_)
     | (refine isD 18 ?_; refine WPl.rdX (ReadR.loadP memA hc rfl rfl) ?_)
     | (refine isOp ?_; first | refine WPl.rd ?_ | refine WPl.sk ?_ | refine WPl.rdB ?_)
     | fail)
    all_goals (show WPq _ _ _ _ _ _ _; exact WPq.dTp)
  · by_cases h0 : per = 0
    · rw [show full per burst c now = c.tok by unfold full; rw [if_pos (.inr h0)]]
      have hp : ¬ per > 0 := by omega
      refine Triple.enter Tryz.func69 rfl Tryz.ntmps69 rfl (fun W => ?_)
      dsimp only [argsF, Nat.reduceAdd]
      repeat' (first
       | refine WPl.nil ?_ | refine WPq.then ?_ | refine WPq.thenR ?_ | refine WPc.seq ?_ | refine WPc.ret ?_ | refine WPc.skip ?_ | refine WPc.region ?_
       | (refine isReg 3 ?_; refine WPc.drA [([], [24, 25, 26, 27]), ([0], [19, 24, 25, 26, 27]), ([0, 1], [19, 20, 24, 25, 26, 27]), ([0, 1, 2], [19, 20, 21, 24, 25, 26, 27]), ([0, 1, 2, 3], [19, 20, 21, 22, 24, 25, 26, 27]), ([], [19, 20, 21, 22, 23]), ([5], [19, 20, 21, 22, 23, 24]), ([5, 6], [19, 20, 21, 22, 23, 24, 25]), ([5, 6, 7], [19, 20, 21, 22, 23, 24, 25, 26]), ([0, 1, 2, 3, 4, 5, 6, 7, 8], [19, 20, 21, 22, 23, 24, 25, 26, 27]), ([0, 1, 2, 3, 4, 5, 6, 7, 8, 9], [19, 20, 21, 22, 23, 24, 25, 26, 27, 28]), ([0, 1, 2, 3, 4, 5, 6, 7, 8, 9, 10], [19, 20, 21, 22, 23, 24, 25, 26, 27, 28, 29])] [] (Γx := []) ?_; dsimp only [prev0, List.length_nil, List.length_cons])
       | (refine gAny ?_; first | (refine gD 27 ?_; refine RGl.rdX (fun e hk => by (try dsimp only [bndR, ensR, oksR, fcutR, List.append_nil, List.nil_append, List.cons_append, List.append_assoc] at hk ⊢); exact ReadR.loadP memA hc rfl rfl) ?_) | (refine gOp ?_; first | refine RGl.rdA ?_ | refine RGl.rdX (fun e hk => by (try dsimp only [bndR, ensR, oksR, fcutR, List.append_nil, List.nil_append, List.cons_append, List.append_assoc] at hk ⊢); exact readB) ?_) | (refine RGl.fin (fun e hk => ?_); (try dsimp only [bndA, ensAR, oksA, List.append_nil, List.nil_append, List.cons_append, List.append_assoc] at hk ⊢); (repeat (obtain ⟨hk1, hk⟩ := hk))) | fail)
       | (refine isCond ?_; first | refine WPc.cT ?_ | refine WPc.cF ?_ | (refine WPc.cQ (fun hc => ?_) (fun hc => ?_) <;> try exact prA))
       | (refine isD 13 ?_; refine WPl.rdX (ReadR.loadP memA hc rfl rfl) ?_)
       | (refine isD 14 ?_; refine WPl.rdX (ReadR.binE rfl rfl BinR.leq (congrArg Value.bool (decide_eq_false h1))) ?_)
       | (refine isD 34 ?_; refine WPl.rdX (ReadR.loadP memA hc rfl rfl) ?_)
       | (refine isD 41 ?_; refine WPl.rdX (ReadR.binE rfl rfl BinR.gtr (congrArg Value.bool (decide_eq_false hp))) ?_)
       | (refine isD 76 ?_; refine WPl.rdX (ReadR.binE rfl rfl BinR.eql (congrArg Value.bool (decide_eq_true h0))) ?_)
       | (refine isD 80 ?_; refine WPl.rdX (ReadR.loadP memA hc rfl rfl) ?_)
       | (refine isOp ?_; first | refine WPl.rd ?_ | refine WPl.sk ?_ | refine WPl.rdB ?_)
       | fail)
      all_goals (show WPq _ _ _ _ _ _ _; exact WPq.dTp)
    · have hp : per > 0 := by omega
      have hle : (now - c.at') ≤ (burst - c.tok) / per ↔ (now - c.at') * per ≤ burst - c.tok := Int.le_ediv_iff_mul_le hp
      have hq1 : 0 ≤ (burst - c.tok) / per := Int.ediv_nonneg (by omega) (by omega)
      have hq2 : (burst - c.tok) / per ≤ burst - c.tok := Int.ediv_le_self _ (by omega)
      have hm0 : 0 ≤ (now - c.at') * per := Int.mul_nonneg (by omega) (by omega)
      by_cases h2 : now - c.at' < (burst - c.tok) / per + 1
      · have h3 : (now - c.at') * per ≤ burst - c.tok := hle.1 (by omega)
        rw [show full per burst c now = c.tok + (now - c.at') * per by unfold full; rw [if_neg (by omega)]; omega]
        refine Triple.enter Tryz.func69 rfl Tryz.ntmps69 rfl (fun W => ?_)
        dsimp only [argsF, Nat.reduceAdd]
        repeat' (first
         | refine WPl.nil ?_ | refine WPq.then ?_ | refine WPq.thenR ?_ | refine WPc.seq ?_ | refine WPc.ret ?_ | refine WPc.skip ?_ | refine WPc.region ?_
         | (refine isReg 3 ?_; refine WPc.drA [([], [24, 25, 26, 27]), ([0], [19, 24, 25, 26, 27]), ([0, 1], [19, 20, 24, 25, 26, 27]), ([0, 1, 2], [19, 20, 21, 24, 25, 26, 27]), ([0, 1, 2, 3], [19, 20, 21, 22, 24, 25, 26, 27]), ([], [19, 20, 21, 22, 23]), ([5], [19, 20, 21, 22, 23, 24]), ([5, 6], [19, 20, 21, 22, 23, 24, 25]), ([5, 6, 7], [19, 20, 21, 22, 23, 24, 25, 26]), ([0, 1, 2, 3, 4, 5, 6, 7, 8], [19, 20, 21, 22, 23, 24, 25, 26, 27]), ([0, 1, 2, 3, 4, 5, 6, 7, 8, 9], [19, 20, 21, 22, 23, 24, 25, 26, 27, 28]), ([0, 1, 2, 3, 4, 5, 6, 7, 8, 9, 10], [19, 20, 21, 22, 23, 24, 25, 26, 27, 28, 29])] [] (Γx := []) ?_; dsimp only [prev0, List.length_nil, List.length_cons])
         | (refine isReg 6 ?_; refine WPc.drA [([], [59, 60, 61, 62, 63, 64, 65, 66, 67, 68, 69]), ([0], [55, 59, 60, 61, 62, 63, 64, 65, 66, 67, 68, 69]), ([0, 1], [55, 56, 59, 60, 61, 62, 63, 64, 65, 66, 67, 68, 69]), ([0, 1, 2], [55, 56, 57, 59, 60, 61, 62, 63, 64, 65, 66, 67, 68, 69]), ([], [55, 56, 57, 58, 61, 62, 63, 64, 65, 67, 68]), ([4], [55, 56, 57, 58, 59, 61, 62, 63, 64, 65, 67, 68]), ([], [55, 56, 57, 58, 59, 60, 67, 68]), ([6], [55, 56, 57, 58, 59, 60, 61, 67, 68]), ([6, 7], [55, 56, 57, 58, 59, 60, 61, 62, 67, 68]), ([6, 7, 8], [55, 56, 57, 58, 59, 60, 61, 62, 63, 67, 68]), ([6, 7, 8, 9], [55, 56, 57, 58, 59, 60, 61, 62, 63, 64, 67, 68]), ([4, 5, 6, 7, 8, 9, 10], [55, 56, 57, 58, 59, 60, 61, 62, 63, 64, 65, 67, 68]), ([], [55, 56, 57, 58, 59, 60, 61, 62, 63, 64, 65, 66]), ([12], [55, 56, 57, 58, 59, 60, 61, 62, 63, 64, 65, 66, 67]), ([4, 5, 6, 7, 8, 9, 10, 11, 12, 13], [55, 56, 57, 58, 59, 60, 61, 62, 63, 64, 65, 66, 67, 68]), ([0, 1, 2, 3, 4, 5, 6, 7, 8, 9, 10, 11, 12, 13, 14], [55, 56, 57, 58, 59, 60, 61, 62, 63, 64, 65, 66, 67, 68, 69]), ([0, 1, 2, 3, 4, 5, 6, 7, 8, 9, 10, 11, 12, 13, 14, 15], [55, 56, 57, 58, 59, 60, 61, 62, 63, 64, 65, 66, 67, 68, 69, 70])] [] (Γx := []) ?_; dsimp only [prev0, List.length_nil, List.length_cons])
         | (refine gAny ?_; first | (refine gD 27 ?_; refine RGl.rdX (fun e hk => by (try dsimp only [bndR, ensR, oksR, fcutR, List.append_nil, List.nil_append, List.cons_append, List.append_assoc] at hk ⊢); exact ReadR.loadP memA hc rfl rfl) ?_) | (refine gD 58 ?_; refine RGl.rdX (fun e hk => by (try dsimp only [bndR, ensR, oksR, fcutR, List.append_nil, List.nil_append, List.cons_append, List.append_assoc] at hk ⊢); exact ReadR.loadP memA hc rfl rfl) ?_) | (refine gD 69 ?_; refine RGl.rdX (fun e hk => by (try dsimp only [bndR, ensR, oksR, fcutR, List.append_nil, List.nil_append, List.cons_append, List.append_assoc] at hk ⊢); exact ReadR.minT (c := (now - c.at') * per) (by split <;> omega) rfl rfl) ?_) | (refine gOp ?_; first | refine RGl.rdA ?_ | refine RGl.rdX (fun e hk => by (try dsimp only [bndR, ensR, oksR, fcutR, List.append_nil, List.nil_append, List.cons_append, List.append_assoc] at hk ⊢); exact readB) ?_) | (refine RGl.fin (fun e hk => ?_); (try dsimp only [bndA, ensAR, oksA, List.append_nil, List.nil_append, List.cons_append, List.append_assoc] at hk ⊢); (repeat (obtain ⟨hk1, hk⟩ := hk))) | fail)
         | (refine isCond ?_; first | refine WPc.cT ?_ | refine WPc.cF ?_ | (refine WPc.cQ (fun hc => ?_) (fun hc => ?_) <;> try exact prA))
         | (refine isD 13 ?_; refine WPl.rdX (ReadR.loadP memA hc rfl rfl) ?_)
         | (refine isD 14 ?_; refine WPl.rdX (ReadR.binE rfl rfl BinR.leq (congrArg Value.bool (decide_eq_false h1))) ?_)
         | (refine isD 34 ?_; refine WPl.rdX (ReadR.loadP memA hc rfl rfl) ?_)
         | (refine isD 41 ?_; refine WPl.rdX (ReadR.binE rfl rfl BinR.gtr (congrArg Value.bool (decide_eq_true hp))) ?_)
         | (refine isD 53 ?_; refine WPl.rdX (ReadR.binE rfl rfl BinR.lss (congrArg Value.bool (decide_eq_true h2))) ?_)
         | (refine isOp ?_; first | refine WPl.rd ?_ | refine WPl.sk ?_ | refine WPl.rdB ?_)
         | fail)
        all_goals (show WPq _ _ _ _ _ _ _; exact WPq.dTp)
      · have h3 : ¬ (now - c.at') * per ≤ burst - c.tok := fun h => h2 (by have := hle.2 h; omega)
        rw [show full per burst c now = burst by unfold full; rw [if_neg (by omega)]; omega]
        refine Triple.enter Tryz.func69 rfl Tryz.ntmps69 rfl (fun W => ?_)
        dsimp only [argsF, Nat.reduceAdd]
        repeat' (first
         | refine WPl.nil ?_ | refine WPq.then ?_ | refine WPc.seq ?_ | refine WPc.ret ?_ | refine WPc.skip ?_ | refine WPc.region ?_
         | (refine isReg 3 ?_; refine WPc.drA [([], [24, 25, 26, 27]), ([0], [19, 24, 25, 26, 27]), ([0, 1], [19, 20, 24, 25, 26, 27]), ([0, 1, 2], [19, 20, 21, 24, 25, 26, 27]), ([0, 1, 2, 3], [19, 20, 21, 22, 24, 25, 26, 27]), ([], [19, 20, 21, 22, 23]), ([5], [19, 20, 21, 22, 23, 24]), ([5, 6], [19, 20, 21, 22, 23, 24, 25]), ([5, 6, 7], [19, 20, 21, 22, 23, 24, 25, 26]), ([0, 1, 2, 3, 4, 5, 6, 7, 8], [19, 20, 21, 22, 23, 24, 25, 26, 27]), ([0, 1, 2, 3, 4, 5, 6, 7, 8, 9], [19, 20, 21, 22, 23, 24, 25, 26, 27, 28]), ([0, 1, 2, 3, 4, 5, 6, 7, 8, 9, 10], [19, 20, 21, 22, 23, 24, 25, 26, 27, 28, 29])] [] (Γx := []) ?_; dsimp only [prev0, List.length_nil, List.length_cons])
         | (refine gAny ?_; first | (refine gD 27 ?_; refine RGl.rdX (fun e hk => by (try dsimp only [bndR, ensR, oksR, fcutR, List.append_nil, List.nil_append, List.cons_append, List.append_assoc] at hk ⊢); exact ReadR.loadP memA hc rfl rfl) ?_) | (refine gOp ?_; first | refine RGl.rdA ?_ | refine RGl.rdX (fun e hk => by (try dsimp only [bndR, ensR, oksR, fcutR, List.append_nil, List.nil_append, List.cons_append, List.append_assoc] at hk ⊢); exact readB) ?_) | (refine RGl.fin (fun e hk => ?_); (try dsimp only [bndA, ensAR, oksA, List.append_nil, List.nil_append, List.cons_append, List.append_assoc] at hk ⊢); (repeat (obtain ⟨hk1, hk⟩ := hk))) | fail)
         | (refine isCond ?_; first | refine WPc.cT ?_ | refine WPc.cF ?_ | (refine WPc.cQ (fun hc => ?_) (fun hc => ?_) <;> try exact prA))
         | (refine isD 13 ?_; refine WPl.rdX (ReadR.loadP memA hc rfl rfl) ?_)
         | (refine isD 14 ?_; refine WPl.rdX (ReadR.binE rfl rfl BinR.leq (congrArg Value.bool (decide_eq_false h1))) ?_)
         | (refine isD 34 ?_; refine WPl.rdX (ReadR.loadP memA hc rfl rfl) ?_)
         | (refine isD 41 ?_; refine WPl.rdX (ReadR.binE rfl rfl BinR.gtr (congrArg Value.bool (decide_eq_true hp))) ?_)
         | (refine isD 53 ?_; refine WPl.rdX (ReadR.binE rfl rfl BinR.lss (congrArg Value.bool (decide_eq_false h2))) ?_)
         | (refine isD 76 ?_; refine WPl.rdX (ReadR.binE rfl rfl BinR.eql (congrArg Value.bool (decide_eq_false h0))) ?_)
         | (refine isOp ?_; first | refine WPl.rd ?_ | refine WPl.sk ?_ | refine WPl.rdB ?_)
         | fail)
        all_goals (show WPq _ _ _ _ _ _ _; exact WPq.dTp)
end
end Go.Proofs.YtpilenbdimhegaaGreatDoor
/- Layer 33 (bucket): a client is kept: contract. -/
namespace Go.Proofs.YtpilenbdimhegaaGreatDoor
open Go.RowKit
set_option linter.unusedSimpArgs false
set_option linter.unusedVariables false
set_option maxRecDepth 20000
set_option maxHeartbeats 4000000
attribute [local irreducible] WPc WPl WPq ReadR OpT BinR HasS bx rdN rowN Take Takes Prov Triple ResF BuildP Done ag Int.decLt Int.decLe Int.instDecidableEq
section
variable {burst : Int} {clients : Nat} {L L' : List Nd} {M : List (Pf × Option Nat)} {f f' : Nat → Option Ch}
theorem BkI.perm (h : BkI burst clients L M f) (hp : L.Perm L') (hl : lnk f' none L' none) : BkI burst clients L' M f' :=
  ⟨hp.pairwise h.nod (fun h => h.symm), hl, fun p v => by rw [h.key]; simp only [hp.mem_iff], by rw [h.len, hp.length_eq], hp.pairwise h.keys (fun h => h.symm), fun c hc => h.ok c (hp.mem_iff.2 hc), by rw [← hp.length_eq]; exact h.few, h.mkn⟩
theorem BkI.none' (h : BkI burst clients L M f) {p : Pf} (hno : ∀ c ∈ L, c.2.p ≠ p) : mfind M p = none := by
  cases hm : mfind M p with
  | none => rfl
  | some v =>
    obtain ⟨c, hc, hp, _⟩ := (h.key p v).1 hm
    exact absurd hp (hno c hc)
theorem BkI.new (h : BkI burst clients L M f) {c : Nd} (hno : ∀ x ∈ L, x.2.p ≠ c.2.p) (hg : ∀ x ∈ L, x.1 ≠ c.1) (hf : L.length < clients) (hl : lnk f' none (c :: L) none) (hok : in64 c.2.p.2 ∧ 0 ≤ c.2.tok ∧ c.2.tok ≤ burst ∧ 0 ≤ c.2.at' ∧ c.2.at' < 18446744073709551616) :
    BkI burst clients (c :: L) (mput M c.2.p (some c.1)) f' := by
  have hn := h.none' hno
  refine ⟨List.pairwise_cons.2 ⟨fun x hx => (hg x hx).symm, h.nod⟩, hl, fun p v => ?_, ?_, List.pairwise_cons.2 ⟨fun x hx => (hno x hx).symm, h.keys⟩, fun x hx => ?_, hf, mput_keys h.mkn⟩
  · rw [mfind_put]
    by_cases hp : c.2.p = p
    · rw [if_pos hp]
      constructor
      · intro e; cases e; exact ⟨c, List.mem_cons_self .., hp, rfl⟩
      · rintro ⟨x, hx, h1, h2⟩
        rcases List.mem_cons.1 hx with rfl | hx
        · rw [h2]
        · exact absurd (h1.trans hp.symm) (hno x hx)
    · rw [if_neg hp, h.key]
      constructor
      · rintro ⟨x, hx, h1⟩; exact ⟨x, List.mem_cons_of_mem _ hx, h1⟩
      · rintro ⟨x, hx, h1, h2⟩
        rcases List.mem_cons.1 hx with rfl | hx
        · exact absurd h1 hp
        · exact ⟨x, hx, h1, h2⟩
  · rw [mput_len, show mhas M c.2.p = false by unfold mhas; rw [hn]; rfl]
    simp [h.len]
  · rcases List.mem_cons.1 hx with rfl | hx
    · exact hok
    · exact h.ok x hx
theorem BkI.drop {A : List Nd} {e : Nd} (h : BkI burst clients (A ++ [e]) M f) (hl : lnk f' none A none) : BkI burst clients A (mdel M e.2.p) f' := by
  obtain ⟨n1, _, _⟩ := List.pairwise_append.1 h.nod
  obtain ⟨k1, _, k3⟩ := List.pairwise_append.1 h.keys
  refine ⟨n1, hl, fun p v => ?_, ?_, k1, fun c hc => h.ok c (List.mem_append_left _ hc), ?_, mdel_keys h.mkn⟩
  · rw [mfind_del h.mkn]
    by_cases hp : e.2.p = p
    · rw [if_pos hp]
      refine ⟨(fun h => by cases h), ?_⟩
      rintro ⟨x, hx, h1, h2⟩
      exact absurd (h1.trans hp.symm) (k3 x hx e (List.mem_singleton.2 rfl))
    · rw [if_neg hp, h.key]
      constructor
      · rintro ⟨x, hx, h1, h2⟩
        rcases List.mem_append.1 hx with hx | hx
        · exact ⟨x, hx, h1, h2⟩
        · rw [List.mem_singleton.1 hx] at h1; exact absurd h1 hp
      · rintro ⟨x, hx, h1⟩; exact ⟨x, List.mem_append_left _ hx, h1⟩
  · have := h.len
    have h2 : mfind M e.2.p = some (some e.1) := (h.key _ _).2 ⟨e, by simp, rfl, rfl⟩
    rw [mdel_len, show mhas M e.2.p = true by unfold mhas; rw [h2]; rfl]
    simp at this ⊢
    omega
  · have := h.few; simp at this; omega
theorem keptD_found {A B : List Nd} {c : Nd} {p : Pf} {now : Int} (hc : c.2.p = p) (hA : ∀ x ∈ A, x.2.p ≠ p) : keptD burst clients ((A ++ c :: B).map (·.2)) p now = (c.2, (A ++ B).map (·.2)) := by
  unfold keptD
  have h1 : ((A ++ c :: B).map (·.2)).find? (fun c => decide (c.p = p)) = some c.2 := by
    rw [List.map_append, List.find?_append, List.find?_eq_none.2 (by intro x hx; obtain ⟨y, hy, rfl⟩ := List.mem_map.1 hx; simpa using hA y hy)]
    simp [hc]
  have h2 : ((A ++ c :: B).map (·.2)).eraseP (fun c => decide (c.p = p)) = (A ++ B).map (·.2) := by
    rw [List.map_append, List.eraseP_append_right _ (by intro x hx; obtain ⟨y, hy, rfl⟩ := List.mem_map.1 hx; simpa using hA y hy)]
    simp [hc]
  rw [h1, h2]
theorem keptD_new {p : Pf} {now : Int} (hA : ∀ x ∈ L, x.2.p ≠ p) : keptD burst clients (L.map (·.2)) p now = (⟨p, burst, now⟩, (if clients ≤ L.length then L.dropLast else L).map (·.2)) := by
  unfold keptD
  have h1 : (L.map (·.2)).find? (fun c => decide (c.p = p)) = none := List.find?_eq_none.2 (by intro x hx; obtain ⟨y, hy, rfl⟩ := List.mem_map.1 hx; simpa using hA y hy)
  simp only [h1, List.length_map]
  split
  · rw [List.map_dropLast]
  · rfl
end
attribute [local irreducible] pool fset lnk mp mget mfind mput mdel
section
variable (gB m : Nat) (per burst : Int) (clients : Nat) (f : Nat → Option Ch)
def RKept (D : List Cl) (p : Pf) (now : Int) : Value → List Asn → Prop := fun v Γ => ∃ g c0 rest M' f', v = hP' g ∧ Γ = [(bx gB 134 (bkc (hdO none ((g, c0) :: rest)) (lsO none ((g, c0) :: rest)) per burst (clients : Int) m)), mp prM m M', (pool 150 f')] ∧ BkI burst clients ((g, c0) :: rest) M' f' ∧ keptD burst clients D p now = (c0, rest.map (·.2))
theorem kept_t (L : List Nd) (M : List (Pf × Option Nat)) (hI : BkI burst clients L M f) (p : Pf) (now : Int) (hp : in64 p.2) (n1 : 0 ≤ now) (n2 : now < 18446744073709551616) (hb : 0 ≤ burst) (hcl : 1 ≤ clients) :
    Triple Tryz.prog 68 #[hP' gB, ag (pfxc p), .int .u64 now] [(bx gB 134 (bkc (hdO none L) (lsO none L) per burst (clients : Int) m)), mp prM m M, (pool 150 f)] (RKept gB m per burst clients (L.map (·.2)) p now) := by
  have hwf : prM.wf p := hp
  rcases Classical.em (∃ c ∈ L, c.2.p = p) with hex | hno
  · obtain ⟨x, hx, hxp⟩ := hex
    obtain ⟨A, B, rfl⟩ := List.append_of_mem hx
    have hA : ∀ y ∈ A, y.2.p ≠ p := fun y hy => by rw [← hxp]; exact (List.pairwise_append.1 hI.keys).2.2 y hy x (List.mem_cons_self ..)
    have hfind : mfind M p = some (some x.1) := (hI.key _ _).2 ⟨x, hx, hxp, rfl⟩
    have hget : prM.vc (mget prM M p) = hP' x.1 := by unfold mget; rw [hfind]; rfl
    have hhas : mhas M p = true := by unfold mhas; rw [hfind]; rfl
    obtain ⟨f1, c1, l1, e1⟩ := out_l gB m per burst (clients : Int) f A B x hI.lk hI.nod
    obtain ⟨q1, q2, q3⟩ := ne_of_pw hI.nod rfl
    obtain ⟨f2, c2, l2⟩ := ahead_l gB m per burst (clients : Int) f1 (A ++ B) x l1 e1 (fun y hy => (List.mem_append.1 hy).elim (q1 y) (q2 y)) q3
    have hR : RKept gB m per burst clients ((A ++ x :: B).map (·.2)) p now (hP' x.1) [(bx gB 134 (bkc (some x.1) (lsO none (x :: (A ++ B))) per burst (clients : Int) m)), mp prM m M, (pool 150 f2)] := ⟨x.1, x.2, A ++ B, M, f2, rfl, rfl, hI.perm List.perm_middle l2, keptD_found hxp hA⟩
    clear hI hx hfind l1 e1 q1 q2 q3 l2
    generalize hdO none (A ++ x :: B) = fi at c1 ⊢
    generalize lsO none (A ++ x :: B) = la at c1 ⊢
    generalize hdO none (A ++ B) = fi1 at c1 c2
    generalize lsO none (A ++ B) = la1 at c1 c2
    generalize lsO none (x :: (A ++ B)) = la2 at c2 hR
    generalize ((A ++ x :: B).map (·.2)) = D at hR ⊢
    refine Triple.enter Tryz.func68 rfl Tryz.ntmps68 rfl (fun W => ?_)
    dsimp only [argsF, Nat.reduceAdd]
    repeat' (first
     | refine WPl.nil ?_ | refine WPq.then ?_ | refine WPq.thenE ?_ | refine WPq.blockE ?_ | refine WPq.blockO rfl ?_ | refine WPc.seq ?_ | refine WPc.block ?_ | refine WPc.ret ?_ | refine WPc.exit ?_ | refine WPc.region ?_
     | (refine isReg 1 ?_; refine WPc.drA [([], [15]), ([0], [11, 15]), ([0, 1], [11, 12, 15]), ([0, 1, 2], [11, 12, 13, 15]), ([], [11, 12, 13, 14]), ([0, 1, 2, 3, 4], [11, 12, 13, 14, 15]), ([0, 1, 2, 3, 4, 5], [11, 12, 13, 14, 15, 16]), ([0, 1, 2, 3, 4, 5, 6], [10, 11, 12, 13, 14, 15, 16, 18]), ([0, 1, 2, 3, 4, 5, 6], [7, 10, 11, 12, 13, 14, 15, 16, 17]), ([0, 1, 2, 3, 4, 5, 6, 7], [10, 11, 12, 13, 14, 15, 16, 17, 18]), ([0, 1, 2, 3, 4, 5, 6, 7, 8, 9], [7, 10, 11, 12, 13, 14, 15, 16, 17, 18])] [] (Γx := []) ?_; dsimp only [prev0, List.length_nil, List.length_cons])
     | (refine gAny ?_; first | (refine gD 16 ?_; refine RGl.rdX (fun e hk => by (try dsimp only [bndR, ensR, oksR, fcutR, List.append_nil, List.nil_append, List.cons_append, List.append_assoc] at hk ⊢); exact ReadR.lookOk (M := prM) (k := p) hwf rfl rfl memA hget hhas) ?_) | (refine gOp ?_; first | refine RGl.rdA ?_ | refine RGl.rdX (fun e hk => by (try dsimp only [bndR, ensR, oksR, fcutR, List.append_nil, List.nil_append, List.cons_append, List.append_assoc] at hk ⊢); exact readB) ?_) | (refine RGl.fin (fun e hk => ?_); (try dsimp only [bndA, ensAR, oksA, List.append_nil, List.nil_append, List.cons_append, List.append_assoc] at hk ⊢); (repeat (obtain ⟨hk1, hk⟩ := hk))) | fail)
     | (refine isCond ?_; first | refine WPc.cT ?_ | refine WPc.cF ?_ | (refine WPc.cQ (fun hc => ?_) (fun hc => ?_) <;> try exact prA))
     | (refine isC 37 ?_; refine WPl.cTs (c1) ?_; (try dsimp only [putF, List.cons_append, List.nil_append]))
     | (refine isC 75 ?_; refine WPl.cTs (c2) ?_; (try dsimp only [putF, List.cons_append, List.nil_append]))
     | (refine isOp ?_; first | refine WPl.rd ?_ | refine WPl.sk ?_ | refine WPl.rdB ?_)
     | (refine isBx ?_; refine WPl.nw fun g => ?_)
     | fail)
    exact WPq.dX (vs := [_]) _ hR
  · have hno' : ∀ c ∈ L, c.2.p ≠ p := fun c hc e => hno ⟨c, hc, e⟩
    clear hno
    have hfind := hI.none' hno'
    have hget : prM.vc (mget prM M p) = .pointer none := by unfold mget; rw [hfind]; rfl
    have hhas : mhas M p = false := by unfold mhas; rw [hfind]; rfl
    have hk := keptD_new (burst := burst) (clients := clients) (now := now) hno'
    have hML := hI.len
    by_cases hfull : clients ≤ L.length
    · have hfl : (M.length : Int) ≥ (clients : Int) := by omega
      obtain ⟨A, eo, rfl⟩ := snoc_of (A := L) (by rintro rfl; simp at hfull; omega)
      rw [if_pos hfull, List.dropLast_concat] at hk
      obtain ⟨f1, c1, l1, e1⟩ := out_l gB m per burst (clients : Int) f A [] eo hI.lk hI.nod
      rw [List.append_nil] at c1 l1
      have hD := hI.drop l1
      have hwe : prM.wf eo.2.p := (hI.ok eo (by simp)).1
      have hAn : ∀ c ∈ A, c.2.p ≠ p := fun c hc => hno' c (List.mem_append_left _ hc)
      have hlen : A.length < clients := by have := hI.few; simp at this; omega
      rw [show lsO none (A ++ [eo]) = some eo.1 from lsO_snoc] at c1 ⊢
      obtain ⟨D, hDD⟩ : ∃ D, D = (A ++ [eo]).map (·.2) := ⟨_, rfl⟩
      rw [← hDD] at hk ⊢
      clear hI hfind hML hno' hDD hfull
      generalize hdO none (A ++ [eo]) = fi at c1 ⊢
      refine Triple.enter Tryz.func68 rfl Tryz.ntmps68 rfl (fun W => ?_)
      dsimp only [argsF, Nat.reduceAdd]
      repeat' (first
       | (refine isReg 9 ?_; refine WPc.poolIn (T := 150) (cs := clc ⟨p, burst, now⟩ none none) (fun hg0 => ?_); generalize blk (e (0 + 1 + 1 + 1 + 1 + 1 + 1 + 1 + 1)).fst = g0 at hg0 ⊢; obtain ⟨f2, c2, l2⟩ := ahead_l gB m per burst (clients : Int) (fset f1 g0 (clc ⟨p, burst, now⟩ none none)) A (g0, ⟨p, burst, now⟩) (lnk_set (fun c hc he => by obtain ⟨y1, y2, hy⟩ := lnk_mem hc hD.lk; rw [he, hg0] at hy; cases hy) hD.lk) fset_same (fun c hc he => by obtain ⟨y1, y2, hy⟩ := lnk_mem hc hD.lk; rw [show c.1 = g0 from he, hg0] at hy; cases hy) hD.nod; dsimp only at c2)
       | refine WPl.nil ?_ | refine WPq.then ?_ | refine WPq.thenE ?_ | refine WPq.blockN ?_ | refine WPq.blockE ?_ | refine WPq.blockO rfl ?_ | refine WPc.seq ?_ | refine WPc.block ?_ | refine WPc.ret ?_ | refine WPc.exit ?_ | refine WPc.skip ?_ | refine WPc.region ?_
       | (refine isReg 1 ?_; refine WPc.drA [([], [15]), ([0], [11, 15]), ([0, 1], [11, 12, 15]), ([0, 1, 2], [11, 12, 13, 15]), ([], [11, 12, 13, 14]), ([0, 1, 2, 3, 4], [11, 12, 13, 14, 15]), ([0, 1, 2, 3, 4, 5], [11, 12, 13, 14, 15, 16]), ([0, 1, 2, 3, 4, 5, 6], [10, 11, 12, 13, 14, 15, 16, 18]), ([0, 1, 2, 3, 4, 5, 6], [7, 10, 11, 12, 13, 14, 15, 16, 17]), ([0, 1, 2, 3, 4, 5, 6, 7], [10, 11, 12, 13, 14, 15, 16, 17, 18]), ([0, 1, 2, 3, 4, 5, 6, 7, 8, 9], [7, 10, 11, 12, 13, 14, 15, 16, 17, 18])] [] (Γx := []) ?_; dsimp only [prev0, List.length_nil, List.length_cons])
       | (refine isReg 3 ?_; refine WPc.drA [([], [27, 28, 29, 30, 31]), ([0], [22, 27, 28, 29, 30, 31]), ([0, 1], [22, 23, 27, 28, 29, 30, 31]), ([0, 1, 2], [22, 23, 24, 27, 28, 29, 30, 31]), ([0, 1, 2, 3], [22, 23, 24, 25, 27, 28, 29, 30, 31]), ([], [22, 23, 24, 25, 26]), ([5], [22, 23, 24, 25, 26, 27]), ([5, 6], [22, 23, 24, 25, 26, 27, 28]), ([5, 6, 7], [22, 23, 24, 25, 26, 27, 28, 29]), ([5, 6, 7, 8], [22, 23, 24, 25, 26, 27, 28, 29, 30]), ([0, 1, 2, 3, 4, 5, 6, 7, 8, 9], [22, 23, 24, 25, 26, 27, 28, 29, 30, 31]), ([0, 1, 2, 3, 4, 5, 6, 7, 8, 9, 10], [22, 23, 24, 25, 26, 27, 28, 29, 30, 31, 32])] [] (Γx := []) ?_; dsimp only [prev0, List.length_nil, List.length_cons])
       | (refine isReg 7 ?_; refine WPc.drA [([9], [52, 53, 54, 55]), ([0, 9], [48, 52, 53, 54, 55]), ([0, 1, 9], [48, 49, 52, 53, 54, 55]), ([0, 1, 2, 9], [48, 49, 50, 52, 53, 54, 55]), ([9], [48, 49, 50, 51]), ([4, 9], [48, 49, 50, 51, 52]), ([4, 5, 9], [48, 49, 50, 51, 52, 53]), ([4, 5, 6, 9], [48, 49, 50, 51, 52, 53, 54]), ([0, 1, 2, 3, 4, 5, 6, 7, 9], [48, 49, 50, 51, 52, 53, 54, 55])] [(9, 8), (9, 0), (9, 1), (9, 2), (9, 3), (9, 4), (9, 5), (9, 6), (9, 7)] (Γx := [mp prM m M]) (hox := ownsA) ?_; dsimp only [prev0, List.length_nil, List.length_cons])
       | (refine isReg 8 ?_; refine WPc.drA [([], [57, 58, 59, 60, 61, 62]), ([], [56, 62]), ([1], [56, 57, 62]), ([1, 2], [56, 57, 58, 62]), ([1, 2, 3], [56, 57, 58, 59, 62]), ([1, 2, 3, 4], [56, 57, 58, 59, 60, 62]), ([], [56, 57, 58, 59, 60, 61]), ([0, 1, 2, 3, 4, 5, 6], [56, 57, 58, 59, 60, 61, 62]), ([0, 1, 2, 3, 4, 5, 6, 7], [56, 57, 58, 59, 60, 61, 62, 63]), ([0, 1, 2, 3, 4, 5, 6, 7, 8], [56, 57, 58, 59, 60, 61, 62, 63, 64])] [] (Γx := []) ?_; dsimp only [prev0, List.length_nil, List.length_cons])
       | (refine isReg 9 ?_; refine WPc.drA [([7], [69, 70]), ([0, 7], [65, 69, 70]), ([0, 1, 7], [65, 66, 69, 70]), ([0, 1, 2, 7], [65, 66, 67, 69, 70]), ([7], [65, 66, 67, 68, 70]), ([7], [65, 66, 67, 68, 69]), ([0, 1, 2, 3, 4, 5, 7], [65, 66, 67, 68, 69, 70])] [(7, 6), (7, 0), (7, 1), (7, 2), (7, 3), (7, 4), (7, 5)] (Γx := [mp prM m (mdel M eo.2.p)]) (hox := ownsA) ?_; dsimp only [prev0, List.length_nil, List.length_cons])
       | (refine gAny ?_; first | (refine gOp ?_; refine RGl.turn (fun e hk => by (try dsimp only [bndR, ensR, oksR, fcutR, List.append_nil, List.nil_append, List.cons_append, List.append_assoc] at hk ⊢); exact OpT.mdel (k := eo.2.p) (hwe) rfl rfl takesA) ?_) | (refine gOp ?_; refine RGl.turn (fun e hk => by (try dsimp only [bndR, ensR, oksR, fcutR, List.append_nil, List.nil_append, List.cons_append, List.append_assoc] at hk ⊢); exact OpT.mput (k := p) (v := some g0) (hwf) rfl rfl rfl takesA) ?_) | (refine gD 16 ?_; refine RGl.rdX (fun e hk => by (try dsimp only [bndR, ensR, oksR, fcutR, List.append_nil, List.nil_append, List.cons_append, List.append_assoc] at hk ⊢); exact ReadR.lookOk (M := prM) (k := p) hwf rfl rfl memA hget hhas) ?_) | (refine gD 26 ?_; refine RGl.rdX (fun e hk => by (try dsimp only [bndR, ensR, oksR, fcutR, List.append_nil, List.nil_append, List.cons_append, List.append_assoc] at hk ⊢); exact ReadR.mlen rfl memA) ?_) | (refine gD 32 ?_; refine RGl.rdX (fun e hk => by (try dsimp only [bndR, ensR, oksR, fcutR, List.append_nil, List.nil_append, List.cons_append, List.append_assoc] at hk ⊢); exact ReadR.binE rfl rfl BinR.geq (congrArg Value.bool (decide_eq_true hfl))) ?_) | (refine gD 55 ?_; refine RGl.rdX (fun e hk => by (try dsimp only [bndR, ensR, oksR, fcutR, List.append_nil, List.nil_append, List.cons_append, List.append_assoc] at hk ⊢); exact ReadR.loadPA memA e1 rfl rfl) ?_) | (refine gOp ?_; first | refine RGl.rdA ?_ | refine RGl.rdX (fun e hk => by (try dsimp only [bndR, ensR, oksR, fcutR, List.append_nil, List.nil_append, List.cons_append, List.append_assoc] at hk ⊢); exact readB) ?_) | (refine gBx ?_; refine RGl.nwA ?_) | (refine RGl.fin (fun e hk => ?_); (try dsimp only [bndA, ensAR, oksA, List.append_nil, List.nil_append, List.cons_append, List.append_assoc] at hk ⊢); (repeat (obtain ⟨hk1, hk⟩ := hk))) | fail)
       | (refine isCond ?_; first | refine WPc.cT ?_ | refine WPc.cF ?_ | (refine WPc.cQ (fun hc => ?_) (fun hc => ?_) <;> try exact prA))
       | (refine isC 47 ?_; refine WPl.cTs (c1) ?_; (try dsimp only [putF, List.cons_append, List.nil_append]))
       | (refine isC 75 ?_; refine WPl.cTs (c2) ?_; (try dsimp only [putF, List.cons_append, List.nil_append]))
       | (refine isOp ?_; first | refine WPl.rd ?_ | refine WPl.sk ?_ | refine WPl.rdB ?_)
       | (refine isBx ?_; refine WPl.nw fun g => ?_)
       | fail)
      exact WPq.dX (vs := [_]) _ ⟨g0, ⟨p, burst, now⟩, A, mput (mdel M eo.2.p) p (some g0), f2, rfl, rfl, hD.new (c := (g0, ⟨p, burst, now⟩)) hAn (fun c hc he => by obtain ⟨y1, y2, hy⟩ := lnk_mem hc hD.lk; rw [show c.1 = g0 from he, hg0] at hy; cases hy) hlen l2 ⟨hp, hb, Int.le_refl _, n1, n2⟩, hk⟩
    · have hfl : ¬ (M.length : Int) ≥ (clients : Int) := by omega
      rw [if_neg hfull] at hk
      have hlen : L.length < clients := by omega
      obtain ⟨D, hDD⟩ : ∃ D, D = L.map (·.2) := ⟨_, rfl⟩
      rw [← hDD] at hk ⊢
      clear hfind hML hfull
      obtain ⟨fi, hfi⟩ : ∃ fi, fi = hdO none L := ⟨_, rfl⟩
      obtain ⟨la, hla⟩ : ∃ la, la = lsO none L := ⟨_, rfl⟩
      rw [← hfi, ← hla]
      refine Triple.enter Tryz.func68 rfl Tryz.ntmps68 rfl (fun W => ?_)
      dsimp only [argsF, Nat.reduceAdd]
      repeat' (first
       | (refine isReg 9 ?_; refine WPc.poolIn (T := 150) (cs := clc ⟨p, burst, now⟩ none none) (fun hg0 => ?_); generalize blk (e (0 + 1 + 1 + 1 + 1 + 1 + 1 + 1 + 1)).fst = g0 at hg0 ⊢; obtain ⟨f2, c2, l2⟩ := ahead_l gB m per burst (clients : Int) (fset f g0 (clc ⟨p, burst, now⟩ none none)) L (g0, ⟨p, burst, now⟩) (lnk_set (fun c hc he => by obtain ⟨y1, y2, hy⟩ := lnk_mem hc hI.lk; rw [he, hg0] at hy; cases hy) hI.lk) fset_same (fun c hc he => by obtain ⟨y1, y2, hy⟩ := lnk_mem hc hI.lk; rw [show c.1 = g0 from he, hg0] at hy; cases hy) hI.nod; rw [← hfi, ← hla] at c2; dsimp only at c2)
       | refine WPl.nil ?_ | refine WPq.then ?_ | refine WPq.thenE ?_ | refine WPq.blockE ?_ | refine WPq.blockO rfl ?_ | refine WPc.seq ?_ | refine WPc.block ?_ | refine WPc.ret ?_ | refine WPc.exit ?_ | refine WPc.skip ?_ | refine WPc.region ?_
       | (refine isReg 1 ?_; refine WPc.drA [([], [15]), ([0], [11, 15]), ([0, 1], [11, 12, 15]), ([0, 1, 2], [11, 12, 13, 15]), ([], [11, 12, 13, 14]), ([0, 1, 2, 3, 4], [11, 12, 13, 14, 15]), ([0, 1, 2, 3, 4, 5], [11, 12, 13, 14, 15, 16]), ([0, 1, 2, 3, 4, 5, 6], [10, 11, 12, 13, 14, 15, 16, 18]), ([0, 1, 2, 3, 4, 5, 6], [7, 10, 11, 12, 13, 14, 15, 16, 17]), ([0, 1, 2, 3, 4, 5, 6, 7], [10, 11, 12, 13, 14, 15, 16, 17, 18]), ([0, 1, 2, 3, 4, 5, 6, 7, 8, 9], [7, 10, 11, 12, 13, 14, 15, 16, 17, 18])] [] (Γx := []) ?_; dsimp only [prev0, List.length_nil, List.length_cons])
       | (refine isReg 3 ?_; refine WPc.drA [([], [27, 28, 29, 30, 31]), ([0], [22, 27, 28, 29, 30, 31]), ([0, 1], [22, 23, 27, 28, 29, 30, 31]), ([0, 1, 2], [22, 23, 24, 27, 28, 29, 30, 31]), ([0, 1, 2, 3], [22, 23, 24, 25, 27, 28, 29, 30, 31]), ([], [22, 23, 24, 25, 26]), ([5], [22, 23, 24, 25, 26, 27]), ([5, 6], [22, 23, 24, 25, 26, 27, 28]), ([5, 6, 7], [22, 23, 24, 25, 26, 27, 28, 29]), ([5, 6, 7, 8], [22, 23, 24, 25, 26, 27, 28, 29, 30]), ([0, 1, 2, 3, 4, 5, 6, 7, 8, 9], [22, 23, 24, 25, 26, 27, 28, 29, 30, 31]), ([0, 1, 2, 3, 4, 5, 6, 7, 8, 9, 10], [22, 23, 24, 25, 26, 27, 28, 29, 30, 31, 32])] [] (Γx := []) ?_; dsimp only [prev0, List.length_nil, List.length_cons])
       | (refine isReg 8 ?_; refine WPc.drA [([], [57, 58, 59, 60, 61, 62]), ([], [56, 62]), ([1], [56, 57, 62]), ([1, 2], [56, 57, 58, 62]), ([1, 2, 3], [56, 57, 58, 59, 62]), ([1, 2, 3, 4], [56, 57, 58, 59, 60, 62]), ([], [56, 57, 58, 59, 60, 61]), ([0, 1, 2, 3, 4, 5, 6], [56, 57, 58, 59, 60, 61, 62]), ([0, 1, 2, 3, 4, 5, 6, 7], [56, 57, 58, 59, 60, 61, 62, 63]), ([0, 1, 2, 3, 4, 5, 6, 7, 8], [56, 57, 58, 59, 60, 61, 62, 63, 64])] [] (Γx := []) ?_; dsimp only [prev0, List.length_nil, List.length_cons])
       | (refine isReg 9 ?_; refine WPc.drA [([7], [69, 70]), ([0, 7], [65, 69, 70]), ([0, 1, 7], [65, 66, 69, 70]), ([0, 1, 2, 7], [65, 66, 67, 69, 70]), ([7], [65, 66, 67, 68, 70]), ([7], [65, 66, 67, 68, 69]), ([0, 1, 2, 3, 4, 5, 7], [65, 66, 67, 68, 69, 70])] [(7, 6), (7, 0), (7, 1), (7, 2), (7, 3), (7, 4), (7, 5)] (Γx := [mp prM m M]) (hox := ownsA) ?_; dsimp only [prev0, List.length_nil, List.length_cons])
       | (refine gAny ?_; first | (refine gOp ?_; refine RGl.turn (fun e hk => by (try dsimp only [bndR, ensR, oksR, fcutR, List.append_nil, List.nil_append, List.cons_append, List.append_assoc] at hk ⊢); exact OpT.mput (k := p) (v := some g0) (hwf) rfl rfl rfl takesA) ?_) | (refine gD 16 ?_; refine RGl.rdX (fun e hk => by (try dsimp only [bndR, ensR, oksR, fcutR, List.append_nil, List.nil_append, List.cons_append, List.append_assoc] at hk ⊢); exact ReadR.lookOk (M := prM) (k := p) hwf rfl rfl memA hget hhas) ?_) | (refine gD 26 ?_; refine RGl.rdX (fun e hk => by (try dsimp only [bndR, ensR, oksR, fcutR, List.append_nil, List.nil_append, List.cons_append, List.append_assoc] at hk ⊢); exact ReadR.mlen rfl memA) ?_) | (refine gD 32 ?_; refine RGl.rdX (fun e hk => by (try dsimp only [bndR, ensR, oksR, fcutR, List.append_nil, List.nil_append, List.cons_append, List.append_assoc] at hk ⊢); exact ReadR.binE rfl rfl BinR.geq (congrArg Value.bool (decide_eq_false hfl))) ?_) | (refine gOp ?_; first | refine RGl.rdA ?_ | refine RGl.rdX (fun e hk => by (try dsimp only [bndR, ensR, oksR, fcutR, List.append_nil, List.nil_append, List.cons_append, List.append_assoc] at hk ⊢); exact readB) ?_) | (refine gBx ?_; refine RGl.nwA ?_) | (refine RGl.fin (fun e hk => ?_); (try dsimp only [bndA, ensAR, oksA, List.append_nil, List.nil_append, List.cons_append, List.append_assoc] at hk ⊢); (repeat (obtain ⟨hk1, hk⟩ := hk))) | fail)
       | (refine isCond ?_; first | refine WPc.cT ?_ | refine WPc.cF ?_ | (refine WPc.cQ (fun hc => ?_) (fun hc => ?_) <;> try exact prA))
       | (refine isC 75 ?_; refine WPl.cTs (c2) ?_; (try dsimp only [putF, List.cons_append, List.nil_append]))
       | (refine isOp ?_; first | refine WPl.rd ?_ | refine WPl.sk ?_ | refine WPl.rdB ?_)
       | (refine isBx ?_; refine WPl.nw fun g => ?_)
       | fail)
      exact WPq.dX (vs := [_]) _ ⟨g0, ⟨p, burst, now⟩, L, mput M p (some g0), f2, rfl, rfl, hI.new (c := (g0, ⟨p, burst, now⟩)) hno' (fun c hc he => by obtain ⟨y1, y2, hy⟩ := lnk_mem hc hI.lk; rw [show c.1 = g0 from he, hg0] at hy; cases hy) hlen l2 ⟨hp, hb, Int.le_refl _, n1, n2⟩, hDD ▸ hk⟩
end
end Go.Proofs.YtpilenbdimhegaaGreatDoor
/- Layer 33 (bucket): New, Take, Len: contracts; what lives. -/
namespace Go.Proofs.YtpilenbdimhegaaGreatDoor
open Go.RowKit
set_option linter.unusedSimpArgs false
set_option linter.unusedVariables false
set_option maxRecDepth 20000
set_option maxHeartbeats 4000000
attribute [local irreducible] WPc WPl WPq ReadR OpT BinR HasS bx rdN rowN Take Takes Prov Triple ResF BuildP Done ag Int.decLt Int.decLe Int.instDecidableEq
section
variable {burst : Int} {clients : Nat} {M : List (Pf × Option Nat)} {f f' : Nat → Option Ch}
theorem BkI.upd {g : Nat} {c c' : Cl} {rest : List Nd} (h : BkI burst clients ((g, c) :: rest) M f) (hp : c'.p = c.p) (hok : 0 ≤ c'.tok ∧ c'.tok ≤ burst ∧ 0 ≤ c'.at' ∧ c'.at' < 18446744073709551616) (hl : f' g = some (clc c' none (hdO none rest))) (hfr : ∀ x ∈ rest, f' x.1 = f x.1) : BkI burst clients ((g, c') :: rest) M f' := by
  obtain ⟨a1, a2⟩ := List.pairwise_cons.1 h.nod
  obtain ⟨b1, b2⟩ := List.pairwise_cons.1 h.keys
  refine ⟨List.pairwise_cons.2 ⟨a1, a2⟩, ⟨hl, lnk_frame hfr h.lk.2⟩, fun p v => ?_, h.len, List.pairwise_cons.2 ⟨fun x hx => by show c'.p ≠ _; rw [hp]; exact b1 x hx, b2⟩, fun x hx => ?_, h.few, h.mkn⟩
  · rw [h.key]
    constructor
    · rintro ⟨x, hx, h1⟩
      rcases List.mem_cons.1 hx with rfl | hx
      · exact ⟨(g, c'), List.mem_cons_self .., hp.trans h1.1, h1.2⟩
      · exact ⟨x, List.mem_cons_of_mem _ hx, h1⟩
    · rintro ⟨x, hx, h1⟩
      rcases List.mem_cons.1 hx with rfl | hx
      · exact ⟨(g, c), List.mem_cons_self .., hp.symm.trans h1.1, h1.2⟩
      · exact ⟨x, List.mem_cons_of_mem _ hx, h1⟩
  · rcases List.mem_cons.1 hx with rfl | hx
    · exact ⟨by show in64 c'.p.2; rw [hp]; exact (h.ok (g, c) (List.mem_cons_self ..)).1, hok⟩
    · exact h.ok x (List.mem_cons_of_mem _ hx)
theorem takeD_eq {per : Int} {D : List Cl} {p : Pf} {n now : Int} {c : Cl} {r : List Cl} (hk : keptD burst clients D p now = (c, r)) : takeD per burst clients D p n now = (⟨c.p, if 0 ≤ n ∧ n ≤ full per burst c now then full per burst c now - n else full per burst c now, max c.at' now⟩ :: r, decide (0 ≤ n ∧ n ≤ full per burst c now)) := by
  unfold takeD; rw [hk]
end
theorem maxI {a b : Int} : (if a < b then b else a) = max a b := by split <;> omega
attribute [local irreducible] pool fset lnk mp mget mfind mput mdel
section
variable (gB m : Nat) (per burst : Int) (clients : Nat) (f : Nat → Option Ch)
def RBk (D : List Cl) (r : Value) : Value → List Asn → Prop := fun v Γ => ∃ L' M' f', v = r ∧ Γ = [(bx gB 134 (bkc (hdO none L') (lsO none L') per burst (clients : Int) m)), mp prM m M', (pool 150 f')] ∧ BkI burst clients L' M' f' ∧ L'.map (·.2) = D
theorem take_t (L : List Nd) (M : List (Pf × Option Nat)) (hI : BkI burst clients L M f) (p : Pf) (n now : Int) (hp : in64 p.2) (n1 : 0 ≤ now) (n2 : now < 18446744073709551616) (p1 : 0 ≤ per) (p2 : per ≤ 1048576) (hb : 0 ≤ burst) (b2 : burst ≤ 1073741824) (hcl : 1 ≤ clients) :
    Triple Tryz.prog 35 #[hP' gB, ag (pfxc p), .int .i64 n, .int .u64 now] [(bx gB 134 (bkc (hdO none L) (lsO none L) per burst (clients : Int) m)), mp prM m M, (pool 150 f)] (RBk gB m per burst clients (takeD per burst clients (L.map (·.2)) p n now).1 (.bool (takeD per burst clients (L.map (·.2)) p n now).2)) := by
  have c1 := kept_t gB m per burst clients f L M hI p now hp n1 n2 hb hcl
  clear hI
  generalize hdO none L = fi at c1 ⊢
  generalize lsO none L = la at c1 ⊢
  generalize L.map (·.2) = D at c1 ⊢
  refine Triple.enter Tryz.func35 rfl Tryz.ntmps35 rfl (fun W => ?_)
  dsimp only [argsF, Nat.reduceAdd]
  repeat' (first
   | refine WPl.nil ?_ | refine WPq.then ?_ | refine WPq.thenR ?_ | refine WPq.thenE ?_ | refine WPq.blockN ?_ | refine WPq.blockR ?_ | refine WPq.blockE ?_ | refine WPq.blockO rfl ?_ | refine WPc.seq ?_ | refine WPc.block ?_ | refine WPc.ret ?_ | refine WPc.exit ?_ | refine WPc.skip ?_ | refine WPc.region ?_
   | (refine isCond ?_; first | refine WPc.cT ?_ | refine WPc.cF ?_ | (refine WPc.cQ (fun hc => ?_) (fun hc => ?_) <;> try exact prA))
   | (refine isD 11 ?_; refine WPl.rdX (readP) ?_)
   | (refine isC 15 ?_; refine WPl.cXs (c1) fun v Γ1 hR => ?_; obtain ⟨g1, c0, rest, M1, f1, rfl, rfl, hI1, hk⟩ := hR; have hc1 := hI1.lk; have hok1 := hI1.ok (g1, c0) (List.mem_cons_self ..); have hcell : f1 g1 = some (clc c0 none (hdO none rest)) := (by unfold lnk at hc1; exact hc1.1); rw [takeD_eq hk]; have hTb := full_le (per := per) (now := now) hok1.2.1 hok1.2.2.1 p1; have c2 := bhas_t gB m per burst (clients : Int) f1 g1 c0 (hdO none ((g1, c0) :: rest)) (lsO none ((g1, c0) :: rest)) none (hdO none rest) now hcell p1 p2 b2 hok1.2.1 hok1.2.2.1 hok1.2.2.2.1 hok1.2.2.2.2 n1 n2; generalize full per burst c0 now = T at c2 hTb ⊢; (try dsimp only [putF, List.cons_append, List.nil_append]))
   | (refine isC 20 ?_; refine WPl.cTs (c2) ?_; (try dsimp only [putF, List.cons_append, List.nil_append]))
   | (show WPl _ _ _ _ _ _ _ (⟨_, .store _ (.tmp 22) _, _, _, _, _⟩ :: _) _; refine WPl.stP (hcell) ?_)
   | (refine isD 27 ?_; refine WPl.rdX (ReadR.loadP memA fset_same rfl rfl) ?_)
   | (refine isD 29 ?_; refine WPl.rdX (ReadR.maxT maxI rfl rfl) ?_)
   | (show WPl _ _ _ _ _ _ _ (⟨_, .store _ (.tmp 31) _, _, _, _, _⟩ :: _) _; refine WPl.stP (fset_same) ?_)
   | (refine isD 39 ?_; refine WPl.rdX (ReadR.loadP memA fset_same rfl rfl) ?_)
   | (refine isD 45 ?_; refine WPl.rdX (ReadR.loadP memA fset_same rfl rfl) ?_)
   | (show WPl _ _ _ _ _ _ _ (⟨_, .store _ (.tmp 49) _, _, _, _, _⟩ :: _) _; refine WPl.stP (fset_same) ?_)
   | (refine isOp ?_; first | refine WPl.rd ?_ | refine WPl.sk ?_ | refine WPl.rdB ?_)
   | (refine isBx ?_; refine WPl.nw fun g => ?_)
   | (refine isSt ?_; first | refine WPl.st1 ?_ | refine WPl.stA ?_ | refine WPl.stEB ?_ | refine WPl.stRB ?_)
   | (show WPl _ _ _ _ _ _ _ (⟨_, .indexAddr _ _ _, _, _, _, _⟩ :: _) _; refine WPl.rdX (ReadR.indexE rfl rfl hasA (by first | assumption | omega)) ?_)
   | (show WPl _ _ _ _ _ _ _ (⟨_, .fieldAddr _ _ _, _, _, _, _⟩ :: _) _; refine WPl.rdX (ReadR.fieldE rfl hasA (by first | assumption | omega)) ?_)
   | (show WPl _ _ _ _ _ _ _ (⟨_, .load _ _, _, _, _, _⟩ :: _) _; first | refine WPl.rdX (ReadR.loadE rfl hasA (by assumption)) ?_ | refine WPl.rdX (ReadR.loadES (by assumption) (by first | assumption | omega) rfl hasA) ?_)
   | (show WPl _ _ _ _ _ _ _ (⟨_, .slice _ _ _ _ _, _, _, _, _⟩ :: _) _; first | refine WPl.rdX (ReadR.sliceH rfl rfl hasA (by omega)) ?_ | refine WPl.rdX (ReadR.sliceL rfl rfl hasA (by omega)) ?_ | refine WPl.rdX (ReadR.sliceLH rfl rfl rfl hasA (by omega) (by omega)) ?_)
   | (refine WPl.spQ (fun hc => ?_) (fun hc => ?_) <;> try exact prA)
   | fail)
  · have hg := fun (xx : Nd) hx => ((List.pairwise_cons.1 hI1.nod).1 xx hx).symm
    have hne : ¬ (0 ≤ n ∧ n ≤ T) := by omega
    have hb1 := hok1.2.2.2
    dsimp only at hb1 hg
    refine WPq.dX (vs := [_]) _ ⟨(g1, ⟨c0.p, T, max c0.at' now⟩) :: rest, M1, (fset (fset f1 g1 (clc ⟨c0.p, T, c0.at'⟩ none (hdO none rest))) g1 (clc ⟨c0.p, T, max c0.at' now⟩ none (hdO none rest))), ?_, rfl, hI1.upd rfl ⟨hTb.1, hTb.2, by dsimp only; omega, by dsimp only; omega⟩ fset_same (fun xx hx => by rw [fset_ne (hg xx hx), fset_ne (hg xx hx)]), ?_⟩
    · rw [decide_eq_false hne]; rfl
    · rw [if_neg hne]; rfl
  · have hg := fun (xx : Nd) hx => ((List.pairwise_cons.1 hI1.nod).1 xx hx).symm
    have hne : 0 ≤ n ∧ n ≤ T := by omega
    have hb1 := hok1.2.2.2
    dsimp only at hb1 hg
    refine WPq.dX (vs := [_]) _ ⟨(g1, ⟨c0.p, T - n, max c0.at' now⟩) :: rest, M1, (fset (fset (fset f1 g1 (clc ⟨c0.p, T, c0.at'⟩ none (hdO none rest))) g1 (clc ⟨c0.p, T, max c0.at' now⟩ none (hdO none rest))) g1 (clc ⟨c0.p, T - n, max c0.at' now⟩ none (hdO none rest))), ?_, rfl, hI1.upd rfl ⟨by dsimp only; omega, by dsimp only; omega, by dsimp only; omega, by dsimp only; omega⟩ fset_same (fun xx hx => by rw [fset_ne (hg xx hx), fset_ne (hg xx hx), fset_ne (hg xx hx)]), ?_⟩
    · rw [decide_eq_true hne]; rfl
    · rw [if_pos hne]; rfl
  · have hg := fun (xx : Nd) hx => ((List.pairwise_cons.1 hI1.nod).1 xx hx).symm
    have hne : ¬ (0 ≤ n ∧ n ≤ T) := by omega
    have hb1 := hok1.2.2.2
    dsimp only at hb1 hg
    refine WPq.dX (vs := [_]) _ ⟨(g1, ⟨c0.p, T, max c0.at' now⟩) :: rest, M1, (fset (fset f1 g1 (clc ⟨c0.p, T, c0.at'⟩ none (hdO none rest))) g1 (clc ⟨c0.p, T, max c0.at' now⟩ none (hdO none rest))), ?_, rfl, hI1.upd rfl ⟨hTb.1, hTb.2, by dsimp only; omega, by dsimp only; omega⟩ fset_same (fun xx hx => by rw [fset_ne (hg xx hx), fset_ne (hg xx hx)]), ?_⟩
    · rw [decide_eq_false hne]; rfl
    · rw [if_neg hne]; rfl
end
section
variable (per burst : Int) (clients : Nat)
abbrev rtc (per burst cl : Int) : Ch := [(1, [.int .i64 per]), (1, [.int .i64 burst]), (1, [.int .i64 cl])]
def RNewB : Value → List Asn → Prop := fun v Γ => ∃ gB m f, v = .tuple #[hP' gB, .int .i64 0] ∧ Γ = [bx gB 134 (bkc none none per burst (clients : Int) m), mp prM m [], pool 150 f] ∧ BkI burst clients [] [] f
theorem bki0 : BkI burst clients [] [] (fun _ => none) where
  nod := List.Pairwise.nil
  lk := by unfold lnk; trivial
  key := fun p v => ⟨(fun h => by unfold mfind at h; cases h), (fun ⟨c, hc, _⟩ => by cases hc)⟩
  len := rfl
  keys := List.Pairwise.nil
  ok := fun c hc => by cases hc
  few := Nat.zero_le _
  mkn := List.Pairwise.nil
theorem bnew_t (p1 : 0 ≤ per) (p2 : per ≤ 1048576) (b1 : 1 ≤ burst) (b2 : burst ≤ 1073741824) (c1 : 1 ≤ clients) (c2 : clients ≤ 1000) :
    Triple Tryz.prog 24 #[ag (rtc per burst (clients : Int))] [] (RNewB per burst clients) := by
  have h0 := bki0 burst clients
  refine Triple.enter Tryz.func24 rfl Tryz.ntmps24 rfl (fun W => ?_)
  dsimp only [argsF, Nat.reduceAdd]
  refine WPc.pool0 150 ?_
  repeat' (first
   | refine WPl.nil ?_ | refine WPq.then ?_ | refine WPq.thenR ?_ | refine WPq.thenE ?_ | refine WPq.blockN ?_ | refine WPq.blockR ?_ | refine WPq.blockE ?_ | refine WPq.blockO rfl ?_ | refine WPc.seq ?_ | refine WPc.block ?_ | refine WPc.ret ?_ | refine WPc.exit ?_ | refine WPc.skip ?_ | refine WPc.region ?_
   | (refine isCond ?_; first | refine WPc.cT ?_ | refine WPc.cF ?_ | (refine WPc.cQ (fun hc => ?_) (fun hc => ?_) <;> try exact prA))
   | (refine isD 33 ?_; refine WPl.mnew prM fun m => ?_)
   | (refine isOp ?_; first | refine WPl.rd ?_ | refine WPl.sk ?_ | refine WPl.rdB ?_)
   | (refine isBx ?_; refine WPl.nw fun g => ?_)
   | (show WPl _ _ _ _ _ _ _ (⟨_, .indexAddr _ _ _, _, _, _, _⟩ :: _) _; refine WPl.rdX (ReadR.indexE rfl rfl hasA (by first | assumption | omega)) ?_)
   | (show WPl _ _ _ _ _ _ _ (⟨_, .fieldAddr _ _ _, _, _, _, _⟩ :: _) _; refine WPl.rdX (ReadR.fieldE rfl hasA (by first | assumption | omega)) ?_)
   | (show WPl _ _ _ _ _ _ _ (⟨_, .load _ _, _, _, _, _⟩ :: _) _; first | refine WPl.rdX (ReadR.loadE rfl hasA (by assumption)) ?_ | refine WPl.rdX (ReadR.loadES (by assumption) (by first | assumption | omega) rfl hasA) ?_)
   | (show WPl _ _ _ _ _ _ _ (⟨_, .slice _ _ _ _ _, _, _, _, _⟩ :: _) _; first | refine WPl.rdX (ReadR.sliceH rfl rfl hasA (by omega)) ?_ | refine WPl.rdX (ReadR.sliceL rfl rfl hasA (by omega)) ?_ | refine WPl.rdX (ReadR.sliceLH rfl rfl rfl hasA (by omega) (by omega)) ?_)
   | (refine WPl.spQ (fun hc => ?_) (fun hc => ?_) <;> try exact prA)
   | fail)
  exact WPq.dX (vs := [_, _]) [_, _, _] ⟨_, _, _, rfl, rfl, h0⟩
structure BOk (per burst : Int) (clients : Nat) : Prop where
  p1 : 0 ≤ per
  p2 : per ≤ 1048576
  b1 : 1 ≤ burst
  b2 : burst ≤ 1073741824
  c1 : 1 ≤ clients
  c2 : clients ≤ 1000
theorem bnew_c (hb : BOk per burst clients) : Triple Tryz.prog 24 #[ag (rtc per burst (clients : Int))] [] (RNewB per burst clients) := bnew_t per burst clients hb.p1 hb.p2 hb.b1 hb.b2 hb.c1 hb.c2
theorem take_c (hb : BOk per burst clients) (gB m : Nat) {f : Nat → Option Ch} {L : List Nd} {M : List (Pf × Option Nat)} (hI : BkI burst clients L M f) {D : List Cl} (hL : L.map (·.2) = D) (p : Pf) (n now : Int) (hp : in64 p.2) (n1 : 0 ≤ now) (n2 : now < 18446744073709551616) {D' : List Cl} {r : Bool} (ht : takeD per burst clients D p n now = (D', r)) :
    Triple Tryz.prog 35 #[hP' gB, ag (pfxc p), .int .i64 n, .int .u64 now] [bx gB 134 (bkc (hdO none L) (lsO none L) per burst (clients : Int) m), mp prM m M, pool 150 f] (RBk gB m per burst clients D' (.bool r)) := by
  have h := take_t gB m per burst clients f L M hI p n now hp n1 n2 hb.p1 hb.p2 (by have := hb.b1; omega) hb.b2 hb.c1
  rw [hL, ht] at h
  exact h
end
def bpz : Pf := (Adr.zero, 0)
/-- What is asked. -/
structure Ac where
  k : Int
  p : Pf
  n : Int
  now : Int
abbrev acC (a : Ac) : Ch := [(1, [.int .i64 a.k]), (1, [.bool a.p.1.six]), (16, u8s a.p.1.b), (1, [.int .i64 a.p.2]), (1, [.int .i64 a.n]), (1, [.int .u64 a.now])]
def acOk (a : Ac) : Prop := in64 a.k ∧ in64 a.p.2 ∧ in64 a.n ∧ 0 ≤ a.now ∧ a.now < 18446744073709551616
end Go.Proofs.YtpilenbdimhegaaGreatDoor
/- Sorted by Go's library: slices.SortFunc at structs, slices.Sort at ints, in separation's words. -/
namespace Go.Proofs.YtpilenbdimhegaaGreatDoor
open Go.RowKit Go.Sort Go.Lib Go.Shelf
set_option linter.unusedSimpArgs false
set_option linter.unusedVariables false
set_option linter.unusedSectionVars false

theorem grown_of_mod {T : Nat → Prop} {w w' : World} (hT : ∀ g, ¬ T g) (h : Mod T w w') : ∃ q os, w' = Sort.grow (w.drewN q) os := by
  refine ⟨w'.drawn - w.drawn, w'.heap.extract w.heap.size w'.heap.size, ?_⟩
  have h1 : w'.heap = w.heap ++ w'.heap.extract w.heap.size w'.heap.size := by
    apply Array.ext_getElem?
    intro i
    by_cases hi : i < w.heap.size
    · rw [Array.getElem?_append_left hi]
      exact h.block i hi (hT i)
    · rw [Array.getElem?_append_right (by omega), Array.getElem?_extract]
      split
      · congr 1; omega
      · rw [Array.getElem?_eq_none (by omega)]
  have h2 := h.drawn
  have h3 := h.os
  have h4 := h.tape
  have h5 := h.output
  unfold Sort.grow World.drewN
  cases w with
  | mk a1 a2 a3 a4 a5 =>
    cases w' with
    | mk b1 b2 b3 b4 b5 =>
      simp only at h1 h2 h3 h4 h5 ⊢
      subst h3 h4 h5
      simp only [World.mk.injEq, and_self, and_true, true_and]
      exact ⟨h1, by omega⟩

section
variable {α : Type} [Inhabited α] {enc : α → List Value} {k : Nat}
theorem flen (hk : ∀ x, (enc x).length = k) (l : List α) : (l.map enc).flatten.length = l.length * k := by
  induction l with
  | nil => simp
  | cons a l ih => rw [List.map_cons, List.flatten_cons, List.length_append, ih, hk, List.length_cons, Nat.succ_mul, Nat.add_comm]
theorem flat_get (hk : ∀ x, (enc x).length = k) : ∀ (l : List α) (t : Nat), t < l.length * k → (l.map enc).flatten[t]? = (enc l[t / k]!)[t % k]?
  | [], t, h => by simp at h
  | a :: l, t, h => by
    have k0 : 0 < k := by rcases Nat.eq_zero_or_pos k with h0 | h0; · subst h0; simp at h
                          · exact h0
    rw [List.map_cons, List.flatten_cons]
    by_cases ht : t < k
    · rw [List.getElem?_append_left (by rw [hk]; exact ht), Nat.div_eq_of_lt ht, Nat.mod_eq_of_lt ht]; rfl
    · obtain ⟨s, rfl⟩ : ∃ s, t = s + k := ⟨t - k, by omega⟩
      rw [List.getElem?_append_right (by rw [hk]; omega), hk, Nat.add_sub_cancel, flat_get hk l s (by rw [List.length_cons, Nat.succ_mul] at h; omega), Nat.add_div_right _ k0, Nat.add_mod_right]
      rfl
theorem flatK_eq (hk : ∀ x, (enc x).length = k) (l : List α) : Go.Sort.flatK enc k l.toArray = (l.map enc).flatten.toArray := by
  have hl : (l.map enc).flatten.length = l.length * k := flen hk l
  apply ext_get!
  · rw [size_flatK]; simp only [List.size_toArray]; exact hl.symm
  · intro t ht
    rw [size_flatK] at ht
    simp only [List.size_toArray] at ht
    rw [get_flatK enc k _ t (by simpa using ht)]
    have h1 := flat_get hk l t ht
    have h2 : (l.map enc).flatten.toArray[t]! = (l.map enc).flatten[t]! := by simp
    have k0 : 0 < k := by rcases Nat.eq_zero_or_pos k with h0 | h0; · subst h0; simp at ht
                          · exact h0
    have hm : t % k < (enc l[t / k]!).length := by rw [hk]; exact Nat.mod_lt _ k0
    rw [h2, show l.toArray[t / k]! = l[t / k]! by simp]
    generalize enc l[t / k]! = A at h1
    generalize (l.map enc).flatten = B at h1
    rw [List.getElem!_eq_getElem?_getD, List.getElem!_eq_getElem?_getD, h1]

/-- How a row of one's own lies, as the sort's laws ask it. -/
theorem row_holds {w : World} {g k : Nat} {cur : Array Value} {T : TypeId} {xs : List Value} (hb : w.heap[g]? = some (.cells cur T (0, 0))) (ht : cur.toList.take xs.length = xs) : Sort.Holds id w g 0 xs.toArray := by
  intro j hj
  have hj' : j < xs.length := by simpa using hj
  refine ⟨?_, by simp [World.frozen?, hb]⟩
  have h1 : (cur.toList.take xs.length)[j]? = xs[j]? := by rw [ht]
  rw [List.getElem?_take_of_lt hj'] at h1
  simp only [World.cell?, hb, Nat.zero_add]
  simp only [Option.isSome_none, Bool.false_eq_true, if_false]
  rw [← Array.getElem?_toList, h1]
  simp [hj']
theorem row_put {w : World} {g n : Nat} {os : Array Obj} {cur : Array Value} {T : TypeId} {k cap m : Nat} {ys : List Value} (hb : w.heap[g]? = some (.cells cur T (0, 0))) (h1 : m ≤ cap) (h2 : cap ≤ maxLen) (h3 : cur.size = cap * k) (hl : ys.length = m * k) (Q : Nat → Prop) (hQ : Q g) :
    (rowN T k (.slice (some ⟨g, 0, none⟩) m cap) m ys).holds (Sort.grow (putRow id (Sort.ahead w n) g 0 ys.toArray) os) ∧ Mod Q w (Sort.grow (putRow id (Sort.ahead w n) g 0 ys.toArray) os) := by
  have hg : g < w.heap.size := (Array.getElem?_eq_some_iff.1 hb).1
  have hle : m * k ≤ cap * k := Nat.mul_le_mul_right k h1
  constructor
  · refine ⟨hl, .inr ⟨g, cap, putCells id 0 ys.toArray cur, rfl, Nat.zero_le _, ?_, h1, h2, by simp [putCells, h3], ?_⟩⟩
    · rw [heap_grow_old _ _ (by simpa using hg)]
      simp [putRow, mapBlock, Sort.ahead, Array.getElem?_modify, hb, onCells]
    · apply List.ext_getElem?
      intro j
      by_cases hj : j < m * k
      · rw [List.getElem?_take_of_lt hj, Array.getElem?_toList]
        simp [putCells, hl, hj, show j < cur.size by omega, show j < ys.length by omega]
      · rw [List.getElem?_take_eq_none (by omega), List.getElem?_eq_none (by omega)]
  · refine ⟨rfl, rfl, rfl, by simp, Nat.le_add_right _ _, fun j hj hn => ?_⟩
    rw [heap_grow_old _ _ (by simpa using hj)]
    have : g ≠ j := fun e => hn (e ▸ hQ)
    simp [putRow, mapBlock, Sort.ahead, Array.getElem?_modify, this]
end
section
variable {P : Program} {ρ : Ren} {α : Type} [Inhabited α]
theorem enters_isCode {g : FuncId} (hc : isCode P g = true) (args : Array Value) (w : World) : (callFunc g args).run P w = .ok (.enter g args) w := by
  unfold isCode at hc
  cases hf : P.funcs[g]? with
  | none => rw [hf] at hc; cases hc
  | some fn =>
    rw [hf] at hc
    simp only [Bool.and_eq_true, decide_eq_true_eq] at hc
    obtain ⟨h1, h2⟩ := hc
    obtain ⟨b, hb⟩ := Option.isSome_iff_exists.1 h2
    simp [callFunc, Sem.run_bind, hf, h1, hb, go_sem]
theorem not_own {g : Nat} : ¬ ownFp [] g := by rintro ⟨A, hA, _⟩; cases hA
def intsV (l : List Int) : List Value := l.map (Value.int .i64)
end
end Go.Proofs.YtpilenbdimhegaaGreatDoor
