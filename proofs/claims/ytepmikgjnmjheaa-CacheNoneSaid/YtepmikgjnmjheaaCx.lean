/- Layer 5 (cache): contracts: victim, room. -/
import Derived.Test.YtepmikgjnmjheaaCw
namespace Go.Proofs.Ytepmikgjnmjheaa
open Go.RowKit
set_option linter.unusedSimpArgs false
set_option linter.unusedVariables false
set_option maxRecDepth 20000
set_option maxHeartbeats 4000000
attribute [local irreducible] WPc WPl WPq ReadR OpT BinR HasS bx rdN rowN Take Takes Prov Triple ResF BuildP Done ag Int.decLt Int.decLe Int.instDecidableEq
attribute [local irreducible] mp rmp rg rgo bag vrow secs mput mget mfind mdel intsV skeys vault frs
def unuse (f : Frm) : Frm := { f with used := false }
/-- What victim does: frames, the one that is found, the hand behind it. -/
def vicF (m : Nat) : Nat → List Frm → Nat → List Frm × Option (Nat × Nat)
  | 0, fs, _ => (fs, none)
  | t + 1, fs, k => match fs[k]? with
    | none => (fs, none)
    | some f => if 0 < f.pins then vicF m t fs ((k + 1) % m) else if f.used = true then vicF m t (fs.set k (unuse f)) ((k + 1) % m) else (fs, some (k, (k + 1) % m))
theorem vicF_len {m : Nat} : ∀ {t : Nat} {fs : List Frm} {k : Nat}, (vicF m t fs k).1.length = fs.length
  | 0, _, _ => rfl
  | t + 1, fs, k => by
    unfold vicF
    split
    · rfl
    · split
      · exact vicF_len
      · split
        · rw [vicF_len, List.length_set]
        · rfl
def vhand (h0 : Nat) (o : Option (Nat × Nat)) : Nat := match o with | some x => x.2 | none => h0
section
variable (gK gV : Nat) (vF : Value) (hand : Nat) (fs : List Frm)
theorem victim_t (m : Nat) (hm0 : 0 < m) (hm : m ≤ 1000) (hl : fs.length = m) (hh : hand < m) : Triple Try.prog 74 #[hC gK] [bx gK 86 (cxc gV vF (hand : Int)), rowN 90 6 vF m (frs fs)] (RTurns (fptr vF ((vicF m (2 * m) fs hand).2.map (·.1))) [bx gK 86 (cxc gV vF (vhand hand (vicF m (2 * m) fs hand).2 : Int)), rowN 90 6 vF m (frs (vicF m (2 * m) fs hand).1)]) := by
  have hmul : (2 : Int) * (m : Int) = ((2 * m : Nat) : Int) := by omega
  refine Triple.enter Try.func74 rfl Try.ntmps74 rfl (fun W => ?_)
  dsimp only [argsF, Nat.reduceAdd]
  repeat' (first
   | refine WPl.nil ?_ | refine WPq.then ?_ | refine WPq.thenR ?_ | refine WPq.thenE ?_ | refine WPq.blockN ?_ | refine WPq.blockR ?_ | refine WPq.blockE ?_ | refine WPq.blockO rfl ?_ | refine WPc.seq ?_ | refine WPc.block ?_ | refine WPc.ret ?_ | refine WPc.exit ?_ | refine WPc.skip ?_ | refine WPc.region ?_
   | (refine isCond ?_; first | refine WPc.cT ?_ | refine WPc.cF ?_ | (refine WPc.cQ (fun hc => ?_) (fun hc => ?_) <;> try exact prA))
   | (refine isD 14 ?_; refine WPl.rdX (ReadR.binE rfl rfl (BinR.mulI (by omega) (by omega)) (congrArg (Value.int .i64) hmul)) ?_)
   | (refine isOp ?_; first | refine WPl.rd ?_ | refine WPl.sk ?_ | refine WPl.rdB ?_)
   | (refine isSt ?_; first | refine WPl.st1 ?_ | refine WPl.stA ?_ | refine WPl.stEB ?_ | refine WPl.stRB ?_)
   | (show WPl _ _ _ _ _ _ _ (⟨_, .indexAddr _ _ _, _, _, _, _⟩ :: _) _; refine WPl.rdX (ReadR.indexE rfl rfl hasA (by first | assumption | omega)) ?_)
   | (show WPl _ _ _ _ _ _ _ (⟨_, .fieldAddr _ _ _, _, _, _, _⟩ :: _) _; refine WPl.rdX (ReadR.fieldE rfl hasA (by first | assumption | omega)) ?_)
   | (show WPl _ _ _ _ _ _ _ (⟨_, .load _ _, _, _, _, _⟩ :: _) _; first | refine WPl.rdX (ReadR.loadE rfl hasA (by assumption)) ?_ | refine WPl.rdX (ReadR.loadES (by assumption) (by first | assumption | omega) rfl hasA) ?_)
   | (show WPl _ _ _ _ _ _ _ (⟨_, .slice _ _ _ _ _, _, _, _, _⟩ :: _) _; first | refine WPl.rdX (ReadR.sliceH rfl rfl hasA (by omega)) ?_ | refine WPl.rdX (ReadR.sliceL rfl rfl hasA (by omega)) ?_ | refine WPl.rdX (ReadR.sliceLH rfl rfl rfl hasA (by omega) (by omega)) ?_)
   | (refine WPl.spQ (fun hc => ?_) (fun hc => ?_) <;> try exact prA)
   | fail)
  first | refine WPc.loop (σ := Nat × List Frm × Nat) (fun st => st.1 ≤ 2 * m ∧ st.2.1.length = m ∧ st.2.2 < m ∧ vicF m (2 * m) fs hand = vicF m (2 * m - st.1) st.2.1 st.2.2) (fun st => [bx gK 86 (cxc gV vF (hand : Int)), rowN 90 6 vF m (frs st.2.1)]) (fun st => [(0, hC gK), (3, .int .i64 (st.2.2 : Int)), (14, .int .i64 ((2 * m : Nat) : Int)), (15, .int .i64 (st.1 : Int))]) (fun st => 2 * m - st.1) ((0, fs, hand)) ?_ takesA frsA (fun st km hx hk => ?_)
  · exact ⟨Nat.zero_le _, hl, hh, rfl⟩
  obtain ⟨i, g, k⟩ := st
  obtain ⟨hi, hgl, hkm2, heq⟩ := hx
  dsimp only at hi hgl hkm2 heq hk ⊢
  have hkm : km = 2 * m - i := hk
  clear hk
  have hL := frs_len (l := g)
  by_cases hlt : i < 2 * m
  · obtain ⟨f, hf⟩ : ∃ f, g[k]? = some f := ⟨_, List.getElem?_eq_getElem (by omega)⟩
    have c2 : (frs g)[k * 6 + 2]? = some (.bool f.used) := frs_cell hf (by omega)
    have c4 : (frs g)[k * 6 + 4]? = some (.int .i64 f.pins) := frs_cell hf (by omega)
    have hlt' : (i : Int) < ((2 * m : Nat) : Int) := by omega
    have hrem : ((k : Int) + 1) % (m : Int) = (((k + 1) % m : Nat) : Int) := by
      rw [Int.natCast_emod]; rfl
    have hnx : (k + 1) % m < m := Nat.mod_lt _ hm0
    obtain ⟨t, ht⟩ : ∃ t, 2 * m - i = t + 1 := ⟨2 * m - i - 1, by omega⟩
    have ht2 : 2 * m - (i + 1) = t := by omega
    have hv : vicF m (t + 1) g k = if 0 < f.pins then vicF m t g ((k + 1) % m) else if f.used = true then vicF m t (g.set k (unuse f)) ((k + 1) % m) else (g, some (k, (k + 1) % m)) := by
      show (match g[k]? with | none => _ | some f => _) = _
      rw [hf]
    rw [ht, hv] at heq
    by_cases hp : 0 < f.pins
    · rw [if_pos hp] at heq
      have hp' : f.pins > 0 := hp
      repeat' (first
       | refine WPl.nil ?_ | refine WPq.then ?_ | refine WPq.thenR ?_ | refine WPq.thenE ?_ | refine WPq.blockN ?_ | refine WPq.blockR ?_ | refine WPq.blockE ?_ | refine WPq.blockO rfl ?_ | refine WPc.seq ?_ | refine WPc.block ?_ | refine WPc.ret ?_ | refine WPc.exit ?_ | refine WPc.skip ?_ | refine WPc.region ?_
       | (refine isCond ?_; first | refine WPc.cT ?_ | refine WPc.cF ?_ | (refine WPc.cQ (fun hc => ?_) (fun hc => ?_) <;> try exact prA))
       | (refine isD 16 ?_; refine WPl.rdX (ReadR.binE rfl rfl BinR.lss (congrArg Value.bool (decide_eq_true hlt'))) ?_)
       | (refine isD 22 ?_; refine WPl.rdX (ReadR.indexE (i := k) rfl rfl hasA hkm2) ?_)
       | (refine isD 30 ?_; refine WPl.rdX (ReadR.binE rfl rfl (BinR.remK (by omega) (by omega)) (congrArg (Value.int .i64) hrem)) ?_)
       | (refine isD 39 ?_; refine WPl.rdX (ReadR.fieldE rfl hasA (by omega)) ?_)
       | (refine isD 40 ?_; refine WPl.rdX (ReadR.loadE rfl hasA c4) ?_)
       | (refine isD 41 ?_; refine WPl.rdX (ReadR.binE rfl rfl BinR.gtr (congrArg Value.bool (decide_eq_true hp'))) ?_)
       | (refine isOp ?_; first | refine WPl.rd ?_ | refine WPl.sk ?_ | refine WPl.rdB ?_)
       | (refine isSt ?_; first | refine WPl.st1 ?_ | refine WPl.stA ?_ | refine WPl.stEB ?_ | refine WPl.stRB ?_)
       | (show WPl _ _ _ _ _ _ _ (⟨_, .indexAddr _ _ _, _, _, _, _⟩ :: _) _; refine WPl.rdX (ReadR.indexE rfl rfl hasA (by first | assumption | omega)) ?_)
       | (show WPl _ _ _ _ _ _ _ (⟨_, .fieldAddr _ _ _, _, _, _, _⟩ :: _) _; refine WPl.rdX (ReadR.fieldE rfl hasA (by first | assumption | omega)) ?_)
       | (show WPl _ _ _ _ _ _ _ (⟨_, .load _ _, _, _, _, _⟩ :: _) _; first | refine WPl.rdX (ReadR.loadE rfl hasA (by assumption)) ?_ | refine WPl.rdX (ReadR.loadES (by assumption) (by first | assumption | omega) rfl hasA) ?_)
       | (show WPl _ _ _ _ _ _ _ (⟨_, .slice _ _ _ _ _, _, _, _, _⟩ :: _) _; first | refine WPl.rdX (ReadR.sliceH rfl rfl hasA (by omega)) ?_ | refine WPl.rdX (ReadR.sliceL rfl rfl hasA (by omega)) ?_ | refine WPl.rdX (ReadR.sliceLH rfl rfl rfl hasA (by omega) (by omega)) ?_)
       | (refine WPl.spQ (fun hc => ?_) (fun hc => ?_) <;> try exact prA)
       | fail)
      exact WPq.rnd (i + 1, g, (k + 1) % m) ⟨by omega, hgl, hnx, by rw [ht2]; exact heq⟩ (by omega)
    · rw [if_neg hp] at heq
      have hp' : ¬ f.pins > 0 := hp
      cases hu : f.used with
      | true =>
        rw [hu] at c2
        rw [if_pos hu] at heq
        have hs := frs_1 (f' := unuse f) (o := 2) (u := .bool false) hf (by omega) rfl
        repeat' (first
         | refine WPl.nil ?_ | refine WPq.then ?_ | refine WPq.thenR ?_ | refine WPq.thenE ?_ | refine WPq.blockN ?_ | refine WPq.blockR ?_ | refine WPq.blockE ?_ | refine WPq.blockO rfl ?_ | refine WPc.seq ?_ | refine WPc.block ?_ | refine WPc.ret ?_ | refine WPc.exit ?_ | refine WPc.skip ?_ | refine WPc.region ?_
         | (refine isCond ?_; first | refine WPc.cT ?_ | refine WPc.cF ?_ | (refine WPc.cQ (fun hc => ?_) (fun hc => ?_) <;> try exact prA))
         | (refine isD 16 ?_; refine WPl.rdX (ReadR.binE rfl rfl BinR.lss (congrArg Value.bool (decide_eq_true hlt'))) ?_)
         | (refine isD 22 ?_; refine WPl.rdX (ReadR.indexE (i := k) rfl rfl hasA hkm2) ?_)
         | (refine isD 30 ?_; refine WPl.rdX (ReadR.binE rfl rfl (BinR.remK (by omega) (by omega)) (congrArg (Value.int .i64) hrem)) ?_)
         | (refine isD 39 ?_; refine WPl.rdX (ReadR.fieldE rfl hasA (by omega)) ?_)
         | (refine isD 40 ?_; refine WPl.rdX (ReadR.loadE rfl hasA c4) ?_)
         | (refine isD 41 ?_; refine WPl.rdX (ReadR.binE rfl rfl BinR.gtr (congrArg Value.bool (decide_eq_false hp'))) ?_)
         | (refine isD 45 ?_; refine WPl.rdX (ReadR.fieldE rfl hasA (by omega)) ?_)
         | (refine isD 46 ?_; refine WPl.rdX (ReadR.loadE rfl hasA c2) ?_)
         | (refine isD 49 ?_; refine WPl.rdX (ReadR.fieldE rfl hasA (by omega)) ?_)
         | (show WPl _ _ _ _ _ _ _ (⟨_, .store _ (.tmp 49) _, _, _, _, _⟩ :: _) _; refine WPl.stEN (i := k * 6 + 2) (m := m) (xs := frs g) (by omega) ?_)
         | (refine isOp ?_; first | refine WPl.rd ?_ | refine WPl.sk ?_ | refine WPl.rdB ?_)
         | (refine isSt ?_; first | refine WPl.st1 ?_ | refine WPl.stA ?_ | refine WPl.stEB ?_ | refine WPl.stRB ?_)
         | (show WPl _ _ _ _ _ _ _ (⟨_, .indexAddr _ _ _, _, _, _, _⟩ :: _) _; refine WPl.rdX (ReadR.indexE rfl rfl hasA (by first | assumption | omega)) ?_)
         | (show WPl _ _ _ _ _ _ _ (⟨_, .fieldAddr _ _ _, _, _, _, _⟩ :: _) _; refine WPl.rdX (ReadR.fieldE rfl hasA (by first | assumption | omega)) ?_)
         | (show WPl _ _ _ _ _ _ _ (⟨_, .load _ _, _, _, _, _⟩ :: _) _; first | refine WPl.rdX (ReadR.loadE rfl hasA (by assumption)) ?_ | refine WPl.rdX (ReadR.loadES (by assumption) (by first | assumption | omega) rfl hasA) ?_)
         | (show WPl _ _ _ _ _ _ _ (⟨_, .slice _ _ _ _ _, _, _, _, _⟩ :: _) _; first | refine WPl.rdX (ReadR.sliceH rfl rfl hasA (by omega)) ?_ | refine WPl.rdX (ReadR.sliceL rfl rfl hasA (by omega)) ?_ | refine WPl.rdX (ReadR.sliceLH rfl rfl rfl hasA (by omega) (by omega)) ?_)
         | (refine WPl.spQ (fun hc => ?_) (fun hc => ?_) <;> try exact prA)
         | fail)
        rw [hs]
        exact WPq.rnd (i + 1, g.set k (unuse f), (k + 1) % m) ⟨by omega, by rw [List.length_set]; exact hgl, hnx, by rw [ht2]; exact heq⟩ (by omega)
      | false =>
        rw [hu] at c2
        rw [if_neg (by rw [hu]; simp)] at heq
        rw [heq]
        repeat' (first
         | refine WPl.nil ?_ | refine WPq.then ?_ | refine WPq.thenR ?_ | refine WPq.thenE ?_ | refine WPq.blockN ?_ | refine WPq.blockR ?_ | refine WPq.blockE ?_ | refine WPq.blockO rfl ?_ | refine WPc.seq ?_ | refine WPc.block ?_ | refine WPc.ret ?_ | refine WPc.exit ?_ | refine WPc.skip ?_ | refine WPc.region ?_
         | (refine isCond ?_; first | refine WPc.cT ?_ | refine WPc.cF ?_ | (refine WPc.cQ (fun hc => ?_) (fun hc => ?_) <;> try exact prA))
         | (refine isD 16 ?_; refine WPl.rdX (ReadR.binE rfl rfl BinR.lss (congrArg Value.bool (decide_eq_true hlt'))) ?_)
         | (refine isD 22 ?_; refine WPl.rdX (ReadR.indexE (i := k) rfl rfl hasA hkm2) ?_)
         | (refine isD 30 ?_; refine WPl.rdX (ReadR.binE rfl rfl (BinR.remK (by omega) (by omega)) (congrArg (Value.int .i64) hrem)) ?_)
         | (refine isD 39 ?_; refine WPl.rdX (ReadR.fieldE rfl hasA (by omega)) ?_)
         | (refine isD 40 ?_; refine WPl.rdX (ReadR.loadE rfl hasA c4) ?_)
         | (refine isD 41 ?_; refine WPl.rdX (ReadR.binE rfl rfl BinR.gtr (congrArg Value.bool (decide_eq_false hp'))) ?_)
         | (refine isD 45 ?_; refine WPl.rdX (ReadR.fieldE rfl hasA (by omega)) ?_)
         | (refine isD 46 ?_; refine WPl.rdX (ReadR.loadE rfl hasA c2) ?_)
         | (refine isOp ?_; first | refine WPl.rd ?_ | refine WPl.sk ?_ | refine WPl.rdB ?_)
         | (refine isSt ?_; first | refine WPl.st1 ?_ | refine WPl.stA ?_ | refine WPl.stEB ?_ | refine WPl.stRB ?_)
         | (show WPl _ _ _ _ _ _ _ (⟨_, .indexAddr _ _ _, _, _, _, _⟩ :: _) _; refine WPl.rdX (ReadR.indexE rfl rfl hasA (by first | assumption | omega)) ?_)
         | (show WPl _ _ _ _ _ _ _ (⟨_, .fieldAddr _ _ _, _, _, _, _⟩ :: _) _; refine WPl.rdX (ReadR.fieldE rfl hasA (by first | assumption | omega)) ?_)
         | (show WPl _ _ _ _ _ _ _ (⟨_, .load _ _, _, _, _, _⟩ :: _) _; first | refine WPl.rdX (ReadR.loadE rfl hasA (by assumption)) ?_ | refine WPl.rdX (ReadR.loadES (by assumption) (by first | assumption | omega) rfl hasA) ?_)
         | (show WPl _ _ _ _ _ _ _ (⟨_, .slice _ _ _ _ _, _, _, _, _⟩ :: _) _; first | refine WPl.rdX (ReadR.sliceH rfl rfl hasA (by omega)) ?_ | refine WPl.rdX (ReadR.sliceL rfl rfl hasA (by omega)) ?_ | refine WPl.rdX (ReadR.sliceLH rfl rfl rfl hasA (by omega) (by omega)) ?_)
         | (refine WPl.spQ (fun hc => ?_) (fun hc => ?_) <;> try exact prA)
         | fail)
        exact WPq.dTs
  · have hi2 : 2 * m - i = 0 := by omega
    rw [hi2] at heq
    rw [heq]
    have hlt' : ¬ (i : Int) < ((2 * m : Nat) : Int) := by omega
    repeat' (first
     | refine WPl.nil ?_ | refine WPq.then ?_ | refine WPq.thenR ?_ | refine WPq.thenE ?_ | refine WPq.blockN ?_ | refine WPq.blockR ?_ | refine WPq.blockE ?_ | refine WPq.blockO rfl ?_ | refine WPc.seq ?_ | refine WPc.block ?_ | refine WPc.ret ?_ | refine WPc.exit ?_ | refine WPc.skip ?_ | refine WPc.region ?_
     | (refine isCond ?_; first | refine WPc.cT ?_ | refine WPc.cF ?_ | (refine WPc.cQ (fun hc => ?_) (fun hc => ?_) <;> try exact prA))
     | (refine isD 16 ?_; refine WPl.rdX (ReadR.binE rfl rfl BinR.lss (congrArg Value.bool (decide_eq_false hlt'))) ?_)
     | (refine isOp ?_; first | refine WPl.rd ?_ | refine WPl.sk ?_ | refine WPl.rdB ?_)
     | (refine isSt ?_; first | refine WPl.st1 ?_ | refine WPl.stA ?_ | refine WPl.stEB ?_ | refine WPl.stRB ?_)
     | (show WPl _ _ _ _ _ _ _ (⟨_, .indexAddr _ _ _, _, _, _, _⟩ :: _) _; refine WPl.rdX (ReadR.indexE rfl rfl hasA (by first | assumption | omega)) ?_)
     | (show WPl _ _ _ _ _ _ _ (⟨_, .fieldAddr _ _ _, _, _, _, _⟩ :: _) _; refine WPl.rdX (ReadR.fieldE rfl hasA (by first | assumption | omega)) ?_)
     | (show WPl _ _ _ _ _ _ _ (⟨_, .load _ _, _, _, _, _⟩ :: _) _; first | refine WPl.rdX (ReadR.loadE rfl hasA (by assumption)) ?_ | refine WPl.rdX (ReadR.loadES (by assumption) (by first | assumption | omega) rfl hasA) ?_)
     | (show WPl _ _ _ _ _ _ _ (⟨_, .slice _ _ _ _ _, _, _, _, _⟩ :: _) _; first | refine WPl.rdX (ReadR.sliceH rfl rfl hasA (by omega)) ?_ | refine WPl.rdX (ReadR.sliceL rfl rfl hasA (by omega)) ?_ | refine WPl.rdX (ReadR.sliceLH rfl rfl rfl hasA (by omega) (by omega)) ?_)
     | (refine WPl.spQ (fun hc => ?_) (fun hc => ?_) <;> try exact prA)
     | fail)
    exact WPq.dTs
end
end Go.Proofs.Ytepmikgjnmjheaa
