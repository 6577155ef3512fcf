/- What the row of cachePlays_holds needs: part 12. -/
import Derived.Test.YtepmikgjnmjheaaKp11
/- Law CachePlays: the walk. -/
namespace Go.Proofs.Ytepmikgjnmjheaa
open Go.RowKit
set_option linter.unusedSimpArgs false
set_option linter.unusedVariables false
set_option maxRecDepth 20000
set_option maxHeartbeats 4000000
attribute [local irreducible] WPc WPl WPq ReadR OpT BinR HasS bx rdN rowN Take Takes Prov Triple ResF BuildP Done ag Int.decLt Int.decLe Int.instDecidableEq
attribute [local irreducible] mp rmp rg rgo bag vrow secs mput mget mfind mdel intsV skeys vault pickG fburn fb1 valsV zAt zB vers crashT intsN frs rfs those dl kas
noncomputable abbrev SB5 (gK gV : Nat) (vF : Value) (mD : Nat) (vd : Value) (gY gX n m p k : Nat) (e : Env) : St5 := pickG (fun s : St5 => both5 gK gV vF mD vd gY gX s) (fun s => Ok5 n m p k s) (e 7).2
section
variable (gK gV : Nat) (vF : Value) (mD : Nat) (vd : Value) (gY gX n m p k : Nat) (s : St5)
theorem chS_t (h : Ok5 n m p k s) (hm : m ≤ 64) : Triple Try.prog 33 #[hC gK] [rbx gK 86 (cxc gV vF (s.C.hand : Int)), rdN vF s.C.fs.length (frs s.C.fs)] (RRow 3 1 (those n s.K.vw false).length (intsV (those n s.K.vw false))) := by
  have c := cheld_t gK gV vF n m p s.C h.ci hm
  rw [h.cv, held_those h.uq h.ki.rn] at c
  exact c
theorem cdS_t (h : Ok5 n m p k s) (hm : m ≤ 64) : Triple Try.prog 40 #[hC gK] [rbx gK 86 (cxc gV vF (s.C.hand : Int)), rdN vF s.C.fs.length (frs s.C.fs)] (RRow 3 1 (those n s.K.vw true).length (intsV (those n s.K.vw true))) := by
  have c := cdirty_t gK gV vF n m p s.C h.ci hm
  rw [h.cv, dirty_those h.uq h.ki.rn] at c
  exact c
theorem khS_t (dq : Bool) (h : Ok5 n m p k s) (hm : m ≤ 64) (hn : n ≤ 100000) : Triple Try.prog 43 #[hC gY, .bool dq] (krO gY gX s.K s.R) (RRow 3 1 (those n s.K.vw dq).length (intsV (those n s.K.vw dq))) := kthose_t gY gX n m p s.K s.R dq h.ki h.ri.nl hm hn
theorem intS_t (L : List Int) (va vb : Value) (hL : L.length ≤ 24) : Triple Try.prog 23 #[va, vb] [rdN va L.length (intsV L), rdN vb L.length (intsV L)] (RVal (.bool true)) := by
  have c := ints_t va vb L L (by omega) (by omega)
  rw [decide_eq_true rfl] at c
  exact c
theorem ok5_cn (h : Ok5 n m p k s) : s.S.cn = s.R.wr := congrArg Dv.cn h.dv
end
theorem those24 {C : Cv} {d : Bool} : (those 24 C d).length ≤ 24 := those_len
theorem uq_new {m h : Nat} : Uq ⟨List.replicate m none, h⟩ := by
  intro i j f g hf
  have hf : (List.replicate m (none : Option Fp))[i]? = some (some f) := hf
  rw [List.getElem?_replicate] at hf
  split at hf <;> cases hf
theorem fail19 (D : Dv) : D.fail 1 9 = ({ D with fu := D.fu.set 1 9 }, 0) := by with_unfolding_all rfl
theorem rd_fail {D : Dv} (h4 : D.fu.length = 4) (j : Nat) : ({ D with fu := D.fu.set 1 9 } : Dv).rd j = (({ D with fu := D.fu.set 1 9 } : Dv).burn 1, (D.now j).b, 0) := by
  have hg : (D.fu.set 1 9).getD 1 0 = 9 := by rw [List.getD_eq_getElem?_getD, List.getElem?_set_self (by omega)]; rfl
  have hf : ({ D with fu := D.fu.set 1 9 } : Dv).fails 1 = false := by
    unfold Dv.fails
    rw [decide_eq_false_iff_not]
    show ¬ (D.fu.set 1 9).getD 1 0 = 0
    rw [hg]; omega
  unfold Dv.rd
  rw [if_neg (by rw [hf]; simp)]
  rfl
def sameNow (D E : Dv) : Prop := ∀ j : Nat, D.now j = E.now j
theorem cachePlays_t (n : Int) (v1 : Value) (l : List KA) (hl1 : ∀ x ∈ l, kaW x) :
    Triple Try.prog 11 #[.int .i64 n, v1] [rdN v1 l.length (kas l)] (RVal (.bool true)) := by
  have clv := clives_t
  have hL1 := kas_len (l := l)
  have c15 := dnew_t 24 (by omega) (by omega)
  by_cases hr : n < 8 ∨ 64 < n
  · have c21 := fun gV => cnewNo_t gV n hr
    by_cases h8 : n < 8
    · skip
      refine Triple.enter Try.func11 rfl Try.ntmps11 rfl (fun W => ?_)
      dsimp only [argsF, Nat.reduceAdd]
      repeat' (first
       | refine WPl.nil ?_ | refine WPq.then ?_ | refine WPq.thenR ?_ | refine WPq.thenE ?_ | refine WPq.blockN ?_ | refine WPq.blockR ?_ | refine WPq.blockE ?_ | refine WPq.blockO rfl ?_ | refine WPc.seq ?_ | refine WPc.block ?_ | refine WPc.ret ?_ | refine WPc.exit ?_ | refine WPc.skip ?_ | refine WPc.region ?_
       | (refine isCond ?_; first | refine WPc.cT ?_ | refine WPc.cF ?_ | (refine WPc.cQ (fun hc => ?_) (fun hc => ?_) <;> try exact prA))
       | (refine isC 15 ?_; refine WPl.cXs (c15) fun v Γ1 hR => ?_; obtain ⟨gV, mD, vd, S, rfl, hvd, hS, hSi, rfl⟩ := hR; (try dsimp only [putF, List.cons_append, List.nil_append]))
       | (refine isC 21 ?_; refine WPl.cV (c21 _) ?_ (hΔ := provsG))
       | (refine isD 25 ?_; refine WPl.rdX (ReadR.binE rfl rfl BinR.lss (congrArg Value.bool (decide_eq_true h8))) ?_)
       | (refine isD 31 ?_; refine WPl.rdX (readP) ?_)
       | (refine isD 34 ?_; refine WPl.rdX (ReadR.binE rfl rfl BinR.eql (congrArg Value.bool (decide_eq_true rfl))) ?_)
       | (refine isC 37 ?_; refine WPl.cV (clv) ?_)
       | (refine isOp ?_; first | refine WPl.rd ?_ | refine WPl.sk ?_ | refine WPl.rdB ?_)
       | (show WPl _ _ _ _ _ _ _ (⟨_, .indexAddr _ _ _, _, _, _, _⟩ :: _) _; refine WPl.rdX (ReadR.indexE rfl rfl hasA (by first | assumption | omega)) ?_)
       | (show WPl _ _ _ _ _ _ _ (⟨_, .fieldAddr _ _ _, _, _, _, _⟩ :: _) _; refine WPl.rdX (ReadR.fieldE rfl hasA (by first | assumption | omega)) ?_)
       | (show WPl _ _ _ _ _ _ _ (⟨_, .load _ _, _, _, _, _⟩ :: _) _; first | refine WPl.rdX (ReadR.loadE rfl hasA (by assumption)) ?_ | refine WPl.rdX (ReadR.loadES (by assumption) (by first | assumption | omega) rfl hasA) ?_)
       | (show WPl _ _ _ _ _ _ _ (⟨_, .slice _ _ _ _ _, _, _, _, _⟩ :: _) _; first | refine WPl.rdX (ReadR.sliceH rfl rfl hasA (by omega)) ?_ | refine WPl.rdX (ReadR.sliceL rfl rfl hasA (by omega)) ?_ | refine WPl.rdX (ReadR.sliceLH rfl rfl rfl hasA (by omega) (by omega)) ?_)
       | (refine WPl.spQ (fun hc => ?_) (fun hc => ?_) <;> try exact prA)
       | fail)
      exact WPq.dV
    · have h65 : n > 64 := by omega
      refine Triple.enter Try.func11 rfl Try.ntmps11 rfl (fun W => ?_)
      dsimp only [argsF, Nat.reduceAdd]
      repeat' (first
       | refine WPl.nil ?_ | refine WPq.then ?_ | refine WPq.thenR ?_ | refine WPq.thenE ?_ | refine WPq.blockN ?_ | refine WPq.blockR ?_ | refine WPq.blockE ?_ | refine WPq.blockO rfl ?_ | refine WPc.seq ?_ | refine WPc.block ?_ | refine WPc.ret ?_ | refine WPc.exit ?_ | refine WPc.skip ?_ | refine WPc.region ?_
       | (refine isCond ?_; first | refine WPc.cT ?_ | refine WPc.cF ?_ | (refine WPc.cQ (fun hc => ?_) (fun hc => ?_) <;> try exact prA))
       | (refine isC 15 ?_; refine WPl.cXs (c15) fun v Γ1 hR => ?_; obtain ⟨gV, mD, vd, S, rfl, hvd, hS, hSi, rfl⟩ := hR; (try dsimp only [putF, List.cons_append, List.nil_append]))
       | (refine isC 21 ?_; refine WPl.cV (c21 _) ?_ (hΔ := provsG))
       | (refine isD 25 ?_; refine WPl.rdX (ReadR.binE rfl rfl BinR.lss (congrArg Value.bool (decide_eq_false h8))) ?_)
       | (refine isD 28 ?_; refine WPl.rdX (ReadR.binE rfl rfl BinR.gtr (congrArg Value.bool (decide_eq_true h65))) ?_)
       | (refine isD 31 ?_; refine WPl.rdX (readP) ?_)
       | (refine isD 34 ?_; refine WPl.rdX (ReadR.binE rfl rfl BinR.eql (congrArg Value.bool (decide_eq_true rfl))) ?_)
       | (refine isC 37 ?_; refine WPl.cV (clv) ?_)
       | (refine isOp ?_; first | refine WPl.rd ?_ | refine WPl.sk ?_ | refine WPl.rdB ?_)
       | (show WPl _ _ _ _ _ _ _ (⟨_, .indexAddr _ _ _, _, _, _, _⟩ :: _) _; refine WPl.rdX (ReadR.indexE rfl rfl hasA (by first | assumption | omega)) ?_)
       | (show WPl _ _ _ _ _ _ _ (⟨_, .fieldAddr _ _ _, _, _, _, _⟩ :: _) _; refine WPl.rdX (ReadR.fieldE rfl hasA (by first | assumption | omega)) ?_)
       | (show WPl _ _ _ _ _ _ _ (⟨_, .load _ _, _, _, _, _⟩ :: _) _; first | refine WPl.rdX (ReadR.loadE rfl hasA (by assumption)) ?_ | refine WPl.rdX (ReadR.loadES (by assumption) (by first | assumption | omega) rfl hasA) ?_)
       | (show WPl _ _ _ _ _ _ _ (⟨_, .slice _ _ _ _ _, _, _, _, _⟩ :: _) _; first | refine WPl.rdX (ReadR.sliceH rfl rfl hasA (by omega)) ?_ | refine WPl.rdX (ReadR.sliceL rfl rfl hasA (by omega)) ?_ | refine WPl.rdX (ReadR.sliceLH rfl rfl rfl hasA (by omega) (by omega)) ?_)
       | (refine WPl.spQ (fun hc => ?_) (fun hc => ?_) <;> try exact prA)
       | fail)
      exact WPq.dV
  · obtain ⟨m, hN⟩ : ∃ m : Nat, n = (m : Int) := ⟨n.toNat, by omega⟩
    subst hN
    have h8 : 8 ≤ m := by omega
    have hm : m ≤ 64 := by omega
    have c21 := fun gV => cnew_t gV m h8 hm
    have c49 := rnew_t 24 (by omega)
    have c51 := fun gX => knew_t gX m h8 hm
    refine Triple.enter Try.func11 rfl Try.ntmps11 rfl (fun W => ?_)
    dsimp only [argsF, Nat.reduceAdd]
    repeat' (first
     | refine WPl.nil ?_ | refine WPq.then ?_ | refine WPq.thenR ?_ | refine WPq.thenE ?_ | refine WPq.blockN ?_ | refine WPq.blockR ?_ | refine WPq.blockE ?_ | refine WPq.blockO rfl ?_ | refine WPc.seq ?_ | refine WPc.block ?_ | refine WPc.ret ?_ | refine WPc.exit ?_ | refine WPc.skip ?_ | refine WPc.region ?_
     | (refine isCond ?_; first | refine WPc.cT ?_ | refine WPc.cF ?_ | (refine WPc.cQ (fun hc => ?_) (fun hc => ?_) <;> try exact prA))
     | (refine isC 15 ?_; refine WPl.cXs (c15) fun v Γ1 hR => ?_; obtain ⟨gV, mD, vd, S, rfl, hvd, hS, hSi, rfl⟩ := hR; (try dsimp only [putF, List.cons_append, List.nil_append]))
     | (refine isC 21 ?_; refine WPl.cXs (c21 gV) fun v Γ1 hR => ?_; obtain ⟨gK, vF, C, rfl, hvF, hC0, hCi, rfl⟩ := hR; (try dsimp only [putF, List.cons_append, List.nil_append]))
     | (refine isD 25 ?_; refine WPl.rdX (ReadR.binE rfl rfl BinR.lss (congrArg Value.bool (decide_eq_false (show ¬ (m : Int) < 8 by omega)))) ?_)
     | (refine isD 28 ?_; refine WPl.rdX (ReadR.binE rfl rfl BinR.gtr (congrArg Value.bool (decide_eq_false (show ¬ (m : Int) > 64 by omega)))) ?_)
     | (refine isD 40 ?_; refine WPl.rdX (readP) ?_)
     | (refine isD 43 ?_; refine WPl.rdX (readP) ?_)
     | (refine isD 47 ?_; refine WPl.rdX (ReadR.binE rfl rfl BinR.neq (congrArg (fun q => Value.bool (!q)) (decide_eq_true (rfl : (0 : Int) = 0)))) ?_)
     | (refine isC 49 ?_; refine WPl.cXs (c49) fun v Γ1 hR => ?_; obtain ⟨gX, R, rfl, hR0, hRi, rfl⟩ := hR; (try dsimp only [putF, List.cons_append, List.nil_append]))
     | (refine isC 51 ?_; refine WPl.cXs (c51 gX) fun v Γ1 hR => ?_; obtain ⟨gY, K, rfl, hK0, hKi, rfl⟩ := hR; (try dsimp only [putF, List.cons_append, List.nil_append]))
     | (refine isOp ?_; first | refine WPl.rd ?_ | refine WPl.sk ?_ | refine WPl.rdB ?_)
     | (show WPl _ _ _ _ _ _ _ (⟨_, .indexAddr _ _ _, _, _, _, _⟩ :: _) _; refine WPl.rdX (ReadR.indexE rfl rfl hasA (by first | assumption | omega)) ?_)
     | (show WPl _ _ _ _ _ _ _ (⟨_, .fieldAddr _ _ _, _, _, _, _⟩ :: _) _; refine WPl.rdX (ReadR.fieldE rfl hasA (by first | assumption | omega)) ?_)
     | (show WPl _ _ _ _ _ _ _ (⟨_, .load _ _, _, _, _, _⟩ :: _) _; first | refine WPl.rdX (ReadR.loadE rfl hasA (by assumption)) ?_ | refine WPl.rdX (ReadR.loadES (by assumption) (by first | assumption | omega) rfl hasA) ?_)
     | (show WPl _ _ _ _ _ _ _ (⟨_, .slice _ _ _ _ _, _, _, _, _⟩ :: _) _; first | refine WPl.rdX (ReadR.sliceH rfl rfl hasA (by omega)) ?_ | refine WPl.rdX (ReadR.sliceL rfl rfl hasA (by omega)) ?_ | refine WPl.rdX (ReadR.sliceLH rfl rfl rfl hasA (by omega) (by omega)) ?_)
     | (refine WPl.spQ (fun hc => ?_) (fun hc => ?_) <;> try exact prA)
     | fail)
    first | refine WPc.loop (σ := Nat × St5) (fun st => st.1 ≤ 60 ∧ Ok5 24 m st.1 (st.1 * 64) st.2) (fun st => [rdN v1 l.length (kas l), bx gK 86 (cxc gV vF (st.2.C.hand : Int)), rowN 90 6 vF st.2.C.fs.length (frs st.2.C.fs), vault st.2.C.rs, bx gV 79 (dvc st.2.S.fu vd mD st.2.S.cn), rowN 81 256 vd st.2.S.ls.length (secs st.2.S.ls), mp secM mD st.2.S.es, bag st.2.S.es, bx gY 73 (krc gX st.2.K.v (st.2.K.hand : Int)), rowN 97 5 st.2.K.v st.2.K.fs.length (rfs st.2.K.fs), bx gX 51 (rdc st.2.R.vL st.2.R.vA st.2.R.vB st.2.R.fu st.2.R.wr), rowN 31 1 st.2.R.vL st.2.R.L.length (valsV st.2.R.L), rowN 3 1 st.2.R.vA st.2.R.Z.length (intsV (zAt st.2.R.Z)), rowN 31 1 st.2.R.vB st.2.R.Z.length (valsV (zB st.2.R.Z)), vault st.2.R.rs]) (fun st => [(1, v1), (5, hD gV), (7, hC gK), (9, hC gY), (10, .int .i64 (st.1 : Int))]) (fun st => 60 - st.1) ((0, ⟨C, S, K, R⟩)) ?_ takesA frsA (fun st km hx hk => ?_)
    · exact ⟨Nat.zero_le _, hC0.trans hK0.symm, hS.trans hR0.symm, hCi 24, hSi, hKi 24 R.rs, hRi, by rw [hK0]; exact uq_new⟩
    clear c15 c21 c49 c51 hC0 hK0 hS hR0 hCi hSi hKi hRi
    obtain ⟨i, s0⟩ := st
    obtain ⟨hi, hok⟩ := hx
    dsimp only at hi hok hk ⊢
    have hkm : km = 60 - i := hk
    clear hk
    obtain ⟨C, S, K, R⟩ := s0
    by_cases hin : i < l.length ∧ i < 60
    · obtain ⟨hil, hi60⟩ := hin
      obtain ⟨x, hx⟩ : ∃ x, l[i]? = some x := ⟨_, List.getElem?_eq_getElem hil⟩
      have hxp := kas_at hx
      have hil' : (i : Int) < (l.length : Int) := by omega
      have hi60' : (i : Int) < 60 := by omega
      have c69 := does5_t gK gV vF mD vd gY gX 24 m i (i * 64) C S K R x hok.ci hok.di hok.ki hok.ri hok.cv hok.dv hok.uq (by omega) h8 hm (by omega) (by omega) (hl1 x (List.mem_of_getElem? hx))
      rw [show i * 64 + 64 = (i + 1) * 64 by omega] at c69
      have hv69 : ∀ v Γ', RB5 gK gV vF mD vd gY gX 24 m (i + 1) ((i + 1) * 64) v Γ' → v = .bool true ∧ ∃ s : St5, Γ' = both5 gK gV vF mD vd gY gX s ∧ Ok5 24 m (i + 1) ((i + 1) * 64) s := fun v Γ' ⟨s, h1, h2, h3⟩ => ⟨h1, s, h3, h2⟩
      clear hok
      repeat' (first
       | refine WPl.nil ?_ | refine WPq.then ?_ | refine WPq.thenR ?_ | refine WPq.thenE ?_ | refine WPq.blockN ?_ | refine WPq.blockR ?_ | refine WPq.blockE ?_ | refine WPq.blockO rfl ?_ | refine WPc.seq ?_ | refine WPc.block ?_ | refine WPc.ret ?_ | refine WPc.exit ?_ | refine WPc.skip ?_ | refine WPc.region ?_
       | (refine isReg 11 ?_; refine WPc.drA [([37, 38, 39, 40, 41, 42, 43, 44, 45, 46, 47, 48, 49, 50], [63, 64, 65, 66, 67, 68]), ([37, 38, 39, 40, 41, 42, 43, 44, 45, 46, 47, 48, 49, 50], [62, 64, 65, 66, 67, 68]), ([37, 38, 39, 40, 41, 42, 43, 44, 45, 46, 47, 48, 49, 50], [62, 63, 65, 66, 67, 68]), ([37, 38, 39, 40, 41, 42, 43, 44, 45, 46, 47, 48, 49, 50], [62, 63, 64, 66]), ([37, 38, 39, 40, 41, 42, 43, 44, 45, 46, 47, 48, 49, 50], [62, 63, 64, 65]), ([3, 4, 37, 38, 39, 40, 41, 42, 43, 44, 45, 46, 47, 48, 49, 50], [62, 63, 64, 65, 66]), ([3, 4, 5, 37, 38, 39, 40, 41, 42, 43, 44, 45, 46, 47, 48, 49, 50], [62, 63, 64, 65, 66, 67]), ([0, 1, 2, 3, 4, 5, 6, 37, 38, 39, 40, 41, 42, 43, 44, 45, 46, 47, 48, 49, 50], [62, 63, 64, 65, 66, 67, 68]), ([0, 1, 2, 3, 4, 5, 6, 7, 37, 38, 39, 40, 41, 42, 43, 44, 45, 46, 47, 48, 49, 50], [62, 63, 64, 65, 66, 67, 68, 69]), ([0, 1, 2, 3, 4, 5, 6, 7, 8, 37, 38, 39, 40, 41, 42, 43, 44, 45, 46, 47, 48, 49, 50], [62, 63, 64, 65, 66, 67, 68, 69, 70]), ([0, 1, 2, 3, 4, 5, 6, 7, 8, 9, 37, 38, 39, 40, 41, 42, 43, 44, 45, 46, 47, 48, 49, 50], [62, 63, 64, 65, 66, 67, 68, 69, 70, 71, 74]), ([0, 1, 2, 3, 4, 5, 6, 7, 8, 9, 10, 37, 38, 39, 40, 41, 42, 43, 44, 45, 46, 47, 48, 49, 50], [62, 63, 64, 65, 66, 67, 68, 69, 70, 71, 72, 74]), ([0, 1, 2, 3, 4, 5, 6, 7, 8, 9, 37, 38, 39, 40, 41, 42, 43, 44, 45, 46, 47, 48, 49, 50], [62, 63, 64, 65, 66, 67, 68, 69, 70, 71, 72, 73]), ([0, 1, 2, 3, 4, 5, 6, 7, 8, 9, 10, 11, 12, 37, 38, 39, 40, 41, 42, 43, 44, 45, 46, 47, 48, 49, 50], [62, 63, 64, 65, 66, 67, 68, 69, 70, 71, 72, 73, 74]), ([0, 1, 2, 3, 4, 5, 6, 7, 8, 9, 10, 11, 12, 13, 37, 38, 39, 40, 41, 42, 43, 44, 45, 46, 47, 48, 49, 50], [62, 63, 64, 65, 66, 67, 68, 69, 70, 71, 72, 73, 74, 75]), ([0, 1, 2, 3, 4, 5, 6, 7, 8, 9, 10, 11, 12, 13, 14, 37, 38, 39, 40, 41, 42, 43, 44, 45, 46, 47, 48, 49, 50], [62, 63, 64, 65, 66, 67, 68, 69, 70, 71, 72, 73, 74, 75, 76]), ([0, 1, 2, 3, 4, 5, 6, 7, 8, 9, 10, 11, 12, 13, 14, 15, 37, 38, 39, 40, 41, 42, 43, 44, 45, 46, 47, 48, 49, 50], [62, 63, 64, 65, 66, 67, 68, 69, 70, 71, 72, 73, 74, 75, 76, 77]), ([0, 1, 2, 3, 4, 5, 6, 7, 8, 9, 10, 11, 12, 13, 14, 15, 16, 37, 38, 39, 40, 41, 42, 43, 44, 45, 46, 47, 48, 49, 50], [62, 63, 64, 65, 66, 67, 68, 69, 70, 71, 72, 73, 74, 75, 76, 77, 78]), ([0, 1, 2, 3, 4, 5, 6, 7, 8, 9, 10, 11, 12, 13, 14, 15, 16, 17, 37, 38, 39, 40, 41, 42, 43, 44, 45, 46, 47, 48, 49, 50], [62, 63, 64, 65, 66, 67, 68, 69, 70, 71, 72, 73, 74, 75, 76, 77, 78, 79, 82]), ([0, 1, 2, 3, 4, 5, 6, 7, 8, 9, 10, 11, 12, 13, 14, 15, 16, 17, 18, 37, 38, 39, 40, 41, 42, 43, 44, 45, 46, 47, 48, 49, 50], [62, 63, 64, 65, 66, 67, 68, 69, 70, 71, 72, 73, 74, 75, 76, 77, 78, 79, 80, 82]), ([0, 1, 2, 3, 4, 5, 6, 7, 8, 9, 10, 11, 12, 13, 14, 15, 16, 17, 37, 38, 39, 40, 41, 42, 43, 44, 45, 46, 47, 48, 49, 50], [62, 63, 64, 65, 66, 67, 68, 69, 70, 71, 72, 73, 74, 75, 76, 77, 78, 79, 80, 81]), ([0, 1, 2, 3, 4, 5, 6, 7, 8, 9, 10, 11, 12, 13, 14, 15, 16, 17, 18, 19, 20, 37, 38, 39, 40, 41, 42, 43, 44, 45, 46, 47, 48, 49, 50], [62, 63, 64, 65, 66, 67, 68, 69, 70, 71, 72, 73, 74, 75, 76, 77, 78, 79, 80, 81, 82]), ([0, 1, 2, 3, 4, 5, 6, 7, 8, 9, 10, 11, 12, 13, 14, 15, 16, 17, 18, 19, 20, 21, 37, 38, 39, 40, 41, 42, 43, 44, 45, 46, 47, 48, 49, 50], [62, 63, 64, 65, 66, 67, 68, 69, 70, 71, 72, 73, 74, 75, 76, 77, 78, 79, 80, 81, 82, 83]), ([0, 1, 2, 3, 4, 5, 6, 7, 8, 9, 10, 11, 12, 13, 14, 15, 16, 17, 18, 19, 20, 21, 22, 37, 38, 39, 40, 41, 42, 43, 44, 45, 46, 47, 48, 49, 50], [62, 63, 64, 65, 66, 67, 68, 69, 70, 71, 72, 73, 74, 75, 76, 77, 78, 79, 80, 81, 82, 83, 84]), ([0, 1, 2, 3, 4, 5, 6, 7, 8, 9, 10, 11, 12, 13, 14, 15, 16, 17, 18, 19, 20, 21, 22, 23, 37, 38, 39, 40, 41, 42, 43, 44, 45, 46, 47, 48, 49, 50], [62, 63, 64, 65, 66, 67, 68, 69, 70, 71, 72, 73, 74, 75, 76, 77, 78, 79, 80, 81, 82, 83, 84, 85]), ([0, 1, 2, 3, 4, 5, 6, 7, 8, 9, 10, 11, 12, 13, 14, 15, 16, 17, 18, 19, 20, 21, 22, 23, 24, 37, 38, 39, 40, 41, 42, 43, 44, 45, 46, 47, 48, 49, 50], [62, 63, 64, 65, 66, 67, 68, 69, 70, 71, 72, 73, 74, 75, 76, 77, 78, 79, 80, 81, 82, 83, 84, 85, 86]), ([0, 1, 2, 3, 4, 5, 6, 7, 8, 9, 10, 11, 12, 13, 14, 15, 16, 17, 18, 19, 20, 21, 22, 23, 24, 25, 37, 38, 39, 40, 41, 42, 43, 44, 45, 46, 47, 48, 49, 50], [62, 63, 64, 65, 66, 67, 68, 69, 70, 71, 72, 73, 74, 75, 76, 77, 78, 79, 80, 81, 82, 83, 84, 85, 86, 87, 90, 91, 92, 93, 94, 95, 96]), ([0, 1, 2, 3, 4, 5, 6, 7, 8, 9, 10, 11, 12, 13, 14, 15, 16, 17, 18, 19, 20, 21, 22, 23, 24, 25, 26, 37, 38, 39, 40, 41, 42, 43, 44, 45, 46, 47, 48, 49, 50], [62, 63, 64, 65, 66, 67, 68, 69, 70, 71, 72, 73, 74, 75, 76, 77, 78, 79, 80, 81, 82, 83, 84, 85, 86, 87, 88, 90, 91, 92, 93, 94, 95, 96]), ([0, 1, 2, 3, 4, 5, 6, 7, 8, 9, 10, 11, 12, 13, 14, 15, 16, 17, 18, 19, 20, 21, 22, 23, 24, 25, 37, 38, 39, 40, 41, 42, 43, 44, 45, 46, 47, 48, 49, 50], [62, 63, 64, 65, 66, 67, 68, 69, 70, 71, 72, 73, 74, 75, 76, 77, 78, 79, 80, 81, 82, 83, 84, 85, 86, 87, 88, 89]), ([0, 1, 2, 3, 4, 5, 6, 7, 8, 9, 10, 11, 12, 13, 14, 15, 16, 17, 18, 19, 20, 21, 22, 23, 24, 25, 28, 37, 38, 39, 40, 41, 42, 43, 44, 45, 46, 47, 48, 49, 50], [62, 63, 64, 65, 66, 67, 68, 69, 70, 71, 72, 73, 74, 75, 76, 77, 78, 79, 80, 81, 82, 83, 84, 85, 86, 87, 88, 89, 90]), ([0, 1, 2, 3, 4, 5, 6, 7, 8, 9, 10, 11, 12, 13, 14, 15, 16, 17, 18, 19, 20, 21, 22, 23, 24, 25, 28, 29, 37, 38, 39, 40, 41, 42, 43, 44, 45, 46, 47, 48, 49, 50], [62, 63, 64, 65, 66, 67, 68, 69, 70, 71, 72, 73, 74, 75, 76, 77, 78, 79, 80, 81, 82, 83, 84, 85, 86, 87, 88, 89, 90, 91]), ([0, 1, 2, 3, 4, 5, 6, 7, 8, 9, 10, 11, 12, 13, 14, 15, 16, 17, 18, 19, 20, 21, 22, 23, 24, 25, 28, 29, 30, 37, 38, 39, 40, 41, 42, 43, 44, 45, 46, 47, 48, 49, 50], [62, 63, 64, 65, 66, 67, 68, 69, 70, 71, 72, 73, 74, 75, 76, 77, 78, 79, 80, 81, 82, 83, 84, 85, 86, 87, 88, 89, 90, 91, 92]), ([0, 1, 2, 3, 4, 5, 6, 7, 8, 9, 10, 11, 12, 13, 14, 15, 16, 17, 18, 19, 20, 21, 22, 23, 24, 25, 28, 29, 30, 31, 37, 38, 39, 40, 41, 42, 43, 44, 45, 46, 47, 48, 49, 50], [62, 63, 64, 65, 66, 67, 68, 69, 70, 71, 72, 73, 74, 75, 76, 77, 78, 79, 80, 81, 82, 83, 84, 85, 86, 87, 88, 89, 90, 91, 92, 93]), ([0, 1, 2, 3, 4, 5, 6, 7, 8, 9, 10, 11, 12, 13, 14, 15, 16, 17, 18, 19, 20, 21, 22, 23, 24, 25, 28, 29, 30, 31, 32, 37, 38, 39, 40, 41, 42, 43, 44, 45, 46, 47, 48, 49, 50], [62, 63, 64, 65, 66, 67, 68, 69, 70, 71, 72, 73, 74, 75, 76, 77, 78, 79, 80, 81, 82, 83, 84, 85, 86, 87, 88, 89, 90, 91, 92, 93, 94]), ([0, 1, 2, 3, 4, 5, 6, 7, 8, 9, 10, 11, 12, 13, 14, 15, 16, 17, 18, 19, 20, 21, 22, 23, 24, 25, 28, 29, 30, 31, 32, 33, 37, 38, 39, 40, 41, 42, 43, 44, 45, 46, 47, 48, 49, 50], [62, 63, 64, 65, 66, 67, 68, 69, 70, 71, 72, 73, 74, 75, 76, 77, 78, 79, 80, 81, 82, 83, 84, 85, 86, 87, 88, 89, 90, 91, 92, 93, 94, 95]), ([0, 1, 2, 3, 4, 5, 6, 7, 8, 9, 10, 11, 12, 13, 14, 15, 16, 17, 18, 19, 20, 21, 22, 23, 24, 25, 26, 27, 28, 29, 30, 31, 32, 33, 34, 37, 38, 39, 40, 41, 42, 43, 44, 45, 46, 47, 48, 49, 50], [62, 63, 64, 65, 66, 67, 68, 69, 70, 71, 72, 73, 74, 75, 76, 77, 78, 79, 80, 81, 82, 83, 84, 85, 86, 87, 88, 89, 90, 91, 92, 93, 94, 95, 96]), ([0, 1, 2, 3, 4, 5, 6, 7, 8, 9, 10, 11, 12, 13, 14, 15, 16, 17, 18, 19, 20, 21, 22, 23, 24, 25, 26, 27, 28, 29, 30, 31, 32, 33, 34, 35, 37, 38, 39, 40, 41, 42, 43, 44, 45, 46, 47, 48, 49, 50], [62, 63, 64, 65, 66, 67, 68, 69, 70, 71, 72, 73, 74, 75, 76, 77, 78, 79, 80, 81, 82, 83, 84, 85, 86, 87, 88, 89, 90, 91, 92, 93, 94, 95, 96, 97])] [(37, 7), (38, 7), (39, 7), (40, 7), (41, 7), (42, 7), (43, 7), (44, 7), (45, 7), (46, 7), (47, 7), (48, 7), (49, 7), (50, 7), (37, 0), (37, 1), (37, 2), (37, 3), (37, 4), (37, 5), (37, 6), (38, 0), (38, 1), (38, 2), (38, 3), (38, 4), (38, 5), (38, 6), (39, 0), (39, 1), (39, 2), (39, 3), (39, 4), (39, 5), (39, 6), (40, 0), (40, 1), (40, 2), (40, 3), (40, 4), (40, 5), (40, 6), (41, 0), (41, 1), (41, 2), (41, 3), (41, 4), (41, 5), (41, 6), (42, 0), (42, 1), (42, 2), (42, 3), (42, 4), (42, 5), (42, 6), (43, 0), (43, 1), (43, 2), (43, 3), (43, 4), (43, 5), (43, 6), (44, 0), (44, 1), (44, 2), (44, 3), (44, 4), (44, 5), (44, 6), (45, 0), (45, 1), (45, 2), (45, 3), (45, 4), (45, 5), (45, 6), (46, 0), (46, 1), (46, 2), (46, 3), (46, 4), (46, 5), (46, 6), (47, 0), (47, 1), (47, 2), (47, 3), (47, 4), (47, 5), (47, 6), (48, 0), (48, 1), (48, 2), (48, 3), (48, 4), (48, 5), (48, 6), (49, 0), (49, 1), (49, 2), (49, 3), (49, 4), (49, 5), (49, 6), (50, 0), (50, 1), (50, 2), (50, 3), (50, 4), (50, 5), (50, 6)] (Γx := [bx gK 86 (cxc gV vF (C.hand : Int)), rowN 90 6 vF C.fs.length (frs C.fs), vault C.rs, bx gV 79 (dvc S.fu vd mD S.cn), rowN 81 256 vd S.ls.length (secs S.ls), mp secM mD S.es, bag S.es, bx gY 73 (krc gX K.v (K.hand : Int)), rowN 97 5 K.v K.fs.length (rfs K.fs), bx gX 51 (rdc R.vL R.vA R.vB R.fu R.wr), rowN 31 1 R.vL R.L.length (valsV R.L), rowN 3 1 R.vA R.Z.length (intsV (zAt R.Z)), rowN 31 1 R.vB R.Z.length (valsV (zB R.Z)), vault R.rs]) (hox := ownsW) ?_; dsimp only [prev0, List.length_nil, List.length_cons])
       | (refine gAny ?_; first | (refine gGd ?_; refine RGl.skp ?_) | (refine gD 55 ?_; refine RGl.rdX (fun e hk => by (try dsimp only [bndR, ensR, oksR, fcutR, List.append_nil, List.nil_append, List.cons_append, List.append_assoc] at hk ⊢); exact ReadR.binE rfl rfl BinR.lss (congrArg Value.bool (decide_eq_true hil'))) ?_) | (refine gD 58 ?_; refine RGl.rdX (fun e hk => by (try dsimp only [bndR, ensR, oksR, fcutR, List.append_nil, List.nil_append, List.cons_append, List.append_assoc] at hk ⊢); exact ReadR.binE rfl rfl BinR.lss (congrArg Value.bool (decide_eq_true hi60'))) ?_) | (refine gD 67 ?_; refine RGl.rdX (fun e hk => by (try dsimp only [bndR, ensR, oksR, fcutR, List.append_nil, List.nil_append, List.cons_append, List.append_assoc] at hk ⊢); exact ReadR.indexE (i := i) rfl rfl hasA hil) ?_) | (refine gD 68 ?_; refine RGl.rdX (fun e hk => by (try dsimp only [bndR, ensR, oksR, fcutR, List.append_nil, List.nil_append, List.cons_append, List.append_assoc] at hk ⊢); exact ReadR.loadES (cs := kaC x) hxp (by omega) rfl hasA) ?_) | (refine gOp ?_; (refine gC 69 ?_; refine RGl.relG (.bool true) (fun s : St5 => both5 gK gV vF mD vd gY gX s) (fun s => Ok5 24 m (i + 1) ((i + 1) * 64) s) hv69 (fun e hk => by (try dsimp only [bndR, ensR, oksR, fcutR, List.append_nil, List.nil_append, List.cons_append, List.append_assoc] at hk ⊢); exact OpT.callTs c69) ?_)) | (refine gOp ?_; (refine gC 73 ?_; refine RGl.row (ety := fun _ => 3) (sz := fun _ => 1) (m := fun e => (those 24 (SB5 gK gV vF mD vd gY gX 24 m (i + 1) ((i + 1) * 64) e).K.vw false).length) (xs := fun e => intsV (those 24 (SB5 gK gV vF mD vd gY gX 24 m (i + 1) ((i + 1) * 64) e).K.vw false)) (Γ1 := fun _ => []) (fun e hk => by (try dsimp only [bndR, ensR, oksR, fcutR, List.append_nil, List.nil_append, List.cons_append, List.append_assoc] at hk ⊢); exact OpT.callN (chS_t gK gV vF 24 m (i + 1) ((i + 1) * 64) (SB5 gK gV vF mD vd gY gX 24 m (i + 1) ((i + 1) * 64) e) (by (repeat (obtain ⟨hk1, hk⟩ := hk)) <;> assumption) hm) (hΔ := provsM)) ?_)) | (refine gOp ?_; (refine gC 75 ?_; refine RGl.row (ety := fun _ => 3) (sz := fun _ => 1) (m := fun e => (those 24 (SB5 gK gV vF mD vd gY gX 24 m (i + 1) ((i + 1) * 64) e).K.vw false).length) (xs := fun e => intsV (those 24 (SB5 gK gV vF mD vd gY gX 24 m (i + 1) ((i + 1) * 64) e).K.vw false)) (Γ1 := fun _ => []) (fun e hk => by (try dsimp only [bndR, ensR, oksR, fcutR, List.append_nil, List.nil_append, List.cons_append, List.append_assoc] at hk ⊢); exact OpT.callN (khS_t gY gX 24 m (i + 1) ((i + 1) * 64) (SB5 gK gV vF mD vd gY gX 24 m (i + 1) ((i + 1) * 64) e) false (by (repeat (obtain ⟨hk1, hk⟩ := hk)) <;> assumption) hm (by omega)) (hΔ := provsM)) ?_)) | (refine gOp ?_; (refine gC 76 ?_; refine RGl.vl (fun e hk => by (try dsimp only [bndR, ensR, oksR, fcutR, List.append_nil, List.nil_append, List.cons_append, List.append_assoc] at hk ⊢); exact OpT.callN (intS_t (those 24 (SB5 gK gV vF mD vd gY gX 24 m (i + 1) ((i + 1) * 64) e).K.vw false) (e 11).1 (e 13).1 those24) (hΔ := provsM)) ?_)) | (refine gOp ?_; (refine gC 81 ?_; refine RGl.row (ety := fun _ => 3) (sz := fun _ => 1) (m := fun e => (those 24 (SB5 gK gV vF mD vd gY gX 24 m (i + 1) ((i + 1) * 64) e).K.vw true).length) (xs := fun e => intsV (those 24 (SB5 gK gV vF mD vd gY gX 24 m (i + 1) ((i + 1) * 64) e).K.vw true)) (Γ1 := fun _ => []) (fun e hk => by (try dsimp only [bndR, ensR, oksR, fcutR, List.append_nil, List.nil_append, List.cons_append, List.append_assoc] at hk ⊢); exact OpT.callN (cdS_t gK gV vF 24 m (i + 1) ((i + 1) * 64) (SB5 gK gV vF mD vd gY gX 24 m (i + 1) ((i + 1) * 64) e) (by (repeat (obtain ⟨hk1, hk⟩ := hk)) <;> assumption) hm) (hΔ := provsM)) ?_)) | (refine gOp ?_; (refine gC 83 ?_; refine RGl.row (ety := fun _ => 3) (sz := fun _ => 1) (m := fun e => (those 24 (SB5 gK gV vF mD vd gY gX 24 m (i + 1) ((i + 1) * 64) e).K.vw true).length) (xs := fun e => intsV (those 24 (SB5 gK gV vF mD vd gY gX 24 m (i + 1) ((i + 1) * 64) e).K.vw true)) (Γ1 := fun _ => []) (fun e hk => by (try dsimp only [bndR, ensR, oksR, fcutR, List.append_nil, List.nil_append, List.cons_append, List.append_assoc] at hk ⊢); exact OpT.callN (khS_t gY gX 24 m (i + 1) ((i + 1) * 64) (SB5 gK gV vF mD vd gY gX 24 m (i + 1) ((i + 1) * 64) e) true (by (repeat (obtain ⟨hk1, hk⟩ := hk)) <;> assumption) hm (by omega)) (hΔ := provsM)) ?_)) | (refine gOp ?_; (refine gC 84 ?_; refine RGl.vl (fun e hk => by (try dsimp only [bndR, ensR, oksR, fcutR, List.append_nil, List.nil_append, List.cons_append, List.append_assoc] at hk ⊢); exact OpT.callN (intS_t (those 24 (SB5 gK gV vF mD vd gY gX 24 m (i + 1) ((i + 1) * 64) e).K.vw true) (e 19).1 (e 21).1 those24) (hΔ := provsM)) ?_)) | (refine gOp ?_; (refine gC 89 ?_; refine RGl.vl (fun e hk => by (try dsimp only [bndR, ensR, oksR, fcutR, List.append_nil, List.nil_append, List.cons_append, List.append_assoc] at hk ⊢); exact OpT.callN (writes_t gV mD vd (SB5 gK gV vF mD vd gY gX 24 m (i + 1) ((i + 1) * 64) e).S.fu (SB5 gK gV vF mD vd gY gX 24 m (i + 1) ((i + 1) * 64) e).S.cn) (hΔ := provsM)) ?_)) | (refine gD 97 ?_; refine RGl.rdX (fun e hk => by (try dsimp only [bndR, ensR, oksR, fcutR, List.append_nil, List.nil_append, List.cons_append, List.append_assoc] at hk ⊢); exact ReadR.binE rfl rfl BinR.neq (congrArg (fun q => Value.bool (!q)) (decide_eq_true (ok5_cn 24 m (i + 1) ((i + 1) * 64) (SB5 gK gV vF mD vd gY gX 24 m (i + 1) ((i + 1) * 64) e) (by (repeat (obtain ⟨hk1, hk⟩ := hk)) <;> assumption))))) ?_) | (refine gOp ?_; first | refine RGl.rdA ?_ | refine RGl.rdX (fun e hk => by (try dsimp only [bndR, ensR, oksR, fcutR, List.append_nil, List.nil_append, List.cons_append, List.append_assoc] at hk ⊢); exact readB) ?_) | (refine RGl.fin (fun e hk => ?_); (try dsimp only [bndA, ensAR, oksA, List.append_nil, List.nil_append, List.cons_append, List.append_assoc] at hk ⊢); (repeat (obtain ⟨hk1, hk⟩ := hk))) | fail)
       | (refine isCond ?_; first | refine WPc.cT ?_ | refine WPc.cF ?_ | (refine WPc.cQ (fun hc => ?_) (fun hc => ?_) <;> try exact prA))
       | (refine isD 55 ?_; refine WPl.rdX (ReadR.binE rfl rfl BinR.lss (congrArg Value.bool (decide_eq_true hil'))) ?_)
       | (refine isD 58 ?_; refine WPl.rdX (ReadR.binE rfl rfl BinR.lss (congrArg Value.bool (decide_eq_true hi60'))) ?_)
       | (refine isD 67 ?_; refine WPl.rdX (ReadR.indexE (i := i) rfl rfl hasA hil) ?_)
       | (refine isD 68 ?_; refine WPl.rdX (ReadR.loadES (cs := kaC x) hxp (by omega) rfl hasA) ?_)
       | (refine isD 97 ?_; refine WPl.rdX (ReadR.binE rfl rfl BinR.neq (congrArg (fun q => Value.bool (!q)) (decide_eq_true (ok5_cn 24 m (i + 1) ((i + 1) * 64) (SB5 gK gV vF mD vd gY gX 24 m (i + 1) ((i + 1) * 64) e) (by (repeat (obtain ⟨hk1, hk⟩ := hk)) <;> assumption))))) ?_)
       | (refine isOp ?_; first | refine WPl.rd ?_ | refine WPl.sk ?_ | refine WPl.rdB ?_)
       | (show WPl _ _ _ _ _ _ _ (⟨_, .indexAddr _ _ _, _, _, _, _⟩ :: _) _; refine WPl.rdX (ReadR.indexE rfl rfl hasA (by first | assumption | omega)) ?_)
       | (show WPl _ _ _ _ _ _ _ (⟨_, .fieldAddr _ _ _, _, _, _, _⟩ :: _) _; refine WPl.rdX (ReadR.fieldE rfl hasA (by first | assumption | omega)) ?_)
       | (show WPl _ _ _ _ _ _ _ (⟨_, .load _ _, _, _, _, _⟩ :: _) _; first | refine WPl.rdX (ReadR.loadE rfl hasA (by assumption)) ?_ | refine WPl.rdX (ReadR.loadES (by assumption) (by first | assumption | omega) rfl hasA) ?_)
       | (show WPl _ _ _ _ _ _ _ (⟨_, .slice _ _ _ _ _, _, _, _, _⟩ :: _) _; first | refine WPl.rdX (ReadR.sliceH rfl rfl hasA (by omega)) ?_ | refine WPl.rdX (ReadR.sliceL rfl rfl hasA (by omega)) ?_ | refine WPl.rdX (ReadR.sliceLH rfl rfl rfl hasA (by omega) (by omega)) ?_)
       | (refine WPl.spQ (fun hc => ?_) (fun hc => ?_) <;> try exact prA)
       | fail)
      dsimp only [Nat.reduceAdd] at *
      have hA : Ok5 24 m (i + 1) ((i + 1) * 64) (pickG (fun s : St5 => both5 gK gV vF mD vd gY gX s) (fun s => Ok5 24 m (i + 1) ((i + 1) * 64) s) (e 7).2) := by assumption
      obtain ⟨T, hT⟩ : ∃ T, T = (pickG (fun s : St5 => both5 gK gV vF mD vd gY gX s) (fun s => Ok5 24 m (i + 1) ((i + 1) * 64) s) (e 7).2) := ⟨_, rfl⟩
      rw [← hT] at hA ⊢
      exact WPq.rnd (i + 1, T) ⟨hi60, hA⟩ (by dsimp only; omega)
    · by_cases hil : i < l.length
      · have hil' : (i : Int) < (l.length : Int) := by omega
        have hi60' : ¬ (i : Int) < 60 := by omega
        repeat' (first
         | refine WPl.nil ?_ | refine WPq.then ?_ | refine WPq.thenR ?_ | refine WPq.thenE ?_ | refine WPq.blockN ?_ | refine WPq.blockR ?_ | refine WPq.blockE ?_ | refine WPq.blockO rfl ?_ | refine WPc.seq ?_ | refine WPc.block ?_ | refine WPc.ret ?_ | refine WPc.exit ?_ | refine WPc.skip ?_ | refine WPc.region ?_
         | (refine isCond ?_; first | refine WPc.cT ?_ | refine WPc.cF ?_ | (refine WPc.cQ (fun hc => ?_) (fun hc => ?_) <;> try exact prA))
         | (refine isD 55 ?_; refine WPl.rdX (ReadR.binE rfl rfl BinR.lss (congrArg Value.bool (decide_eq_true hil'))) ?_)
         | (refine isD 58 ?_; refine WPl.rdX (ReadR.binE rfl rfl BinR.lss (congrArg Value.bool (decide_eq_false hi60'))) ?_)
         | (refine isOp ?_; first | refine WPl.rd ?_ | refine WPl.sk ?_ | refine WPl.rdB ?_)
         | (show WPl _ _ _ _ _ _ _ (⟨_, .indexAddr _ _ _, _, _, _, _⟩ :: _) _; refine WPl.rdX (ReadR.indexE rfl rfl hasA (by first | assumption | omega)) ?_)
         | (show WPl _ _ _ _ _ _ _ (⟨_, .fieldAddr _ _ _, _, _, _, _⟩ :: _) _; refine WPl.rdX (ReadR.fieldE rfl hasA (by first | assumption | omega)) ?_)
         | (show WPl _ _ _ _ _ _ _ (⟨_, .load _ _, _, _, _, _⟩ :: _) _; first | refine WPl.rdX (ReadR.loadE rfl hasA (by assumption)) ?_ | refine WPl.rdX (ReadR.loadES (by assumption) (by first | assumption | omega) rfl hasA) ?_)
         | (show WPl _ _ _ _ _ _ _ (⟨_, .slice _ _ _ _ _, _, _, _, _⟩ :: _) _; first | refine WPl.rdX (ReadR.sliceH rfl rfl hasA (by omega)) ?_ | refine WPl.rdX (ReadR.sliceL rfl rfl hasA (by omega)) ?_ | refine WPl.rdX (ReadR.sliceLH rfl rfl rfl hasA (by omega) (by omega)) ?_)
         | (refine WPl.spQ (fun hc => ?_) (fun hc => ?_) <;> try exact prA)
         | fail)
        have hdi : DInv 24 3840 S := hok.di.mono (by omega)
        have hri : RInv 24 3840 R := hok.ri.mono (by omega)
        have hdv : S.vw = R.vw := hok.dv
        clear hok hkm
        first | refine WPc.loop (σ := Nat × DS) (fun st => st.1 ≤ 24 ∧ sameNow st.2.vw R.vw ∧ DInv 24 3840 st.2) (fun st => [rdN v1 l.length (kas l), bx gK 86 (cxc gV vF (C.hand : Int)), rowN 90 6 vF C.fs.length (frs C.fs), vault C.rs, bx gV 79 (dvc st.2.fu vd mD st.2.cn), rowN 81 256 vd st.2.ls.length (secs st.2.ls), mp secM mD st.2.es, bag st.2.es, bx gY 73 (krc gX K.v (K.hand : Int)), rowN 97 5 K.v K.fs.length (rfs K.fs), bx gX 51 (rdc R.vL R.vA R.vB R.fu R.wr), rowN 31 1 R.vL R.L.length (valsV R.L), rowN 3 1 R.vA R.Z.length (intsV (zAt R.Z)), rowN 31 1 R.vB R.Z.length (valsV (zB R.Z)), vault R.rs]) (fun st => [(5, hD gV), (9, hC gY), (11, .int .i64 (st.1 : Int))]) (fun st => 24 - st.1) ((0, S)) ?_ takesA frsA (fun st km hx hk => ?_)
        · exact ⟨Nat.zero_le _, fun j => by rw [hdv], hdi⟩
        clear hdv hdi
        obtain ⟨q, S⟩ := st
        obtain ⟨hq, hsn, hdi⟩ := hx
        dsimp only at hq hsn hdi hk ⊢
        have hkm : km = 24 - q := hk
        clear hk
        by_cases hlt : q < 24
        · have c104 := dfail_t gV mD vd 24 3840 S 1 9 hdi (by unfold in64; omega)
          rw [fail19] at c104
          have c108 := fun S1 (h : DInv 24 3840 S1) => drd_t gV mD vd 24 3840 S1 q h (by omega) (by omega) hlt
          have c118 := rnow_t gX 24 3840 R q hri (by omega) (by omega) hlt
          have hin := hri.now hlt
          have hnv := nowR_vw 24 3840 R hri q hlt
          obtain ⟨x, hx⟩ : ∃ x, x = nowR R q := ⟨_, rfl⟩
          rw [← hx] at c118 hin hnv
          have hin' : (x.1, x.2) ∈ R.rs := hin.1
          have h4 : S.vw.fu.length = 4 := hdi.f4
          have hrd := rd_fail h4 q
          obtain ⟨D1, hD1⟩ : ∃ D1, D1 = ({ S.vw with fu := S.vw.fu.set 1 9 } : Dv) := ⟨_, rfl⟩
          rw [← hD1] at c104 hrd
          have hsn1 : sameNow (D1.burn 1) R.vw := fun j => by rw [hD1]; exact hsn j
          rw [hsn q, ← hnv] at hrd
          repeat' (first
           | refine WPl.nil ?_ | refine WPq.then ?_ | refine WPq.thenR ?_ | refine WPq.thenE ?_ | refine WPq.blockN ?_ | refine WPq.blockR ?_ | refine WPq.blockE ?_ | refine WPq.blockO rfl ?_ | refine WPc.seq ?_ | refine WPc.block ?_ | refine WPc.ret ?_ | refine WPc.exit ?_ | refine WPc.skip ?_ | refine WPc.region ?_
           | (refine isCond ?_; first | refine WPc.cT ?_ | refine WPc.cF ?_ | (refine WPc.cQ (fun hc => ?_) (fun hc => ?_) <;> try first | exact prA | (exfalso; first | omega)))
           | (refine isC 104 ?_; refine WPl.cXs (c104) fun v Γ1 hR => ?_; obtain ⟨S1, rfl, hS1, hSi1, rfl⟩ := hR; (try dsimp only [putF, List.cons_append, List.nil_append]))
           | (refine isOp ?_; first | refine WPl.rd ?_ | refine WPl.sk ?_ | refine WPl.rdB ?_)
           | (show WPl _ _ _ _ _ _ _ (⟨_, .indexAddr _ _ _, _, _, _, _⟩ :: _) _; refine WPl.rdX (ReadR.indexE rfl rfl hasA (by first | assumption | omega)) ?_)
           | (show WPl _ _ _ _ _ _ _ (⟨_, .fieldAddr _ _ _, _, _, _, _⟩ :: _) _; refine WPl.rdX (ReadR.fieldE rfl hasA (by first | assumption | omega)) ?_)
           | (show WPl _ _ _ _ _ _ _ (⟨_, .load _ _, _, _, _, _⟩ :: _) _; first | refine WPl.rdX (ReadR.loadE rfl hasA (by assumption)) ?_ | refine WPl.rdX (ReadR.loadES (by assumption) (by first | assumption | omega) rfl hasA) ?_)
           | (show WPl _ _ _ _ _ _ _ (⟨_, .slice _ _ _ _ _, _, _, _, _⟩ :: _) _; first | refine WPl.rdX (ReadR.sliceH rfl rfl hasA (by omega)) ?_ | refine WPl.rdX (ReadR.sliceL rfl rfl hasA (by omega)) ?_ | refine WPl.rdX (ReadR.sliceLH rfl rfl rfl hasA (by omega) (by omega)) ?_)
           | (refine WPl.spQ (fun hc => ?_) (fun hc => ?_) <;> try first | exact prA | (exfalso; first | omega))
           | fail)
          have c108 := c108 S1 hSi1
          rw [hS1, hrd] at c108
          repeat' (first
           | refine WPl.nil ?_ | refine WPq.then ?_ | refine WPq.thenR ?_ | refine WPq.thenE ?_ | refine WPq.blockN ?_ | refine WPq.blockR ?_ | refine WPq.blockE ?_ | refine WPq.blockO rfl ?_ | refine WPc.seq ?_ | refine WPc.block ?_ | refine WPc.ret ?_ | refine WPc.exit ?_ | refine WPc.skip ?_ | refine WPc.region ?_
           | (refine isReg 18 ?_; refine WPc.drA [([], [113, 114, 115, 116, 117, 118, 119]), ([0], [111, 113, 114, 115, 116, 117, 118, 119]), ([], [111, 112, 117]), ([2], [111, 112, 113, 117]), ([2, 3], [111, 112, 113, 114, 117]), ([2, 3, 4], [111, 112, 113, 114, 115, 117]), ([], [111, 112, 113, 114, 115, 116]), ([2, 3, 4, 5, 6], [111, 112, 113, 114, 115, 116, 117]), ([2, 3, 4, 5, 6, 7], [111, 112, 113, 114, 115, 116, 117, 118]), ([0, 1, 2, 3, 4, 5, 6, 7, 8], [111, 112, 113, 114, 115, 116, 117, 118, 119])] [] (Γx := []) ?_; dsimp only [prev0, List.length_nil, List.length_cons])
           | (refine gAny ?_; first | (refine gD 112 ?_; refine RGl.rdX (fun e hk => by (try dsimp only [bndR, ensR, oksR, fcutR, List.append_nil, List.nil_append, List.cons_append, List.append_assoc] at hk ⊢); exact ReadR.str rfl rfl rfl hasA) ?_) | (refine gOp ?_; (refine gC 118 ?_; refine RGl.vl (fun e hk => OpT.callN c118 (hΔ := by (try dsimp only [bndR, ensR, oksR, fcutR, List.append_nil, List.nil_append, List.cons_append, List.append_assoc] at hk ⊢); exact provsW)) ?_)) | (refine gD 119 ?_; refine RGl.rdX (fun e hk => by (try dsimp only [bndR, ensR, oksR, fcutR, List.append_nil, List.nil_append, List.cons_append, List.append_assoc] at hk ⊢); exact ReadR.str rfl rfl rfl (HasS.vault memA hin')) ?_) | (refine gD 120 ?_; refine RGl.rdX (fun e hk => by (try dsimp only [bndR, ensR, oksR, fcutR, List.append_nil, List.nil_append, List.cons_append, List.append_assoc] at hk ⊢); exact ReadR.binE rfl rfl BinR.strUN (congrArg (fun q => Value.bool (!q)) (decide_eq_true rfl))) ?_) | (refine gOp ?_; first | refine RGl.rdA ?_ | refine RGl.rdX (fun e hk => by (try dsimp only [bndR, ensR, oksR, fcutR, List.append_nil, List.nil_append, List.cons_append, List.append_assoc] at hk ⊢); exact readB) ?_) | (refine RGl.fin (fun e hk => ?_); (try dsimp only [bndA, ensAR, oksA, List.append_nil, List.nil_append, List.cons_append, List.append_assoc] at hk ⊢); (repeat (obtain ⟨hk1, hk⟩ := hk))) | fail)
           | (refine isCond ?_; first | refine WPc.cT ?_ | refine WPc.cF ?_ | (refine WPc.cQ (fun hc => ?_) (fun hc => ?_) <;> try exact prA))
           | (refine isC 108 ?_; refine WPl.cXs (c108) fun v Γ1 hR => ?_; obtain ⟨S2, sv, rfl, hsv, hS2, hSi2, rfl⟩ := hR; (try dsimp only [putF, List.cons_append, List.nil_append]))
           | (refine isD 112 ?_; refine WPl.rdX (ReadR.str rfl rfl rfl hasA) ?_)
           | (refine isD 119 ?_; refine WPl.rdX (ReadR.str rfl rfl rfl (HasS.vault memA hin')) ?_)
           | (refine isD 120 ?_; refine WPl.rdX (ReadR.binE rfl rfl BinR.strUN (congrArg (fun q => Value.bool (!q)) (decide_eq_true rfl))) ?_)
           | (refine isOp ?_; first | refine WPl.rd ?_ | refine WPl.sk ?_ | refine WPl.rdB ?_)
           | (show WPl _ _ _ _ _ _ _ (⟨_, .indexAddr _ _ _, _, _, _, _⟩ :: _) _; refine WPl.rdX (ReadR.indexE rfl rfl hasA (by first | assumption | omega)) ?_)
           | (show WPl _ _ _ _ _ _ _ (⟨_, .fieldAddr _ _ _, _, _, _, _⟩ :: _) _; refine WPl.rdX (ReadR.fieldE rfl hasA (by first | assumption | omega)) ?_)
           | (show WPl _ _ _ _ _ _ _ (⟨_, .load _ _, _, _, _, _⟩ :: _) _; first | refine WPl.rdX (ReadR.loadE rfl hasA (by assumption)) ?_ | refine WPl.rdX (ReadR.loadES (by assumption) (by first | assumption | omega) rfl hasA) ?_)
           | (show WPl _ _ _ _ _ _ _ (⟨_, .slice _ _ _ _ _, _, _, _, _⟩ :: _) _; first | refine WPl.rdX (ReadR.sliceH rfl rfl hasA (by omega)) ?_ | refine WPl.rdX (ReadR.sliceL rfl rfl hasA (by omega)) ?_ | refine WPl.rdX (ReadR.sliceLH rfl rfl rfl hasA (by omega) (by omega)) ?_)
           | (refine WPl.spQ (fun hc => ?_) (fun hc => ?_) <;> try exact prA)
           | fail)
          exact WPq.rnd (q + 1, S2) ⟨hlt, by rw [hS2]; exact hsn1, hSi2⟩ (by dsimp only; omega)
        · skip
          repeat' (first
           | refine WPl.nil ?_ | refine WPq.then ?_ | refine WPq.thenR ?_ | refine WPq.thenE ?_ | refine WPq.blockN ?_ | refine WPq.blockR ?_ | refine WPq.blockE ?_ | refine WPq.blockO rfl ?_ | refine WPc.seq ?_ | refine WPc.block ?_ | refine WPc.ret ?_ | refine WPc.exit ?_ | refine WPc.skip ?_ | refine WPc.region ?_
           | (refine isCond ?_; first | refine WPc.cT ?_ | refine WPc.cF ?_ | (refine WPc.cQ (fun hc => ?_) (fun hc => ?_) <;> try first | exact prA | (exfalso; first | omega)))
           | (refine isC 121 ?_; refine WPl.cV (clv) ?_)
           | (refine isOp ?_; first | refine WPl.rd ?_ | refine WPl.sk ?_ | refine WPl.rdB ?_)
           | (show WPl _ _ _ _ _ _ _ (⟨_, .indexAddr _ _ _, _, _, _, _⟩ :: _) _; refine WPl.rdX (ReadR.indexE rfl rfl hasA (by first | assumption | omega)) ?_)
           | (show WPl _ _ _ _ _ _ _ (⟨_, .fieldAddr _ _ _, _, _, _, _⟩ :: _) _; refine WPl.rdX (ReadR.fieldE rfl hasA (by first | assumption | omega)) ?_)
           | (show WPl _ _ _ _ _ _ _ (⟨_, .load _ _, _, _, _, _⟩ :: _) _; first | refine WPl.rdX (ReadR.loadE rfl hasA (by assumption)) ?_ | refine WPl.rdX (ReadR.loadES (by assumption) (by first | assumption | omega) rfl hasA) ?_)
           | (show WPl _ _ _ _ _ _ _ (⟨_, .slice _ _ _ _ _, _, _, _, _⟩ :: _) _; first | refine WPl.rdX (ReadR.sliceH rfl rfl hasA (by omega)) ?_ | refine WPl.rdX (ReadR.sliceL rfl rfl hasA (by omega)) ?_ | refine WPl.rdX (ReadR.sliceLH rfl rfl rfl hasA (by omega) (by omega)) ?_)
           | (refine WPl.spQ (fun hc => ?_) (fun hc => ?_) <;> try first | exact prA | (exfalso; first | omega))
           | fail)
          exact WPq.dV
      · have hil' : ¬ (i : Int) < (l.length : Int) := by omega
        repeat' (first
         | refine WPl.nil ?_ | refine WPq.then ?_ | refine WPq.thenR ?_ | refine WPq.thenE ?_ | refine WPq.blockN ?_ | refine WPq.blockR ?_ | refine WPq.blockE ?_ | refine WPq.blockO rfl ?_ | refine WPc.seq ?_ | refine WPc.block ?_ | refine WPc.ret ?_ | refine WPc.exit ?_ | refine WPc.skip ?_ | refine WPc.region ?_
         | (refine isCond ?_; first | refine WPc.cT ?_ | refine WPc.cF ?_ | (refine WPc.cQ (fun hc => ?_) (fun hc => ?_) <;> try exact prA))
         | (refine isD 55 ?_; refine WPl.rdX (ReadR.binE rfl rfl BinR.lss (congrArg Value.bool (decide_eq_false hil'))) ?_)
         | (refine isOp ?_; first | refine WPl.rd ?_ | refine WPl.sk ?_ | refine WPl.rdB ?_)
         | (show WPl _ _ _ _ _ _ _ (⟨_, .indexAddr _ _ _, _, _, _, _⟩ :: _) _; refine WPl.rdX (ReadR.indexE rfl rfl hasA (by first | assumption | omega)) ?_)
         | (show WPl _ _ _ _ _ _ _ (⟨_, .fieldAddr _ _ _, _, _, _, _⟩ :: _) _; refine WPl.rdX (ReadR.fieldE rfl hasA (by first | assumption | omega)) ?_)
         | (show WPl _ _ _ _ _ _ _ (⟨_, .load _ _, _, _, _, _⟩ :: _) _; first | refine WPl.rdX (ReadR.loadE rfl hasA (by assumption)) ?_ | refine WPl.rdX (ReadR.loadES (by assumption) (by first | assumption | omega) rfl hasA) ?_)
         | (show WPl _ _ _ _ _ _ _ (⟨_, .slice _ _ _ _ _, _, _, _, _⟩ :: _) _; first | refine WPl.rdX (ReadR.sliceH rfl rfl hasA (by omega)) ?_ | refine WPl.rdX (ReadR.sliceL rfl rfl hasA (by omega)) ?_ | refine WPl.rdX (ReadR.sliceLH rfl rfl rfl hasA (by omega) (by omega)) ?_)
         | (refine WPl.spQ (fun hc => ?_) (fun hc => ?_) <;> try exact prA)
         | fail)
        have hdi : DInv 24 3840 S := hok.di.mono (by omega)
        have hri : RInv 24 3840 R := hok.ri.mono (by omega)
        have hdv : S.vw = R.vw := hok.dv
        clear hok hkm
        first | refine WPc.loop (σ := Nat × DS) (fun st => st.1 ≤ 24 ∧ sameNow st.2.vw R.vw ∧ DInv 24 3840 st.2) (fun st => [rdN v1 l.length (kas l), bx gK 86 (cxc gV vF (C.hand : Int)), rowN 90 6 vF C.fs.length (frs C.fs), vault C.rs, bx gV 79 (dvc st.2.fu vd mD st.2.cn), rowN 81 256 vd st.2.ls.length (secs st.2.ls), mp secM mD st.2.es, bag st.2.es, bx gY 73 (krc gX K.v (K.hand : Int)), rowN 97 5 K.v K.fs.length (rfs K.fs), bx gX 51 (rdc R.vL R.vA R.vB R.fu R.wr), rowN 31 1 R.vL R.L.length (valsV R.L), rowN 3 1 R.vA R.Z.length (intsV (zAt R.Z)), rowN 31 1 R.vB R.Z.length (valsV (zB R.Z)), vault R.rs]) (fun st => [(5, hD gV), (9, hC gY), (11, .int .i64 (st.1 : Int))]) (fun st => 24 - st.1) ((0, S)) ?_ takesA frsA (fun st km hx hk => ?_)
        · exact ⟨Nat.zero_le _, fun j => by rw [hdv], hdi⟩
        clear hdv hdi
        obtain ⟨q, S⟩ := st
        obtain ⟨hq, hsn, hdi⟩ := hx
        dsimp only at hq hsn hdi hk ⊢
        have hkm : km = 24 - q := hk
        clear hk
        by_cases hlt : q < 24
        · have c104 := dfail_t gV mD vd 24 3840 S 1 9 hdi (by unfold in64; omega)
          rw [fail19] at c104
          have c108 := fun S1 (h : DInv 24 3840 S1) => drd_t gV mD vd 24 3840 S1 q h (by omega) (by omega) hlt
          have c118 := rnow_t gX 24 3840 R q hri (by omega) (by omega) hlt
          have hin := hri.now hlt
          have hnv := nowR_vw 24 3840 R hri q hlt
          obtain ⟨x, hx⟩ : ∃ x, x = nowR R q := ⟨_, rfl⟩
          rw [← hx] at c118 hin hnv
          have hin' : (x.1, x.2) ∈ R.rs := hin.1
          have h4 : S.vw.fu.length = 4 := hdi.f4
          have hrd := rd_fail h4 q
          obtain ⟨D1, hD1⟩ : ∃ D1, D1 = ({ S.vw with fu := S.vw.fu.set 1 9 } : Dv) := ⟨_, rfl⟩
          rw [← hD1] at c104 hrd
          have hsn1 : sameNow (D1.burn 1) R.vw := fun j => by rw [hD1]; exact hsn j
          rw [hsn q, ← hnv] at hrd
          repeat' (first
           | refine WPl.nil ?_ | refine WPq.then ?_ | refine WPq.thenR ?_ | refine WPq.thenE ?_ | refine WPq.blockN ?_ | refine WPq.blockR ?_ | refine WPq.blockE ?_ | refine WPq.blockO rfl ?_ | refine WPc.seq ?_ | refine WPc.block ?_ | refine WPc.ret ?_ | refine WPc.exit ?_ | refine WPc.skip ?_ | refine WPc.region ?_
           | (refine isCond ?_; first | refine WPc.cT ?_ | refine WPc.cF ?_ | (refine WPc.cQ (fun hc => ?_) (fun hc => ?_) <;> try first | exact prA | (exfalso; first | omega)))
           | (refine isC 104 ?_; refine WPl.cXs (c104) fun v Γ1 hR => ?_; obtain ⟨S1, rfl, hS1, hSi1, rfl⟩ := hR; (try dsimp only [putF, List.cons_append, List.nil_append]))
           | (refine isOp ?_; first | refine WPl.rd ?_ | refine WPl.sk ?_ | refine WPl.rdB ?_)
           | (show WPl _ _ _ _ _ _ _ (⟨_, .indexAddr _ _ _, _, _, _, _⟩ :: _) _; refine WPl.rdX (ReadR.indexE rfl rfl hasA (by first | assumption | omega)) ?_)
           | (show WPl _ _ _ _ _ _ _ (⟨_, .fieldAddr _ _ _, _, _, _, _⟩ :: _) _; refine WPl.rdX (ReadR.fieldE rfl hasA (by first | assumption | omega)) ?_)
           | (show WPl _ _ _ _ _ _ _ (⟨_, .load _ _, _, _, _, _⟩ :: _) _; first | refine WPl.rdX (ReadR.loadE rfl hasA (by assumption)) ?_ | refine WPl.rdX (ReadR.loadES (by assumption) (by first | assumption | omega) rfl hasA) ?_)
           | (show WPl _ _ _ _ _ _ _ (⟨_, .slice _ _ _ _ _, _, _, _, _⟩ :: _) _; first | refine WPl.rdX (ReadR.sliceH rfl rfl hasA (by omega)) ?_ | refine WPl.rdX (ReadR.sliceL rfl rfl hasA (by omega)) ?_ | refine WPl.rdX (ReadR.sliceLH rfl rfl rfl hasA (by omega) (by omega)) ?_)
           | (refine WPl.spQ (fun hc => ?_) (fun hc => ?_) <;> try first | exact prA | (exfalso; first | omega))
           | fail)
          have c108 := c108 S1 hSi1
          rw [hS1, hrd] at c108
          repeat' (first
           | refine WPl.nil ?_ | refine WPq.then ?_ | refine WPq.thenR ?_ | refine WPq.thenE ?_ | refine WPq.blockN ?_ | refine WPq.blockR ?_ | refine WPq.blockE ?_ | refine WPq.blockO rfl ?_ | refine WPc.seq ?_ | refine WPc.block ?_ | refine WPc.ret ?_ | refine WPc.exit ?_ | refine WPc.skip ?_ | refine WPc.region ?_
           | (refine isReg 18 ?_; refine WPc.drA [([], [113, 114, 115, 116, 117, 118, 119]), ([0], [111, 113, 114, 115, 116, 117, 118, 119]), ([], [111, 112, 117]), ([2], [111, 112, 113, 117]), ([2, 3], [111, 112, 113, 114, 117]), ([2, 3, 4], [111, 112, 113, 114, 115, 117]), ([], [111, 112, 113, 114, 115, 116]), ([2, 3, 4, 5, 6], [111, 112, 113, 114, 115, 116, 117]), ([2, 3, 4, 5, 6, 7], [111, 112, 113, 114, 115, 116, 117, 118]), ([0, 1, 2, 3, 4, 5, 6, 7, 8], [111, 112, 113, 114, 115, 116, 117, 118, 119])] [] (Γx := []) ?_; dsimp only [prev0, List.length_nil, List.length_cons])
           | (refine gAny ?_; first | (refine gD 112 ?_; refine RGl.rdX (fun e hk => by (try dsimp only [bndR, ensR, oksR, fcutR, List.append_nil, List.nil_append, List.cons_append, List.append_assoc] at hk ⊢); exact ReadR.str rfl rfl rfl hasA) ?_) | (refine gOp ?_; (refine gC 118 ?_; refine RGl.vl (fun e hk => OpT.callN c118 (hΔ := by (try dsimp only [bndR, ensR, oksR, fcutR, List.append_nil, List.nil_append, List.cons_append, List.append_assoc] at hk ⊢); exact provsW)) ?_)) | (refine gD 119 ?_; refine RGl.rdX (fun e hk => by (try dsimp only [bndR, ensR, oksR, fcutR, List.append_nil, List.nil_append, List.cons_append, List.append_assoc] at hk ⊢); exact ReadR.str rfl rfl rfl (HasS.vault memA hin')) ?_) | (refine gD 120 ?_; refine RGl.rdX (fun e hk => by (try dsimp only [bndR, ensR, oksR, fcutR, List.append_nil, List.nil_append, List.cons_append, List.append_assoc] at hk ⊢); exact ReadR.binE rfl rfl BinR.strUN (congrArg (fun q => Value.bool (!q)) (decide_eq_true rfl))) ?_) | (refine gOp ?_; first | refine RGl.rdA ?_ | refine RGl.rdX (fun e hk => by (try dsimp only [bndR, ensR, oksR, fcutR, List.append_nil, List.nil_append, List.cons_append, List.append_assoc] at hk ⊢); exact readB) ?_) | (refine RGl.fin (fun e hk => ?_); (try dsimp only [bndA, ensAR, oksA, List.append_nil, List.nil_append, List.cons_append, List.append_assoc] at hk ⊢); (repeat (obtain ⟨hk1, hk⟩ := hk))) | fail)
           | (refine isCond ?_; first | refine WPc.cT ?_ | refine WPc.cF ?_ | (refine WPc.cQ (fun hc => ?_) (fun hc => ?_) <;> try exact prA))
           | (refine isC 108 ?_; refine WPl.cXs (c108) fun v Γ1 hR => ?_; obtain ⟨S2, sv, rfl, hsv, hS2, hSi2, rfl⟩ := hR; (try dsimp only [putF, List.cons_append, List.nil_append]))
           | (refine isD 112 ?_; refine WPl.rdX (ReadR.str rfl rfl rfl hasA) ?_)
           | (refine isD 119 ?_; refine WPl.rdX (ReadR.str rfl rfl rfl (HasS.vault memA hin')) ?_)
           | (refine isD 120 ?_; refine WPl.rdX (ReadR.binE rfl rfl BinR.strUN (congrArg (fun q => Value.bool (!q)) (decide_eq_true rfl))) ?_)
           | (refine isOp ?_; first | refine WPl.rd ?_ | refine WPl.sk ?_ | refine WPl.rdB ?_)
           | (show WPl _ _ _ _ _ _ _ (⟨_, .indexAddr _ _ _, _, _, _, _⟩ :: _) _; refine WPl.rdX (ReadR.indexE rfl rfl hasA (by first | assumption | omega)) ?_)
           | (show WPl _ _ _ _ _ _ _ (⟨_, .fieldAddr _ _ _, _, _, _, _⟩ :: _) _; refine WPl.rdX (ReadR.fieldE rfl hasA (by first | assumption | omega)) ?_)
           | (show WPl _ _ _ _ _ _ _ (⟨_, .load _ _, _, _, _, _⟩ :: _) _; first | refine WPl.rdX (ReadR.loadE rfl hasA (by assumption)) ?_ | refine WPl.rdX (ReadR.loadES (by assumption) (by first | assumption | omega) rfl hasA) ?_)
           | (show WPl _ _ _ _ _ _ _ (⟨_, .slice _ _ _ _ _, _, _, _, _⟩ :: _) _; first | refine WPl.rdX (ReadR.sliceH rfl rfl hasA (by omega)) ?_ | refine WPl.rdX (ReadR.sliceL rfl rfl hasA (by omega)) ?_ | refine WPl.rdX (ReadR.sliceLH rfl rfl rfl hasA (by omega) (by omega)) ?_)
           | (refine WPl.spQ (fun hc => ?_) (fun hc => ?_) <;> try exact prA)
           | fail)
          exact WPq.rnd (q + 1, S2) ⟨hlt, by rw [hS2]; exact hsn1, hSi2⟩ (by dsimp only; omega)
        · skip
          repeat' (first
           | refine WPl.nil ?_ | refine WPq.then ?_ | refine WPq.thenR ?_ | refine WPq.thenE ?_ | refine WPq.blockN ?_ | refine WPq.blockR ?_ | refine WPq.blockE ?_ | refine WPq.blockO rfl ?_ | refine WPc.seq ?_ | refine WPc.block ?_ | refine WPc.ret ?_ | refine WPc.exit ?_ | refine WPc.skip ?_ | refine WPc.region ?_
           | (refine isCond ?_; first | refine WPc.cT ?_ | refine WPc.cF ?_ | (refine WPc.cQ (fun hc => ?_) (fun hc => ?_) <;> try first | exact prA | (exfalso; first | omega)))
           | (refine isC 121 ?_; refine WPl.cV (clv) ?_)
           | (refine isOp ?_; first | refine WPl.rd ?_ | refine WPl.sk ?_ | refine WPl.rdB ?_)
           | (show WPl _ _ _ _ _ _ _ (⟨_, .indexAddr _ _ _, _, _, _, _⟩ :: _) _; refine WPl.rdX (ReadR.indexE rfl rfl hasA (by first | assumption | omega)) ?_)
           | (show WPl _ _ _ _ _ _ _ (⟨_, .fieldAddr _ _ _, _, _, _, _⟩ :: _) _; refine WPl.rdX (ReadR.fieldE rfl hasA (by first | assumption | omega)) ?_)
           | (show WPl _ _ _ _ _ _ _ (⟨_, .load _ _, _, _, _, _⟩ :: _) _; first | refine WPl.rdX (ReadR.loadE rfl hasA (by assumption)) ?_ | refine WPl.rdX (ReadR.loadES (by assumption) (by first | assumption | omega) rfl hasA) ?_)
           | (show WPl _ _ _ _ _ _ _ (⟨_, .slice _ _ _ _ _, _, _, _, _⟩ :: _) _; first | refine WPl.rdX (ReadR.sliceH rfl rfl hasA (by omega)) ?_ | refine WPl.rdX (ReadR.sliceL rfl rfl hasA (by omega)) ?_ | refine WPl.rdX (ReadR.sliceLH rfl rfl rfl hasA (by omega) (by omega)) ?_)
           | (refine WPl.spQ (fun hc => ?_) (fun hc => ?_) <;> try first | exact prA | (exfalso; first | omega))
           | fail)
          exact WPq.dV
end Go.Proofs.Ytepmikgjnmjheaa
