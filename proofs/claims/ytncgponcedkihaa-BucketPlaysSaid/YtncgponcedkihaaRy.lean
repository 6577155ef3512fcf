/- Reference of layer 33 (bucket): Has, Take: contracts. -/
import Derived.Test.YtncgponcedkihaaRz
namespace Go.Proofs.Ytncgponcedkihaa
open Go.RowKit
set_option linter.unusedSimpArgs false
set_option linter.unusedVariables false
set_option maxRecDepth 20000
set_option maxHeartbeats 4000000
attribute [local irreducible] WPc WPl WPq ReadR OpT BinR HasS bx rdN rowN Take Takes Prov Triple ResF BuildP Done ag Int.decLt Int.decLe Int.instDecidableEq
theorem atD_some {D : List Cl} {p : Pf} {c : Cl} (h : D.find? (fun c => decide (c.p = p)) = some c) : ∃ i : Nat, atD D p = (i : Int) ∧ D[i]? = some c ∧ D.eraseP (fun c => decide (c.p = p)) = D.take i ++ D.drop (i + 1) := by
  obtain ⟨h1, A, B, rfl, h2⟩ := List.find?_eq_some_iff_append.1 h
  have hA : ∀ x ∈ A, ¬ (decide (x.p = p)) = true := fun x hx => by simpa using h2 x hx
  refine ⟨A.length, ?_, ?_, ?_⟩
  · have : (A ++ c :: B).findIdx? (fun c => decide (c.p = p)) = some A.length := by
      rw [List.findIdx?_eq_some_iff_getElem]
      refine ⟨by simp, ?_, fun j hj => ?_⟩
      · simpa using h1
      · rw [List.getElem_append_left hj]
        exact hA _ (List.getElem_mem hj)
    unfold atD; rw [this]
  · rw [List.getElem?_append_right (Nat.le_refl _)]; simp
  · have hcp : c.p = p := by simpa using h1
    rw [List.eraseP_append_right _ hA]
    simp only [List.eraseP_cons, hcp, decide_true, cond_true, List.take_left]
    rw [← List.drop_drop, List.drop_left]; rfl
theorem atD_none {D : List Cl} {p : Pf} (h : D.find? (fun c => decide (c.p = p)) = none) : atD D p = -1 := by
  have : D.findIdx? (fun c => decide (c.p = p)) = none := by
    rw [List.findIdx?_eq_none_iff]
    intro c hc
    simpa using List.find?_eq_none.1 h c hc
  unfold atD; rw [this]
theorem crs_take {D : List Cl} {i : Nat} : ((crs D).drop (0 * 20)).take (i * 20) = crs (D.take i) := by
  rw [Nat.zero_mul, List.drop_zero]
  induction D generalizing i with
  | nil => simp [crs]
  | cons c D ih =>
    cases i with
    | zero => simp [crs]
    | succ i =>
      have e : crs (c :: D) = flat (rcC c) ++ crs D := rfl
      have e2 : crs ((c :: D).take (i + 1)) = flat (rcC c) ++ crs (D.take i) := rfl
      rw [e, e2, Nat.succ_mul, Nat.add_comm, ← ih, List.take_append, List.take_of_length_le (by rw [rcC_len]; omega), rcC_len]
      congr 2
      omega
theorem crs_drop {D : List Cl} {i k : Nat} (hk : i + k = D.length) : ((crs D).drop (i * 20)).take (k * 20) = crs (D.drop i) := by
  have h1 : crs D = crs (D.take i) ++ crs (D.drop i) := by
    have : crs (D.take i ++ D.drop i) = crs (D.take i) ++ crs (D.drop i) := by unfold crs; rw [List.map_append, List.flatten_append]
    rwa [List.take_append_drop] at this
  have h2 : (crs (D.take i)).length = i * 20 := by rw [crs_len]; simp; omega
  have h3 : (crs (D.drop i)).length = k * 20 := by rw [crs_len]; simp; omega
  rw [h1, ← h2, List.drop_left, List.take_of_length_le (by omega)]
theorem crs_app {A B : List Cl} : crs (A ++ B) = crs A ++ crs B := by unfold crs; rw [List.map_append, List.flatten_append]
theorem crs_one {c : Cl} : crs [c] = flat (rcC c) := by simp [crs]
theorem crs_cell {D : List Cl} : ∀ u ∈ crs D, u.oneCell' = true := fun u hu => by
  unfold crs at hu
  obtain ⟨L, hL, hu⟩ := List.mem_flatten.1 hu
  obtain ⟨c, _, rfl⟩ := List.mem_map.1 hL
  exact (rcC_fok c).one u hu
attribute [local irreducible] crs
section
variable (gX : Nat) (per burst cl : Int) (vL : Value) (D : List Cl)
theorem rhas_t (p : Pf) (now : Int) (hD : D.length ≤ 100000) (hok : ∀ c ∈ D, 0 ≤ c.tok ∧ c.tok ≤ burst ∧ 0 ≤ c.at' ∧ c.at' < 18446744073709551616) (p1 : 0 ≤ per) (p2 : per ≤ 1048576) (b2 : burst ≤ 1073741824) (n1 : 0 ≤ now) (n2 : now < 18446744073709551616) :
    Triple Try.prog 22 #[hP' gX, ag (pfc p), .int .u64 now] [(rbx gX 48 (xcc per burst cl vL)), rdN vL D.length (crs D)] (RVal (.int .i64 (hasD per burst D p now))) := by
  have l1 := p.1.len
  have c1 := rat_t gX per burst cl vL D p hD
  cases hf : D.find? (fun c => decide (c.p = p)) with
  | none =>
    rw [atD_none hf] at c1
    have hr : hasD per burst D p now = burst := by unfold hasD; rw [hf]
    rw [hr]
    refine Triple.enter Try.func22 rfl Try.ntmps22 rfl (fun W => ?_)
    dsimp only [argsF, Nat.reduceAdd]
    repeat' (first
     | refine WPl.nil ?_ | refine WPq.then ?_ | refine WPq.thenR ?_ | refine WPq.thenE ?_ | refine WPq.blockN ?_ | refine WPq.blockR ?_ | refine WPq.blockE ?_ | refine WPq.blockO rfl ?_ | refine WPc.seq ?_ | refine WPc.block ?_ | refine WPc.ret ?_ | refine WPc.exit ?_ | refine WPc.skip ?_ | refine WPc.region ?_
     | (refine isCond ?_; first | refine WPc.cT ?_ | refine WPc.cF ?_ | (refine WPc.cQ (fun hc => ?_) (fun hc => ?_) <;> try exact prA))
     | (refine isC 10 ?_; refine WPl.cV (c1) ?_ (hΔ := provsX))
     | (refine isD 17 ?_; refine WPl.rdX (ReadR.loadO memA rfl rfl) ?_)
     | (refine isOp ?_; first | refine WPl.rd ?_ | refine WPl.sk ?_ | refine WPl.rdB ?_)
     | (refine isBx ?_; refine WPl.nw fun g => ?_)
     | (show WPl _ _ _ _ _ _ _ (⟨_, .indexAddr _ _ _, _, _, _, _⟩ :: _) _; refine WPl.rdX (ReadR.indexE rfl rfl hasA (by first | assumption | omega)) ?_)
     | (show WPl _ _ _ _ _ _ _ (⟨_, .fieldAddr _ _ _, _, _, _, _⟩ :: _) _; refine WPl.rdX (ReadR.fieldE rfl hasA (by first | assumption | omega)) ?_)
     | (show WPl _ _ _ _ _ _ _ (⟨_, .load _ _, _, _, _, _⟩ :: _) _; first | refine WPl.rdX (ReadR.loadE rfl hasA (by assumption)) ?_ | refine WPl.rdX (ReadR.loadES (by assumption) (by first | assumption | omega) rfl hasA) ?_)
     | (show WPl _ _ _ _ _ _ _ (⟨_, .slice _ _ _ _ _, _, _, _, _⟩ :: _) _; first | refine WPl.rdX (ReadR.sliceH rfl rfl hasA (by omega)) ?_ | refine WPl.rdX (ReadR.sliceL rfl rfl hasA (by omega)) ?_ | refine WPl.rdX (ReadR.sliceLH rfl rfl rfl hasA (by omega) (by omega)) ?_)
     | (refine WPl.spQ (fun hc => ?_) (fun hc => ?_) <;> try exact prA)
     | fail)
    all_goals first | exact WPq.dV | (exfalso; omega)
  | some c =>
    obtain ⟨i, h1, h2, _⟩ := atD_some hf
    rw [h1] at c1
    obtain ⟨q1, q2, q3, q4⟩ := hok c (List.mem_of_getElem? h2)
    have c2 := rfull_t gX per burst cl vL c now p1 p2 b2 q1 q2 q3 q4 n1 n2
    have hr : hasD per burst D p now = full per burst c now := by unfold hasD; rw [hf]
    rw [hr]
    have hil := (List.getElem?_eq_some_iff.1 h2).1
    have hcl := crs_len (D := D)
    have h3 := crs_at h2
    have l2 := c.p.1.len
    refine Triple.enter Try.func22 rfl Try.ntmps22 rfl (fun W => ?_)
    dsimp only [argsF, Nat.reduceAdd]
    repeat' (first
     | refine WPl.nil ?_ | refine WPq.then ?_ | refine WPq.thenR ?_ | refine WPq.thenE ?_ | refine WPq.blockN ?_ | refine WPq.blockR ?_ | refine WPq.blockE ?_ | refine WPq.blockO rfl ?_ | refine WPc.seq ?_ | refine WPc.block ?_ | refine WPc.ret ?_ | refine WPc.exit ?_ | refine WPc.skip ?_ | refine WPc.region ?_
     | (refine isCond ?_; first | refine WPc.cT ?_ | refine WPc.cF ?_ | (refine WPc.cQ (fun hc => ?_) (fun hc => ?_) <;> try exact prA))
     | (refine isC 10 ?_; refine WPl.cV (c1) ?_ (hΔ := provsX))
     | (refine isD 22 ?_; refine WPl.rdX (ReadR.loadO memA rfl rfl) ?_)
     | (refine isD 24 ?_; refine WPl.rdX (ReadR.indexE (i := i) rfl rfl hasA hil) ?_)
     | (refine isD 25 ?_; refine WPl.rdX (ReadR.loadES (cs := rcC c) h3 (by omega) rfl hasA) ?_)
     | (refine isC 27 ?_; refine WPl.cV (c2) ?_ (hΔ := provsX))
     | (refine isOp ?_; first | refine WPl.rd ?_ | refine WPl.sk ?_ | refine WPl.rdB ?_)
     | (refine isBx ?_; refine WPl.nw fun g => ?_)
     | (show WPl _ _ _ _ _ _ _ (⟨_, .indexAddr _ _ _, _, _, _, _⟩ :: _) _; refine WPl.rdX (ReadR.indexE rfl rfl hasA (by first | assumption | omega)) ?_)
     | (show WPl _ _ _ _ _ _ _ (⟨_, .fieldAddr _ _ _, _, _, _, _⟩ :: _) _; refine WPl.rdX (ReadR.fieldE rfl hasA (by first | assumption | omega)) ?_)
     | (show WPl _ _ _ _ _ _ _ (⟨_, .load _ _, _, _, _, _⟩ :: _) _; first | refine WPl.rdX (ReadR.loadE rfl hasA (by assumption)) ?_ | refine WPl.rdX (ReadR.loadES (by assumption) (by first | assumption | omega) rfl hasA) ?_)
     | (show WPl _ _ _ _ _ _ _ (⟨_, .slice _ _ _ _ _, _, _, _, _⟩ :: _) _; first | refine WPl.rdX (ReadR.sliceH rfl rfl hasA (by omega)) ?_ | refine WPl.rdX (ReadR.sliceL rfl rfl hasA (by omega)) ?_ | refine WPl.rdX (ReadR.sliceLH rfl rfl rfl hasA (by omega) (by omega)) ?_)
     | (refine WPl.spQ (fun hc => ?_) (fun hc => ?_) <;> try exact prA)
     | fail)
    all_goals first | exact WPq.dV | (exfalso; omega)
end
end Go.Proofs.Ytncgponcedkihaa
