/- Layer 21 (health): the reference: which backends are up: contract. -/
import Derived.Test.YtncgponcedkihaaHl
import Derived.Test.YtncgponcedkihaaRw
namespace Go.Proofs.Ytncgponcedkihaa
open Go.RowKit
set_option linter.unusedSimpArgs false
set_option linter.unusedVariables false
set_option maxRecDepth 20000
set_option maxHeartbeats 4000000
attribute [local irreducible] WPc WPl WPq ReadR OpT BinR HasS bx rdN rowN Take Takes Prov Triple ResF BuildP Done ag Int.decLt Int.decLe Int.instDecidableEq
abbrev Rp := Int × Int × Int
def rUp1 (rise fall s b : Int) (st : Bool × Int) (x : Rp) : Bool × Int :=
  if x.1 ≠ s ∨ (x.2.2 ≠ 3 ∧ x.2.1 ≠ b) then st
  else if x.2.2 > 1 then (true, 0)
  else if decide (x.2.2 = 1) = st.1 then (st.1, 0)
  else if (st.1 = true ∧ fall ≤ st.2 + 1) ∨ (st.1 = false ∧ rise ≤ st.2 + 1) then (!st.1, 0) else (st.1, st.2 + 1)
def rUp (rise fall s b : Int) (l : List Rp) : Bool × Int := l.foldl (rUp1 rise fall s b) (true, 0)
theorem rUp_snoc {rise fall s b : Int} {l : List Rp} {x : Rp} : rUp rise fall s b (l ++ [x]) = rUp1 rise fall s b (rUp rise fall s b l) x := by simp [rUp]
theorem rUp1_row {rise fall s b : Int} {st : Bool × Int} {x : Rp} (h0 : 0 ≤ st.2) : 0 ≤ (rUp1 rise fall s b st x).2 ∧ (rUp1 rise fall s b st x).2 ≤ st.2 + 1 := by
  unfold rUp1
  repeat' split
  all_goals (try dsimp only)
  all_goals omega
theorem rUp_row {rise fall s b : Int} {l : List Rp} : 0 ≤ (rUp rise fall s b l).2 ∧ (rUp rise fall s b l).2 ≤ l.length := by
  have key : ∀ (l : List Rp) (st : Bool × Int), 0 ≤ st.2 → 0 ≤ (l.foldl (rUp1 rise fall s b) st).2 ∧ (l.foldl (rUp1 rise fall s b) st).2 ≤ st.2 + l.length := by
    intro l
    induction l with
    | nil => intro st h; simp [h]
    | cons x l ih =>
      intro st h
      have h1 := rUp1_row (rise := rise) (fall := fall) (s := s) (b := b) (x := x) h
      have h2 := ih _ h1.1
      rw [List.foldl_cons, List.length_cons]
      omega
  have := key l (true, 0) (Int.le_refl _)
  unfold rUp; simpa using this
attribute [local irreducible] rUp
section
variable (rise fall s b : Int) (l : List Rp) (v : Value)
theorem rup_t (hl : l.length ≤ 100000) : Triple Try.prog 50 #[v, .int .i64 rise, .int .i64 fall, .int .i64 s, .int .i64 b] [rdN v l.length (l.map fun x => flat (repC x)).flatten] (RVal (.bool (rUp rise fall s b l).1)) := by
  obtain ⟨C, hC⟩ : ∃ C, C = (l.map fun x => flat (repC x)).flatten := ⟨_, rfl⟩
  have hCl : C.length = l.length * 3 := by rw [hC]; exact rows_len repC_len
  have hat : ∀ i x, l[i]? = some x → C[i * 3 + 0]? = some (.int .i64 x.1) ∧ C[i * 3 + 1]? = some (.int .i64 x.2.1) ∧ C[i * 3 + 2]? = some (.int .i64 x.2.2) := fun i x hx => by
    rw [hC]
    exact ⟨rows_at repC_len hx (by omega) rfl, rows_at repC_len hx (by omega) rfl, rows_at repC_len hx (by omega) rfl⟩
  rw [← hC]
  clear hC
  refine Triple.enter Try.func50 rfl Try.ntmps50 rfl (fun W => ?_)
  dsimp only [argsF, Nat.reduceAdd]
  repeat' (first
   | refine WPl.nil ?_ | refine WPq.then ?_ | refine WPq.thenR ?_ | refine WPq.thenE ?_ | refine WPq.blockN ?_ | refine WPq.blockR ?_ | refine WPq.blockE ?_ | refine WPq.blockO rfl ?_ | refine WPc.seq ?_ | refine WPc.block ?_ | refine WPc.ret ?_ | refine WPc.exit ?_ | refine WPc.skip ?_ | refine WPc.region ?_
   | (refine isCond ?_; first | refine WPc.cT ?_ | refine WPc.cF ?_ | (refine WPc.cQ (fun hc => ?_) (fun hc => ?_) <;> try exact prA))
   | (refine isOp ?_; first | refine WPl.rd ?_ | refine WPl.sk ?_ | refine WPl.rdB ?_)
   | (show WPl _ _ _ _ _ _ _ (⟨_, .indexAddr _ _ _, _, _, _, _⟩ :: _) _; refine WPl.rdX (ReadR.indexE rfl rfl hasA (by first | assumption | omega)) ?_)
   | (show WPl _ _ _ _ _ _ _ (⟨_, .fieldAddr _ _ _, _, _, _, _⟩ :: _) _; refine WPl.rdX (ReadR.fieldE rfl hasA (by first | assumption | omega)) ?_)
   | (show WPl _ _ _ _ _ _ _ (⟨_, .load _ _, _, _, _, _⟩ :: _) _; first | refine WPl.rdX (ReadR.loadE rfl hasA (by assumption)) ?_ | refine WPl.rdX (ReadR.loadES (by assumption) (by first | assumption | omega) rfl hasA) ?_)
   | (show WPl _ _ _ _ _ _ _ (⟨_, .slice _ _ _ _ _, _, _, _, _⟩ :: _) _; first | refine WPl.rdX (ReadR.sliceH rfl rfl hasA (by omega)) ?_ | refine WPl.rdX (ReadR.sliceL rfl rfl hasA (by omega)) ?_ | refine WPl.rdX (ReadR.sliceLH rfl rfl rfl hasA (by omega) (by omega)) ?_)
   | (refine WPl.spQ (fun hc => ?_) (fun hc => ?_) <;> try exact prA)
   | fail)
  first | refine WPc.loop (σ := Nat × Bool × Int) (fun st => st.1 ≤ l.length ∧ (st.2.1, st.2.2) = rUp rise fall s b (l.take st.1)) (fun st => [rdN v l.length C]) (fun st => [(0, v), (1, .int .i64 rise), (2, .int .i64 fall), (3, .int .i64 s), (4, .int .i64 b), (11, .bool st.2.1), (12, .int .i64 st.2.2), (13, .int .i64 st.1)]) (fun st => l.length - st.1) ((0, true, 0)) ?_ takesA frsA (fun st km hx hk => ?_)
  · exact ⟨Nat.zero_le _, by unfold rUp; rfl⟩
  obtain ⟨i, up, row⟩ := st
  obtain ⟨hi, he⟩ := hx
  dsimp only at hi he hk ⊢
  have hrow := rUp_row (rise := rise) (fall := fall) (s := s) (b := b) (l := l.take i)
  rw [← he] at hrow
  have htl : (l.take i).length ≤ 100000 := by rw [List.length_take]; omega
  dsimp only at hrow
  by_cases hin : i < l.length
  · obtain ⟨x, hx⟩ : ∃ x, l[i]? = some x := ⟨_, List.getElem?_eq_getElem hin⟩
    have hsn : l.take (i + 1) = l.take i ++ [x] := by rw [List.take_add_one, hx]; rfl
    have hst : rUp rise fall s b (l.take (i + 1)) = rUp1 rise fall s b (up, row) x := by rw [hsn, rUp_snoc, ← he]
    obtain ⟨x0, x1, x2⟩ := x
    obtain ⟨a0, a1, a2⟩ := hat i _ hx
    dsimp only at a0 a1 a2
    have hlt : i * 3 < C.length := by omega
    clear hat hx hsn he
    repeat' (first
     | refine WPl.nil ?_ | refine WPq.then ?_ | refine WPq.thenR ?_ | refine WPq.thenE ?_ | refine WPq.blockN ?_ | refine WPq.blockR ?_ | refine WPq.blockE ?_ | refine WPq.blockO rfl ?_ | refine WPc.seq ?_ | refine WPc.block ?_ | refine WPc.ret ?_ | refine WPc.exit ?_ | refine WPc.skip ?_ | refine WPc.region ?_
     | (refine isCond ?_; first | refine WPc.cT ?_ | refine WPc.cF ?_ | (refine WPc.cQ (fun hc => ?_) (fun hc => ?_) <;> try exact prA))
     | (refine isOp ?_; first | refine WPl.rd ?_ | refine WPl.sk ?_ | refine WPl.rdB ?_)
     | (show WPl _ _ _ _ _ _ _ (⟨_, .indexAddr _ _ _, _, _, _, _⟩ :: _) _; refine WPl.rdX (ReadR.indexE rfl rfl hasA (by first | assumption | omega)) ?_)
     | (show WPl _ _ _ _ _ _ _ (⟨_, .fieldAddr _ _ _, _, _, _, _⟩ :: _) _; refine WPl.rdX (ReadR.fieldE rfl hasA (by first | assumption | omega)) ?_)
     | (show WPl _ _ _ _ _ _ _ (⟨_, .load _ _, _, _, _, _⟩ :: _) _; first | refine WPl.rdX (ReadR.loadE rfl hasA (by assumption)) ?_ | refine WPl.rdX (ReadR.loadES (by assumption) (by first | assumption | omega) rfl hasA) ?_)
     | (show WPl _ _ _ _ _ _ _ (⟨_, .slice _ _ _ _ _, _, _, _, _⟩ :: _) _; first | refine WPl.rdX (ReadR.sliceH rfl rfl hasA (by omega)) ?_ | refine WPl.rdX (ReadR.sliceL rfl rfl hasA (by omega)) ?_ | refine WPl.rdX (ReadR.sliceLH rfl rfl rfl hasA (by omega) (by omega)) ?_)
     | (refine WPl.spQ (fun hc => ?_) (fun hc => ?_) <;> try exact prA)
     | fail)
    all_goals first
      | exact WPq.rnd (i + 1, up, row) ⟨by dsimp only; omega, (by rw [hst]; unfold rUp1; dsimp only; (repeat' split); all_goals first | rfl | (exfalso; omega) | (simp_all; done) | (exfalso; simp_all; omega))⟩ (by dsimp only; omega)
      | exact WPq.rnd (i + 1, true, 0) ⟨by dsimp only; omega, (by rw [hst]; unfold rUp1; dsimp only; (repeat' split); all_goals first | rfl | (exfalso; omega) | (simp_all; done) | (exfalso; simp_all; omega))⟩ (by dsimp only; omega)
      | exact WPq.rnd (i + 1, up, 0) ⟨by dsimp only; omega, (by rw [hst]; unfold rUp1; dsimp only; (repeat' split); all_goals first | rfl | (exfalso; omega) | (simp_all; done) | (exfalso; simp_all; omega))⟩ (by dsimp only; omega)
      | exact WPq.rnd (i + 1, !up, 0) ⟨by dsimp only; omega, (by rw [hst]; unfold rUp1; dsimp only; (repeat' split); all_goals first | rfl | (exfalso; omega) | (simp_all; done) | (exfalso; simp_all; omega))⟩ (by dsimp only; omega)
      | exact WPq.rnd (i + 1, up, row + 1) ⟨by dsimp only; omega, (by rw [hst]; unfold rUp1; dsimp only; (repeat' split); all_goals first | rfl | (exfalso; omega) | (simp_all; done) | (exfalso; simp_all; omega))⟩ (by dsimp only; omega)
      | (exfalso; omega)
  · have hil : i = l.length := by omega
    have : rUp rise fall s b l = (up, row) := by rw [he, hil, List.take_length]
    rw [this]
    repeat' (first
     | refine WPl.nil ?_ | refine WPq.then ?_ | refine WPq.thenR ?_ | refine WPq.thenE ?_ | refine WPq.blockN ?_ | refine WPq.blockR ?_ | refine WPq.blockE ?_ | refine WPq.blockO rfl ?_ | refine WPc.seq ?_ | refine WPc.block ?_ | refine WPc.ret ?_ | refine WPc.exit ?_ | refine WPc.skip ?_ | refine WPc.region ?_
     | (refine isCond ?_; first | refine WPc.cT ?_ | refine WPc.cF ?_ | (refine WPc.cQ (fun hc => ?_) (fun hc => ?_) <;> try exact prA))
     | (refine isOp ?_; first | refine WPl.rd ?_ | refine WPl.sk ?_ | refine WPl.rdB ?_)
     | (show WPl _ _ _ _ _ _ _ (⟨_, .indexAddr _ _ _, _, _, _, _⟩ :: _) _; refine WPl.rdX (ReadR.indexE rfl rfl hasA (by first | assumption | omega)) ?_)
     | (show WPl _ _ _ _ _ _ _ (⟨_, .fieldAddr _ _ _, _, _, _, _⟩ :: _) _; refine WPl.rdX (ReadR.fieldE rfl hasA (by first | assumption | omega)) ?_)
     | (show WPl _ _ _ _ _ _ _ (⟨_, .load _ _, _, _, _, _⟩ :: _) _; first | refine WPl.rdX (ReadR.loadE rfl hasA (by assumption)) ?_ | refine WPl.rdX (ReadR.loadES (by assumption) (by first | assumption | omega) rfl hasA) ?_)
     | (show WPl _ _ _ _ _ _ _ (⟨_, .slice _ _ _ _ _, _, _, _, _⟩ :: _) _; first | refine WPl.rdX (ReadR.sliceH rfl rfl hasA (by omega)) ?_ | refine WPl.rdX (ReadR.sliceL rfl rfl hasA (by omega)) ?_ | refine WPl.rdX (ReadR.sliceLH rfl rfl rfl hasA (by omega) (by omega)) ?_)
     | (refine WPl.spQ (fun hc => ?_) (fun hc => ?_) <;> try exact prA)
     | fail)
    all_goals first | exact WPq.dV | (exfalso; omega)
end
end Go.Proofs.Ytncgponcedkihaa
