/- Layer 21 (health): what lives. -/
import Derived.Test.YtncgponcedkihaaHf
namespace Go.Proofs.Ytncgponcedkihaa
open Go.RowKit
set_option linter.unusedSimpArgs false
set_option linter.unusedVariables false
set_option maxRecDepth 20000
set_option maxHeartbeats 4000000
attribute [local irreducible] WPc WPl WPq ReadR OpT BinR HasS bx rdN rowN Take Takes Prov Triple ResF BuildP Done ag Int.decLt Int.decLe Int.instDecidableEq
theorem mget_nil {k : Int × Int} : mget whoM [] k = (false, 0) := rfl
theorem mget_same {L : HL} {k : Int × Int} {s : Bool × Int} : mget whoM (mput L k s) k = s := by rw [mget_put, if_pos rfl]
theorem i64_1 : in64 1 := by unfold in64; omega
theorem i64_2 : in64 2 := by unfold in64; omega
abbrev repC (x : Int × Int × Int) : Ch := [(1, [.int .i64 x.1]), (1, [.int .i64 x.2.1]), (1, [.int .i64 x.2.2])]
theorem repC_len (x : Int × Int × Int) : (flat (repC x)).length = 3 := rfl
attribute [local irreducible] mput mget mfind
theorem hlives_t : Triple Try.prog 49 #[] [] (RVal (.bool true)) := by
  have c0 := hnew_t 1 2 (by omega) (by omega)
  obtain ⟨L1, h1⟩ : ∃ L1, L1 = mput ([] : HL) (1, 2) (false, 1) := ⟨_, rfl⟩
  have c1 := fun gh m => hreport_t gh m 1 2 1 2 false [] (false, 1) false (by rw [mget_nil]; decide +kernel) i64_1 i64_2
  have e1 : mget whoM L1 (1, 2) = (false, 1) := by rw [h1, mget_same]
  rw [← h1] at c1
  obtain ⟨L2, h2⟩ : ∃ L2, L2 = mput L1 (1, 2) (true, 0) := ⟨_, rfl⟩
  have c2 := fun gh m => hreport_t gh m 1 2 1 2 false L1 (true, 0) true (by rw [e1]; decide +kernel) i64_1 i64_2
  have e2 : mget whoM L2 (1, 2) = (true, 0) := by rw [h2, mget_same]
  rw [← h2] at c2
  obtain ⟨L3, h3⟩ : ∃ L3, L3 = mput L2 (1, 2) (false, 0) := ⟨_, rfl⟩
  have c3 := fun gh m => hup_t gh m 1 2 1 2 L2 i64_1 i64_2
  rw [e2] at c3
  have c4 := fun gh m => hreport_t gh m 1 2 1 2 true L2 (false, 0) true (by rw [e2]; decide +kernel) i64_1 i64_2
  have e3 : mget whoM L3 (1, 2) = (false, 0) := by rw [h3, mget_same]
  rw [← h3] at c4
  have c5 := fun gh m => hup_t gh m 1 2 1 2 L3 i64_1 i64_2
  rw [e3] at c5
  clear h1 h2 h3 e1 e2 e3
  refine Triple.enter Try.func49 rfl Try.ntmps49 rfl (fun W => ?_)
  dsimp only [argsF, Nat.reduceAdd]
  repeat' (first
   | refine WPl.nil ?_ | refine WPq.then ?_ | refine WPq.thenR ?_ | refine WPq.thenE ?_ | refine WPq.blockN ?_ | refine WPq.blockR ?_ | refine WPq.blockE ?_ | refine WPq.blockO rfl ?_ | refine WPc.seq ?_ | refine WPc.block ?_ | refine WPc.ret ?_ | refine WPc.exit ?_ | refine WPc.skip ?_ | refine WPc.region ?_
   | (refine isCond ?_; first | refine WPc.cT ?_ | refine WPc.cF ?_ | (refine WPc.cQ (fun hc => ?_) (fun hc => ?_) <;> try exact prA))
   | (refine isC 7 ?_; refine WPl.cXs (c0) fun v Γ1 hR => ?_; obtain ⟨gh, m, rfl, rfl⟩ := hR; (try dsimp only [putF, List.cons_append, List.nil_append]))
   | (refine isC 11 ?_; refine WPl.cTs (c1 _ _) ?_; (try dsimp only [putF, List.cons_append, List.nil_append]))
   | (refine isC 13 ?_; refine WPl.cTs (c2 _ _) ?_; (try dsimp only [putF, List.cons_append, List.nil_append]))
   | (refine isC 15 ?_; refine WPl.cTs (c3 _ _) ?_; (try dsimp only [putF, List.cons_append, List.nil_append]))
   | (refine isC 31 ?_; refine WPl.cTs (c4 _ _) ?_; (try dsimp only [putF, List.cons_append, List.nil_append]))
   | (refine isC 35 ?_; refine WPl.cTs (c5 _ _) ?_; (try dsimp only [putF, List.cons_append, List.nil_append]))
   | (refine isOp ?_; first | refine WPl.rd ?_ | refine WPl.sk ?_ | refine WPl.rdB ?_)
   | (show WPl _ _ _ _ _ _ _ (⟨_, .indexAddr _ _ _, _, _, _, _⟩ :: _) _; refine WPl.rdX (ReadR.indexE rfl rfl hasA (by first | assumption | omega)) ?_)
   | (show WPl _ _ _ _ _ _ _ (⟨_, .fieldAddr _ _ _, _, _, _, _⟩ :: _) _; refine WPl.rdX (ReadR.fieldE rfl hasA (by first | assumption | omega)) ?_)
   | (show WPl _ _ _ _ _ _ _ (⟨_, .load _ _, _, _, _, _⟩ :: _) _; first | refine WPl.rdX (ReadR.loadE rfl hasA (by assumption)) ?_ | refine WPl.rdX (ReadR.loadES (by assumption) (by first | assumption | omega) rfl hasA) ?_)
   | (show WPl _ _ _ _ _ _ _ (⟨_, .slice _ _ _ _ _, _, _, _, _⟩ :: _) _; first | refine WPl.rdX (ReadR.sliceH rfl rfl hasA (by omega)) ?_ | refine WPl.rdX (ReadR.sliceL rfl rfl hasA (by omega)) ?_ | refine WPl.rdX (ReadR.sliceLH rfl rfl rfl hasA (by omega) (by omega)) ?_)
   | (refine WPl.spQ (fun hc => ?_) (fun hc => ?_) <;> try exact prA)
   | fail)
  all_goals try (first | exact WPq.dTp | exact WPq.dTs | exact WPq.dV | exact WPq.dR | exact WPq.dR2 | exact WPq.dH | exact WPq.dBH | exact WPq.dT)
end Go.Proofs.Ytncgponcedkihaa
