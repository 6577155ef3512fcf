/- Layer 23 (flows): no table. -/
import Derived.Test.YtncgponcedkihaaFc
namespace Go.Proofs.Ytncgponcedkihaa
open Go.RowKit
set_option linter.unusedSimpArgs false
set_option linter.unusedVariables false
set_option maxRecDepth 20000
set_option maxHeartbeats 4000000
attribute [local irreducible] WPc WPl WPq ReadR OpT BinR HasS bx rdN rowN Take Takes Prov Triple ResF BuildP Done ag Int.decLt Int.decLe Int.instDecidableEq
attribute [local irreducible] mp mpe mget mfind mput mdel
theorem flowsNone_t (x : Fc) : Triple Try.prog 10 #[ag (fcC x)] [] (RVal (.bool true)) := by
  obtain ⟨k, f, a, now⟩ := x
  have l1 := f.src.len
  have l2 := f.dst.len
  have l3 := a.ad.len
  have c1 := fget0_t f now
  have c2 := fReply0_t f now
  have c3 := fput0_t f a now
  have c4 := fDrop0_t f
  have c5 := fexpire0_t now
  have c6 := fpurge0_t 1 1
  have c7 := flen0_t
  have c8 := flist0_t
  have c9 := flives_t
  refine Triple.enter Try.func10 rfl Try.ntmps10 rfl (fun W => ?_)
  dsimp only [argsF, Nat.reduceAdd]
  repeat' (first
   | refine WPl.nil ?_ | refine WPq.then ?_ | refine WPq.thenR ?_ | refine WPq.thenE ?_ | refine WPq.blockN ?_ | refine WPq.blockR ?_ | refine WPq.blockE ?_ | refine WPq.blockO rfl ?_ | refine WPc.seq ?_ | refine WPc.block ?_ | refine WPc.ret ?_ | refine WPc.exit ?_ | refine WPc.skip ?_ | refine WPc.region ?_
   | (refine isCond ?_; first | refine WPc.cT ?_ | refine WPc.cF ?_ | (refine WPc.cQ (fun hc => ?_) (fun hc => ?_) <;> try exact prA))
   | (refine isC 15 ?_; refine WPl.cV (c1) ?_)
   | (refine isC 24 ?_; refine WPl.cV (c2) ?_)
   | (refine isC 42 ?_; refine WPl.cV (c3) ?_)
   | (refine isC 49 ?_; refine WPl.cV (c4) ?_)
   | (refine isC 56 ?_; refine WPl.cV (c5) ?_)
   | (refine isC 61 ?_; refine WPl.cV (c6) ?_)
   | (refine isC 66 ?_; refine WPl.cV (c7) ?_)
   | (refine isC 71 ?_; refine WPl.cV (c8) ?_)
   | (refine isC 76 ?_; refine WPl.cV (c9) ?_)
   | (refine isOp ?_; first | refine WPl.rd ?_ | refine WPl.sk ?_ | refine WPl.rdB ?_)
   | (refine isAl ?_; refine WPl.nw fun g => ?_)
   | (refine isBx ?_; refine WPl.nw fun g => ?_)
   | (refine isSt ?_; first | refine WPl.st1 ?_ | refine WPl.stA ?_ | refine WPl.stEB ?_ | refine WPl.stRB ?_)
   | (show WPl _ _ _ _ _ _ _ (⟨_, .indexAddr _ _ _, _, _, _, _⟩ :: _) _; refine WPl.rdX (ReadR.indexE rfl rfl hasA (by first | assumption | omega)) ?_)
   | (show WPl _ _ _ _ _ _ _ (⟨_, .fieldAddr _ _ _, _, _, _, _⟩ :: _) _; refine WPl.rdX (ReadR.fieldE rfl hasA (by first | assumption | omega)) ?_)
   | (show WPl _ _ _ _ _ _ _ (⟨_, .load _ _, _, _, _, _⟩ :: _) _; first | refine WPl.rdX (ReadR.loadE rfl hasA (by assumption)) ?_ | refine WPl.rdX (ReadR.loadES (by assumption) (by first | assumption | omega) rfl hasA) ?_)
   | (show WPl _ _ _ _ _ _ _ (⟨_, .slice _ _ _ _ _, _, _, _, _⟩ :: _) _; first | refine WPl.rdX (ReadR.sliceH rfl rfl hasA (by omega)) ?_ | refine WPl.rdX (ReadR.sliceL rfl rfl hasA (by omega)) ?_ | refine WPl.rdX (ReadR.sliceLH rfl rfl rfl hasA (by omega) (by omega)) ?_)
   | (refine WPl.spQ (fun hc => ?_) (fun hc => ?_) <;> try exact prA)
   | fail)
  all_goals first | exact WPq.dV | exact absurd rfl hc | simp at hc
end Go.Proofs.Ytncgponcedkihaa
