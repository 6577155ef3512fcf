/- Prefixes compared. -/
import Derived.Test.YtncgponcedkihaaPx
namespace Go.Proofs.Ytncgponcedkihaa
open Go.RowKit
set_option linter.unusedSimpArgs false
set_option linter.unusedVariables false
set_option maxRecDepth 20000
set_option maxHeartbeats 4000000
attribute [local irreducible] WPc WPl WPq ReadR OpT BinR HasS bx rdN rowN Take Takes Prov Triple ResF BuildP Done ag Int.decLt Int.decLe Int.instDecidableEq
theorem pf_eqb (a b : Pf) : (a.1.six == b.1.six && (decide (a.1.b = b.1.b) && (decide (a.2 = b.2) && true))) = decide (a = b) := by
  rw [Bool.eq_iff_iff]
  simp only [Bool.and_true, Bool.and_eq_true, beq_iff_eq, decide_eq_true_eq]
  constructor
  · rintro ⟨h1, h2, h3⟩; exact Prod.ext (Adr.ext h1 h2) h3
  · rintro rfl; exact ⟨rfl, rfl, rfl⟩
theorem BinR.pfE {a b : Pf} : BinR Try.prog .eql 34 (ag (pfc a)) (ag (pfc b)) (.bool (decide (a = b))) := by
  have l1 := a.1.len
  have l2 := b.1.len
  rw [← pf_eqb]
  exact BinR.eqlA eqcA
theorem BinR.pfN {a b : Pf} : BinR Try.prog .neq 34 (ag (pfc a)) (ag (pfc b)) (.bool (!decide (a = b))) := by
  have l1 := a.1.len
  have l2 := b.1.len
  rw [← pf_eqb]
  exact BinR.neqA eqcA
end Go.Proofs.Ytncgponcedkihaa
