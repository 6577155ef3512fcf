/- The row of GateHeld: for every input the law returns true, and nothing that was there turns. -/
import Derived.Test.YtpilenbdimhegaaGreatDoorGHe12
import Derived.Test.YtpilenbdimhegaaGreatDoorTie
import Derived.Test.YtpilenbdimhegaaGreatDoorCards
import Derived.SevenTiedAt
namespace Go.Proofs.YtpilenbdimhegaaGreatDoor
open Go.ChangeShapes Go.WideShapes Go.ChangeAt Go.RowKit
set_option linter.unusedVariables false
set_option maxHeartbeats 4000000 in
theorem gateHeld_joined : joinedFacts Tryz.prog 4 Tryz.f4 Rows.gateHeldSpec Rows.gateHeldRow = true := by
  unfold joinedFacts
  simp only [Bool.and_eq_true]
  (repeat' apply And.intro)
  (all_goals try (with_reducible exact Tryz.enters))
  (all_goals try ((with_reducible refine lifts_of ?_); rfl))
  (all_goals try ((with_reducible refine made_of ?_); rfl))
  (all_goals (as_aux_lemma => kernel_rfl))

theorem gateHeld_holds : Rows.GateHeldSaid :=
  OpenClaim.holds_of_wide 4 Tryz.f4 rfl rfl rfl rfl rfl rfl rfl ⟨rfl, rfl, rfl, rfl, rfl⟩ rfl rfl rfl rfl rfl (by kernel_rfl) Tryz.func4 gateHeld_joined
    (of_decide_eq_true (by kernel_rfl)) (by unfold Func.isWrapper; first | (rw [if_pos (by decide +kernel)]; kernel_rfl) | (rw [if_neg (by decide +kernel)]; exact ⟨rfl, rfl⟩))
    (fun os started H enc _ => gateHeld_lifted os started H enc)

/-- The tied card: the row, its three tables tied to the program's text. -/
theorem gateHeld_card_holds : Rows.GateHeldCardSaid :=
  Claim7.holds_tied_plain_at .later [] [.data, .data, .data] true (true, "da90effdec05283f5c303f57d837f5ac57dfa710752aa5a28eb345431e965959") false
    gateHeld_holds (fun _ h => by cases h) (by kernel_rfl) (fun _ h => by cases h) gateHeld_row_tie rfl ⟨rfl, rfl⟩ (by kernel_rfl) rfl
    (fun f fn hf hfn => by
      obtain rfl : f = 4 := Option.some.inj ((show Tryz.prog.funcNamed "stanchion/stanchionlaw42.GateHeld" = some 4 by kernel_rfl).symm.trans hf) |>.symm
      obtain rfl : fn = Tryz.f4 := (Option.some.inj (Tryz.func4.symm.trans hfn)).symm
      exact ⟨by kernel_rfl, fun j t ht => by
        rw [Tryz.params4] at ht
        have h3 : t = 5 ∨ t = 23 := by
          rcases j with _ | j
          · simp at ht; subst ht; simp
          rcases j with _ | j
          · simp at ht; subst ht; simp
          rcases j with _ | j
          · simp at ht; subst ht; simp
          simp at ht
        rcases h3 with rfl | rfl
        · exact (show Tryz.prog.wantsStandIn 5 = false by kernel_rfl)
        · exact (show Tryz.prog.wantsStandIn 23 = false by kernel_rfl)⟩)
    (by kernel_rfl)

end Go.Proofs.YtpilenbdimhegaaGreatDoor
