/- The row of GateNone: for every input the law returns true, and nothing that was there turns. -/
import Derived.Test.YtpilenbdimhegaaGreatDoorGNo12
import Derived.Test.YtpilenbdimhegaaGreatDoorTie
import Derived.Test.YtpilenbdimhegaaGreatDoorCards
import Derived.SevenTiedAt
namespace Go.Proofs.YtpilenbdimhegaaGreatDoor
open Go.ChangeShapes Go.WideShapes Go.ChangeAt Go.RowKit
set_option linter.unusedVariables false
set_option maxHeartbeats 4000000 in
theorem gateNone_joined : joinedFacts Tryz.prog 6 Tryz.f6 Rows.gateNoneSpec Rows.gateNoneRow = true := by
  unfold joinedFacts
  simp only [Bool.and_eq_true]
  (repeat' apply And.intro)
  (all_goals try (with_reducible exact Tryz.enters))
  (all_goals try ((with_reducible refine lifts_of ?_); rfl))
  (all_goals try ((with_reducible refine made_of ?_); rfl))
  (all_goals (as_aux_lemma => kernel_rfl))

theorem gateNone_holds : Rows.GateNoneSaid :=
  OpenClaim.holds_of_wide 6 Tryz.f6 rfl rfl rfl rfl rfl rfl rfl ⟨rfl, rfl, rfl, rfl, rfl⟩ rfl rfl rfl rfl rfl (by kernel_rfl) Tryz.func6 gateNone_joined
    (of_decide_eq_true (by kernel_rfl)) (by unfold Func.isWrapper; first | (rw [if_pos (by decide +kernel)]; kernel_rfl) | (rw [if_neg (by decide +kernel)]; exact ⟨rfl, rfl⟩))
    (fun os started H enc _ => gateNone_lifted os started H enc)

/-- The tied card: the row, its three tables tied to the program's text. -/
theorem gateNone_card_holds : Rows.GateNoneCardSaid :=
  Claim7.holds_tied_plain_at .later [] [.data, .data, .data] true (true, "da90effdec05283f5c303f57d837f5ac57dfa710752aa5a28eb345431e965959") false
    gateNone_holds (fun _ h => by cases h) (by kernel_rfl) (fun _ h => by cases h) gateNone_row_tie rfl ⟨rfl, rfl⟩ (by kernel_rfl) rfl
    (fun f fn hf hfn => by
      obtain rfl : f = 6 := Option.some.inj ((show Tryz.prog.funcNamed "stanchion/stanchionlaw42.GateNone" = some 6 by kernel_rfl).symm.trans hf) |>.symm
      obtain rfl : fn = Tryz.f6 := (Option.some.inj (Tryz.func6.symm.trans hfn)).symm
      exact ⟨by kernel_rfl, fun j t ht => by
        rw [Tryz.params6] at ht
        have h3 : t = 41 := by
          rcases j with _ | j
          · simpa using ht.symm
          · simp at ht
        subst h3
        exact (show Tryz.prog.wantsStandIn 41 = false by kernel_rfl)⟩)
    (by kernel_rfl)

end Go.Proofs.YtpilenbdimhegaaGreatDoor
