/- The statements of layer 24 (tmpl): each returns true. -/
import Derived.Test.YteofjhjhaaafjaaTq
namespace Go.Proofs.Yteofjhjhaaafjaa
open Go.RowKit
set_option linter.unusedSimpArgs false
set_option linter.unusedVariables false
set_option maxRecDepth 20000
set_option maxHeartbeats 400000
attribute [local irreducible] WPc WPl WPq ReadR OpT BinR HasS bx rdN rowN Take Takes Prov Triple ResF BuildP Done ag Int.decLt Int.decLe Int.instDecidableEq

theorem tmplReads_t (u1 u2 : Value) (key vl : List UInt8) : Triple Try.prog 5 #[u1, u2] [rb u1 key, rb u2 vl] (RVal (.bool true)) := by
  have hl1 : (key.take 30).length ≤ 30 := List.length_take_le _ _
  have hl2 : (vl.take 14).length ≤ 14 := List.length_take_le _ _
  have hlive := tlives_t
  have h1 := fun x y => tof_t x y (key.take 30) (vl.take 14) (by omega) (by omega)
  have h2 := fun x y => rof_t x y (key.take 30) (vl.take 14) (by omega) (by omega)
  cases ho : tOk (key.take 30) (vl.take 14) with
  | false =>
    rw [tVal_no ho] at h1 h2
    refine Triple.enter Try.func5 rfl Try.ntmps5 rfl (fun W => ?_)
    dsimp only [argsF, Nat.reduceAdd]
    repeat' (first
      | refine WPl.nil ?_
      | refine WPq.then ?_
      | refine WPq.thenR ?_
      | refine WPq.thenE ?_
      | refine WPq.blockN ?_
      | refine WPq.blockR ?_
      | refine WPq.blockE ?_
      | refine WPq.blockO rfl ?_
      | refine WPc.seq ?_
      | refine WPc.block ?_
      | refine WPc.ret ?_
      | refine WPc.exit ?_
      | refine WPc.skip ?_
      | refine WPc.region ?_
      | ((show WPc _ _ _ _ _ _ (.cond _ _ _) _; first | refine WPc.cT ?_ | refine WPc.cF ?_ | (refine WPc.cS (fun hc => ?_) (fun hc => ?_) <;> (try simp only [decide_eq_true_eq, decide_eq_false_iff_not, Bool.not_eq_true', Bool.not_eq_false', Bool.and_eq_true, Bool.or_eq_true, Bool.and_eq_false_iff, Bool.or_eq_false_iff, Bool.not_true, Bool.not_false, Int.not_lt, Int.not_le] at hc) <;> (try (exfalso; first | omega | exact clash1 hc (by assumption) | exact clash2 hc (by assumption) | exact hc (by assumption) | exact absurd hc (by assumption))))))
      | ((show WPl _ _ _ _ _ _ _ (⟨_, .call ⟨.value _, _, _⟩, _, _, _, _⟩ :: _) _; refine WPl.cR (few_t u1 key 30 (by omega)) fun v hv => ?_))
      | ((show WPl _ _ _ _ _ _ _ (⟨_, .call ⟨.value _, _, _⟩, _, _, _, _⟩ :: _) _; refine WPl.cR (few_t u2 vl 14 (by omega)) fun v hv => ?_))
      | ((show WPl _ _ _ _ _ _ _ (⟨_, .buildSlice _ _ _, _, _, _, _⟩ :: _) _; refine WPl.lit fun v hv => ?_))
      | ((show WPl _ _ _ _ _ _ _ (⟨_, .call ⟨.builtin .append, _, _⟩, _, _, _, _⟩ :: _) _; refine WPl.app fun v hv => ?_))
      | ((show WPl _ _ _ _ _ _ _ (⟨_, .call ⟨.value _, _, _⟩, _, _, _, _⟩ :: _) _; refine WPl.cV (h1 _ _) ?_))
      | ((show WPl _ _ _ _ _ _ _ (⟨_, .call ⟨.value _, _, _⟩, _, _, _, _⟩ :: _) _; refine WPl.cV (h2 _ _) ?_))
      | ((show WPl _ _ _ _ _ _ _ (⟨_, .call ⟨.value _, _, _⟩, _, _, _, _⟩ :: _) _; refine WPl.cV (hlive) ?_))
      | ((show WPl _ _ _ _ _ _ _ (_ :: _) _; refine WPl.rdX (ReadR.binE rfl rfl (BinR.eqlA eqcA) (congrArg Value.bool (by simp : _ = true))) ?_))
      | ((show WPl _ _ _ _ _ _ _ (⟨_, .call ⟨.builtin .copy, _, _⟩, _, _, _, _⟩ :: _) _; first | refine WPl.cpA fun v => ?_ | refine WPl.cpE fun v => ?_))
      | ((show WPl _ _ _ _ _ _ _ (⟨_, .makeSlice _ _ _, _, _, _, _⟩ :: _) _; refine WPl.mk fun v hv => ?_))
      | ((show WPl _ _ _ _ _ _ _ (_ :: _) _; first | refine WPl.rd ?_ | refine WPl.sk ?_ | refine WPl.rdB ?_))
      | ((show WPl _ _ _ _ _ _ _ (⟨_, .alloc _, _, _, _, _⟩ :: _) _; refine WPl.nw fun g => ?_))
      | ((show WPl _ _ _ _ _ _ _ (⟨_, .box _ _, _, _, _, _⟩ :: _) _; refine WPl.nw fun g => ?_))
      | ((show WPl _ _ _ _ _ _ _ (⟨_, .store _ _ _, _, _, _, _⟩ :: _) _; first | refine WPl.st1 ?_ | refine WPl.stA ?_ | refine WPl.stEB ?_ | refine WPl.stRB ?_))
      | ((show WPl _ _ _ _ _ _ _ (_ :: _) _; refine WPl.spl (fun hc => ?_) (fun hc => ?_) <;> (try simp only [decide_eq_true_eq, decide_eq_false_iff_not, Bool.not_eq_true', Bool.not_eq_false', Bool.and_eq_true, Bool.or_eq_true, Bool.and_eq_false_iff, Bool.or_eq_false_iff, Bool.not_true, Bool.not_false, Int.not_lt, Int.not_le] at hc) <;> (try (exfalso; first | omega | exact clash1 hc (by assumption) | exact clash2 hc (by assumption) | exact hc (by assumption) | exact absurd hc (by assumption)))))
      | fail)
    all_goals try (first
      | exact WPq.dV
      | exact WPq.dR
      | exact WPq.dR2
      | exact WPq.dH
      | exact WPq.dBH
      | exact WPq.dT)
  | true =>
    rw [tVal_yes ho] at h1 h2
    refine Triple.enter Try.func5 rfl Try.ntmps5 rfl (fun W => ?_)
    dsimp only [argsF, Nat.reduceAdd]
    repeat' (first
      | refine WPl.nil ?_
      | refine WPq.then ?_
      | refine WPq.thenR ?_
      | refine WPq.thenE ?_
      | refine WPq.blockN ?_
      | refine WPq.blockR ?_
      | refine WPq.blockE ?_
      | refine WPq.blockO rfl ?_
      | refine WPc.seq ?_
      | refine WPc.block ?_
      | refine WPc.ret ?_
      | refine WPc.exit ?_
      | refine WPc.skip ?_
      | refine WPc.region ?_
      | ((show WPc _ _ _ _ _ _ (.cond _ _ _) _; first | refine WPc.cT ?_ | refine WPc.cF ?_ | (refine WPc.cS (fun hc => ?_) (fun hc => ?_) <;> (try simp only [decide_eq_true_eq, decide_eq_false_iff_not, Bool.not_eq_true', Bool.not_eq_false', Bool.and_eq_true, Bool.or_eq_true, Bool.and_eq_false_iff, Bool.or_eq_false_iff, Bool.not_true, Bool.not_false, Int.not_lt, Int.not_le] at hc) <;> (try (exfalso; first | omega | exact clash1 hc (by assumption) | exact clash2 hc (by assumption) | exact hc (by assumption) | exact absurd hc (by assumption))))))
      | ((show WPl _ _ _ _ _ _ _ (⟨_, .call ⟨.value _, _, _⟩, _, _, _, _⟩ :: _) _; refine WPl.cR (few_t u1 key 30 (by omega)) fun v hv => ?_))
      | ((show WPl _ _ _ _ _ _ _ (⟨_, .call ⟨.value _, _, _⟩, _, _, _, _⟩ :: _) _; refine WPl.cR (few_t u2 vl 14 (by omega)) fun v hv => ?_))
      | ((show WPl _ _ _ _ _ _ _ (⟨_, .buildSlice _ _ _, _, _, _, _⟩ :: _) _; refine WPl.lit fun v hv => ?_))
      | ((show WPl _ _ _ _ _ _ _ (⟨_, .call ⟨.builtin .append, _, _⟩, _, _, _, _⟩ :: _) _; refine WPl.app fun v hv => ?_))
      | ((show WPl _ _ _ _ _ _ _ (⟨_, .call ⟨.value _, _, _⟩, _, _, _, _⟩ :: _) _; refine WPl.cV (h1 _ _) ?_))
      | ((show WPl _ _ _ _ _ _ _ (⟨_, .call ⟨.value _, _, _⟩, _, _, _, _⟩ :: _) _; refine WPl.cV (h2 _ _) ?_))
      | ((show WPl _ _ _ _ _ _ _ (⟨_, .call ⟨.value _, _, _⟩, _, _, _, _⟩ :: _) _; refine WPl.cV (hlive) ?_))
      | ((show WPl _ _ _ _ _ _ _ (_ :: _) _; refine WPl.rdX (ReadR.binE rfl rfl (BinR.eqlA eqcA) (congrArg Value.bool (by simp : _ = true))) ?_))
      | ((show WPl _ _ _ _ _ _ _ (⟨_, .call ⟨.builtin .copy, _, _⟩, _, _, _, _⟩ :: _) _; first | refine WPl.cpA fun v => ?_ | refine WPl.cpE fun v => ?_))
      | ((show WPl _ _ _ _ _ _ _ (⟨_, .makeSlice _ _ _, _, _, _, _⟩ :: _) _; refine WPl.mk fun v hv => ?_))
      | ((show WPl _ _ _ _ _ _ _ (_ :: _) _; first | refine WPl.rd ?_ | refine WPl.sk ?_ | refine WPl.rdB ?_))
      | ((show WPl _ _ _ _ _ _ _ (⟨_, .alloc _, _, _, _, _⟩ :: _) _; refine WPl.nw fun g => ?_))
      | ((show WPl _ _ _ _ _ _ _ (⟨_, .box _ _, _, _, _, _⟩ :: _) _; refine WPl.nw fun g => ?_))
      | ((show WPl _ _ _ _ _ _ _ (⟨_, .store _ _ _, _, _, _, _⟩ :: _) _; first | refine WPl.st1 ?_ | refine WPl.stA ?_ | refine WPl.stEB ?_ | refine WPl.stRB ?_))
      | ((show WPl _ _ _ _ _ _ _ (_ :: _) _; refine WPl.spl (fun hc => ?_) (fun hc => ?_) <;> (try simp only [decide_eq_true_eq, decide_eq_false_iff_not, Bool.not_eq_true', Bool.not_eq_false', Bool.and_eq_true, Bool.or_eq_true, Bool.and_eq_false_iff, Bool.or_eq_false_iff, Bool.not_true, Bool.not_false, Int.not_lt, Int.not_le] at hc) <;> (try (exfalso; first | omega | exact clash1 hc (by assumption) | exact clash2 hc (by assumption) | exact hc (by assumption) | exact absurd hc (by assumption)))))
      | fail)
    all_goals try (first
      | exact WPq.dV
      | exact WPq.dR
      | exact WPq.dR2
      | exact WPq.dH
      | exact WPq.dBH
      | exact WPq.dT)
end Go.Proofs.Yteofjhjhaaafjaa
