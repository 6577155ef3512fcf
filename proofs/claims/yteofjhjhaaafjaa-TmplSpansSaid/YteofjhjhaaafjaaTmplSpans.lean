/- The statements of layer 24 (tmpl): each returns true. -/
import Derived.Test.YteofjhjhaaafjaaTq
namespace Go.Proofs.Yteofjhjhaaafjaa
open Go.RowKit
set_option linter.unusedSimpArgs false
set_option linter.unusedVariables false
set_option maxRecDepth 20000
set_option maxHeartbeats 400000
attribute [local irreducible] WPc WPl WPq ReadR OpT BinR HasS bx rdN rowN Take Takes Prov Triple ResF BuildP Done ag Int.decLt Int.decLe Int.instDecidableEq
attribute [local irreducible] keyL fromL toL cmpL be

theorem tmplSpans_t (sv s : Int) (a : Adr) (n b : Int) (u : Nat) (h1 : -9223372036854775808 ≤ n) (h2 : n ≤ 9223372036854775807) : Triple Try.prog 4 #[.int .i64 sv, ag (tmc s a n b u)] [] (RVal (.bool true)) := by
  have hla := a.len
  have hlive := tlives_t
  have k1 := key_t s a n h1 h2
  have k2 := span_t sv
  have hkl := keyL_len s a n
  cases hv : idB sv with
  | false =>
    have hf0 : (fromL sv).length = 0 := by simp [fromL, hv]
    have ht0 : (toL sv).length = 0 := by simp [toL, hv]
    simp only [idB, Bool.and_eq_false_iff, decide_eq_false_iff_not] at hv
    refine Triple.enter Try.func4 rfl Try.ntmps4 rfl (fun W => ?_)
    dsimp only [argsF, Nat.reduceAdd]
    repeat' (first
      | refine WPl.nil ?_
      | refine WPq.then ?_
      | refine WPq.thenR ?_
      | refine WPq.thenE ?_
      | refine WPq.blockN ?_
      | refine WPq.blockR ?_
      | refine WPq.blockE ?_
      | refine WPq.blockO rfl ?_
      | refine WPc.seq ?_
      | refine WPc.block ?_
      | refine WPc.ret ?_
      | refine WPc.exit ?_
      | refine WPc.skip ?_
      | refine WPc.region ?_
      | ((show WPc _ _ _ _ _ _ (.cond _ _ _) _; first | refine WPc.cT ?_ | refine WPc.cF ?_ | (refine WPc.cS (fun hc => ?_) (fun hc => ?_) <;> (try simp only [decide_eq_true_eq, decide_eq_false_iff_not, Bool.not_eq_true', Bool.not_eq_false', Bool.and_eq_true, Bool.or_eq_true, Bool.and_eq_false_iff, Bool.or_eq_false_iff, Bool.not_true, Bool.not_false, Int.not_lt, Int.not_le] at hc) <;> (try (exfalso; first | omega | exact clash1 hc (by assumption) | exact clash2 hc (by assumption) | exact hc (by assumption) | exact absurd hc (by assumption))))))
      | ((show WPl _ _ _ _ _ _ _ (⟨_, .call ⟨.value _, _, _⟩, _, _, _, _⟩ :: _) _; refine WPl.cRR (k2) fun x hx y hy => ?_))
      | ((show WPl _ _ _ _ _ _ _ (⟨_, .call ⟨.value _, _, _⟩, _, _, _, _⟩ :: _) _; refine WPl.cR2 (k1) fun v hv => ?_))
      | ((show WPl _ _ _ _ _ _ _ (⟨_, .call ⟨.value _, _, _⟩, _, _, _, _⟩ :: _) _; refine WPl.cV (hlive) ?_))
      | ((show WPl _ _ _ _ _ _ _ (⟨_, .call ⟨.builtin .copy, _, _⟩, _, _, _, _⟩ :: _) _; first | refine WPl.cpA fun v => ?_ | refine WPl.cpE fun v => ?_))
      | ((show WPl _ _ _ _ _ _ _ (⟨_, .makeSlice _ _ _, _, _, _, _⟩ :: _) _; refine WPl.mk fun v hv => ?_))
      | ((show WPl _ _ _ _ _ _ _ (_ :: _) _; first | refine WPl.rd ?_ | refine WPl.sk ?_ | refine WPl.rdB ?_))
      | ((show WPl _ _ _ _ _ _ _ (⟨_, .alloc _, _, _, _, _⟩ :: _) _; refine WPl.nw fun g => ?_))
      | ((show WPl _ _ _ _ _ _ _ (⟨_, .box _ _, _, _, _, _⟩ :: _) _; refine WPl.nw fun g => ?_))
      | ((show WPl _ _ _ _ _ _ _ (⟨_, .store _ _ _, _, _, _, _⟩ :: _) _; first | refine WPl.st1 ?_ | refine WPl.stA ?_ | refine WPl.stEB ?_ | refine WPl.stRB ?_))
      | ((show WPl _ _ _ _ _ _ _ (_ :: _) _; refine WPl.spl (fun hc => ?_) (fun hc => ?_) <;> (try simp only [decide_eq_true_eq, decide_eq_false_iff_not, Bool.not_eq_true', Bool.not_eq_false', Bool.and_eq_true, Bool.or_eq_true, Bool.and_eq_false_iff, Bool.or_eq_false_iff, Bool.not_true, Bool.not_false, Int.not_lt, Int.not_le] at hc) <;> (try (exfalso; first | omega | exact clash1 hc (by assumption) | exact clash2 hc (by assumption) | exact hc (by assumption) | exact absurd hc (by assumption)))))
      | fail)
    all_goals try (first
      | exact WPq.dV
      | exact WPq.dR
      | exact WPq.dR2
      | exact WPq.dH
      | exact WPq.dBH
      | exact WPq.dT)
  | true =>
    obtain ⟨m, rfl, hm⟩ := idB_nat hv
    cases ho : keyOk s a n with
    | false =>
      rw [ho] at k1
      refine Triple.enter Try.func4 rfl Try.ntmps4 rfl (fun W => ?_)
      dsimp only [argsF, Nat.reduceAdd]
      repeat' (first
        | refine WPl.nil ?_
        | refine WPq.then ?_
        | refine WPq.thenR ?_
        | refine WPq.thenE ?_
        | refine WPq.blockN ?_
        | refine WPq.blockR ?_
        | refine WPq.blockE ?_
        | refine WPq.blockO rfl ?_
        | refine WPc.seq ?_
        | refine WPc.block ?_
        | refine WPc.ret ?_
        | refine WPc.exit ?_
        | refine WPc.skip ?_
        | refine WPc.region ?_
        | ((show WPc _ _ _ _ _ _ (.cond _ _ _) _; first | refine WPc.cT ?_ | refine WPc.cF ?_ | (refine WPc.cS (fun hc => ?_) (fun hc => ?_) <;> (try simp only [decide_eq_true_eq, decide_eq_false_iff_not, Bool.not_eq_true', Bool.not_eq_false', Bool.and_eq_true, Bool.or_eq_true, Bool.and_eq_false_iff, Bool.or_eq_false_iff, Bool.not_true, Bool.not_false, Int.not_lt, Int.not_le] at hc) <;> (try (exfalso; first | omega | exact clash1 hc (by assumption) | exact clash2 hc (by assumption) | exact hc (by assumption) | exact absurd hc (by assumption))))))
        | ((show WPl _ _ _ _ _ _ _ (⟨_, .call ⟨.value _, _, _⟩, _, _, _, _⟩ :: _) _; refine WPl.cRR (k2) fun x hx y hy => ?_))
        | ((show WPl _ _ _ _ _ _ _ (⟨_, .call ⟨.value _, _, _⟩, _, _, _, _⟩ :: _) _; refine WPl.cR2 (k1) fun v hv => ?_))
        | ((show WPl _ _ _ _ _ _ _ (⟨_, .call ⟨.value _, _, _⟩, _, _, _, _⟩ :: _) _; refine WPl.cV (hlive) ?_))
        | ((show WPl _ _ _ _ _ _ _ (⟨_, .call ⟨.builtin .copy, _, _⟩, _, _, _, _⟩ :: _) _; first | refine WPl.cpA fun v => ?_ | refine WPl.cpE fun v => ?_))
        | ((show WPl _ _ _ _ _ _ _ (⟨_, .makeSlice _ _ _, _, _, _, _⟩ :: _) _; refine WPl.mk fun v hv => ?_))
        | ((show WPl _ _ _ _ _ _ _ (_ :: _) _; first | refine WPl.rd ?_ | refine WPl.sk ?_ | refine WPl.rdB ?_))
        | ((show WPl _ _ _ _ _ _ _ (⟨_, .alloc _, _, _, _, _⟩ :: _) _; refine WPl.nw fun g => ?_))
        | ((show WPl _ _ _ _ _ _ _ (⟨_, .box _ _, _, _, _, _⟩ :: _) _; refine WPl.nw fun g => ?_))
        | ((show WPl _ _ _ _ _ _ _ (⟨_, .store _ _ _, _, _, _, _⟩ :: _) _; first | refine WPl.st1 ?_ | refine WPl.stA ?_ | refine WPl.stEB ?_ | refine WPl.stRB ?_))
        | ((show WPl _ _ _ _ _ _ _ (_ :: _) _; refine WPl.spl (fun hc => ?_) (fun hc => ?_) <;> (try simp only [decide_eq_true_eq, decide_eq_false_iff_not, Bool.not_eq_true', Bool.not_eq_false', Bool.and_eq_true, Bool.or_eq_true, Bool.and_eq_false_iff, Bool.or_eq_false_iff, Bool.not_true, Bool.not_false, Int.not_lt, Int.not_le] at hc) <;> (try (exfalso; first | omega | exact clash1 hc (by assumption) | exact clash2 hc (by assumption) | exact hc (by assumption) | exact absurd hc (by assumption)))))
        | fail)
      all_goals try (first
        | exact WPq.dV
        | exact WPq.dR
        | exact WPq.dR2
        | exact WPq.dH
        | exact WPq.dBH
        | exact WPq.dT)
    | true =>
      rw [ho] at k1
      obtain ⟨q, k, rfl, rfl, hq, hk, hg⟩ := keyOk_nat ho
      have hf : fromL m = be m 2 := by simp [fromL, hv]
      have hK : keyL q a k = be q 2 ++ ([if a.six then 6 else 4, UInt8.ofNat k] ++ a.bytes) := by rw [keyL_yes ho]; rfl
      have c1 := cmpL_be q m ([if a.six then 6 else 4, UInt8.ofNat k] ++ a.bytes) hq hm
      rw [← hK, ← hf] at c1
      have hfl : (fromL m).length = 2 := by rw [hf, be_length]
      by_cases hmx : m < 65535
      · have ht : toL m = be (m + 1) 2 := by simp [toL, hv]; omega
        have c2 := cmpL_be q (m + 1) ([if a.six then 6 else 4, UInt8.ofNat k] ++ a.bytes) hq (by omega)
        rw [← hK, ← ht] at c2
        have htl : (toL m).length = 2 := by rw [ht, be_length]
        by_cases e : (q : Int) = m
        · have hlt : cmpL (keyL q a k) (toL m) < 0 := by omega
          refine Triple.enter Try.func4 rfl Try.ntmps4 rfl (fun W => ?_)
          dsimp only [argsF, Nat.reduceAdd]
          repeat' (first
            | refine WPl.nil ?_
            | refine WPq.then ?_
            | refine WPq.thenR ?_
            | refine WPq.thenE ?_
            | refine WPq.blockN ?_
            | refine WPq.blockR ?_
            | refine WPq.blockE ?_
            | refine WPq.blockO rfl ?_
            | refine WPc.seq ?_
            | refine WPc.block ?_
            | refine WPc.ret ?_
            | refine WPc.exit ?_
            | refine WPc.skip ?_
            | refine WPc.region ?_
            | ((show WPc _ _ _ _ _ _ (.cond _ _ _) _; first | refine WPc.cT ?_ | refine WPc.cF ?_ | (refine WPc.cS (fun hc => ?_) (fun hc => ?_) <;> (try simp only [decide_eq_true_eq, decide_eq_false_iff_not, Bool.not_eq_true', Bool.not_eq_false', Bool.and_eq_true, Bool.or_eq_true, Bool.and_eq_false_iff, Bool.or_eq_false_iff, Bool.not_true, Bool.not_false, Int.not_lt, Int.not_le] at hc) <;> (try (exfalso; first | omega | exact clash1 hc (by assumption) | exact clash2 hc (by assumption) | exact hc (by assumption) | exact absurd hc (by assumption))))))
            | ((show WPl _ _ _ _ _ _ _ (⟨_, .call ⟨.value _, _, _⟩, _, _, _, _⟩ :: _) _; refine WPl.cRR (k2) fun x hx y hy => ?_))
            | ((show WPl _ _ _ _ _ _ _ (⟨_, .call ⟨.value _, _, _⟩, _, _, _, _⟩ :: _) _; refine WPl.cR2 (k1) fun v hv => ?_))
            | ((show WPl _ _ _ _ _ _ _ (⟨_, .call ⟨.value _, _, _⟩, _, _, _, _⟩ :: _) _; refine WPl.cV (hlive) ?_))
            | ((show WPl _ _ _ _ _ _ _ (⟨_, .call ⟨.value _, _, _⟩, _, _, _, _⟩ :: _) _; refine WPl.cV (cmp_t v x (keyL q a k) (fromL m) (by omega) (by omega)) ?_))
            | ((show WPl _ _ _ _ _ _ _ (⟨_, .call ⟨.value _, _, _⟩, _, _, _, _⟩ :: _) _; refine WPl.cV (cmp_t v y (keyL q a k) (toL m) (by omega) (by omega)) ?_))
            | ((show WPl _ _ _ _ _ _ _ (_ :: _) _; refine WPl.rdX (ReadR.binE rfl rfl BinR.eql (congrArg Value.bool (decide_eq_true e))) ?_))
            | ((show WPl _ _ _ _ _ _ _ (_ :: _) _; refine WPl.rdX (ReadR.binE rfl rfl BinR.lss (congrArg Value.bool (decide_eq_true hlt))) ?_))
            | ((show WPl _ _ _ _ _ _ _ (⟨_, .call ⟨.builtin .copy, _, _⟩, _, _, _, _⟩ :: _) _; first | refine WPl.cpA fun v => ?_ | refine WPl.cpE fun v => ?_))
            | ((show WPl _ _ _ _ _ _ _ (⟨_, .makeSlice _ _ _, _, _, _, _⟩ :: _) _; refine WPl.mk fun v hv => ?_))
            | ((show WPl _ _ _ _ _ _ _ (_ :: _) _; first | refine WPl.rd ?_ | refine WPl.sk ?_ | refine WPl.rdB ?_))
            | ((show WPl _ _ _ _ _ _ _ (⟨_, .alloc _, _, _, _, _⟩ :: _) _; refine WPl.nw fun g => ?_))
            | ((show WPl _ _ _ _ _ _ _ (⟨_, .box _ _, _, _, _, _⟩ :: _) _; refine WPl.nw fun g => ?_))
            | ((show WPl _ _ _ _ _ _ _ (⟨_, .store _ _ _, _, _, _, _⟩ :: _) _; first | refine WPl.st1 ?_ | refine WPl.stA ?_ | refine WPl.stEB ?_ | refine WPl.stRB ?_))
            | ((show WPl _ _ _ _ _ _ _ (_ :: _) _; refine WPl.spl (fun hc => ?_) (fun hc => ?_) <;> (try simp only [decide_eq_true_eq, decide_eq_false_iff_not, Bool.not_eq_true', Bool.not_eq_false', Bool.and_eq_true, Bool.or_eq_true, Bool.and_eq_false_iff, Bool.or_eq_false_iff, Bool.not_true, Bool.not_false, Int.not_lt, Int.not_le] at hc) <;> (try (exfalso; first | omega | exact clash1 hc (by assumption) | exact clash2 hc (by assumption) | exact hc (by assumption) | exact absurd hc (by assumption)))))
            | fail)
          all_goals try (first
            | exact WPq.dV
            | exact WPq.dR
            | exact WPq.dR2
            | exact WPq.dH
            | exact WPq.dBH
            | exact WPq.dT)
        · by_cases hqm : q < m
          · have hlt : ¬ 0 ≤ cmpL (keyL q a k) (fromL m) := by omega
            refine Triple.enter Try.func4 rfl Try.ntmps4 rfl (fun W => ?_)
            dsimp only [argsF, Nat.reduceAdd]
            repeat' (first
              | refine WPl.nil ?_
              | refine WPq.then ?_
              | refine WPq.thenR ?_
              | refine WPq.thenE ?_
              | refine WPq.blockN ?_
              | refine WPq.blockR ?_
              | refine WPq.blockE ?_
              | refine WPq.blockO rfl ?_
              | refine WPc.seq ?_
              | refine WPc.block ?_
              | refine WPc.ret ?_
              | refine WPc.exit ?_
              | refine WPc.skip ?_
              | refine WPc.region ?_
              | ((show WPc _ _ _ _ _ _ (.cond _ _ _) _; first | refine WPc.cT ?_ | refine WPc.cF ?_ | (refine WPc.cS (fun hc => ?_) (fun hc => ?_) <;> (try simp only [decide_eq_true_eq, decide_eq_false_iff_not, Bool.not_eq_true', Bool.not_eq_false', Bool.and_eq_true, Bool.or_eq_true, Bool.and_eq_false_iff, Bool.or_eq_false_iff, Bool.not_true, Bool.not_false, Int.not_lt, Int.not_le] at hc) <;> (try (exfalso; first | omega | exact clash1 hc (by assumption) | exact clash2 hc (by assumption) | exact hc (by assumption) | exact absurd hc (by assumption))))))
              | ((show WPl _ _ _ _ _ _ _ (⟨_, .call ⟨.value _, _, _⟩, _, _, _, _⟩ :: _) _; refine WPl.cRR (k2) fun x hx y hy => ?_))
              | ((show WPl _ _ _ _ _ _ _ (⟨_, .call ⟨.value _, _, _⟩, _, _, _, _⟩ :: _) _; refine WPl.cR2 (k1) fun v hv => ?_))
              | ((show WPl _ _ _ _ _ _ _ (⟨_, .call ⟨.value _, _, _⟩, _, _, _, _⟩ :: _) _; refine WPl.cV (hlive) ?_))
              | ((show WPl _ _ _ _ _ _ _ (⟨_, .call ⟨.value _, _, _⟩, _, _, _, _⟩ :: _) _; refine WPl.cV (cmp_t v x (keyL q a k) (fromL m) (by omega) (by omega)) ?_))
              | ((show WPl _ _ _ _ _ _ _ (⟨_, .call ⟨.value _, _, _⟩, _, _, _, _⟩ :: _) _; refine WPl.cV (cmp_t v y (keyL q a k) (toL m) (by omega) (by omega)) ?_))
              | ((show WPl _ _ _ _ _ _ _ (_ :: _) _; refine WPl.rdX (ReadR.binE rfl rfl BinR.eql (congrArg Value.bool (decide_eq_false e))) ?_))
              | ((show WPl _ _ _ _ _ _ _ (⟨_, .call ⟨.builtin .copy, _, _⟩, _, _, _, _⟩ :: _) _; first | refine WPl.cpA fun v => ?_ | refine WPl.cpE fun v => ?_))
              | ((show WPl _ _ _ _ _ _ _ (⟨_, .makeSlice _ _ _, _, _, _, _⟩ :: _) _; refine WPl.mk fun v hv => ?_))
              | ((show WPl _ _ _ _ _ _ _ (_ :: _) _; first | refine WPl.rd ?_ | refine WPl.sk ?_ | refine WPl.rdB ?_))
              | ((show WPl _ _ _ _ _ _ _ (⟨_, .alloc _, _, _, _, _⟩ :: _) _; refine WPl.nw fun g => ?_))
              | ((show WPl _ _ _ _ _ _ _ (⟨_, .box _ _, _, _, _, _⟩ :: _) _; refine WPl.nw fun g => ?_))
              | ((show WPl _ _ _ _ _ _ _ (⟨_, .store _ _ _, _, _, _, _⟩ :: _) _; first | refine WPl.st1 ?_ | refine WPl.stA ?_ | refine WPl.stEB ?_ | refine WPl.stRB ?_))
              | ((show WPl _ _ _ _ _ _ _ (_ :: _) _; refine WPl.spl (fun hc => ?_) (fun hc => ?_) <;> (try simp only [decide_eq_true_eq, decide_eq_false_iff_not, Bool.not_eq_true', Bool.not_eq_false', Bool.and_eq_true, Bool.or_eq_true, Bool.and_eq_false_iff, Bool.or_eq_false_iff, Bool.not_true, Bool.not_false, Int.not_lt, Int.not_le] at hc) <;> (try (exfalso; first | omega | exact clash1 hc (by assumption) | exact clash2 hc (by assumption) | exact hc (by assumption) | exact absurd hc (by assumption)))))
              | fail)
            all_goals try (first
              | exact WPq.dV
              | exact WPq.dR
              | exact WPq.dR2
              | exact WPq.dH
              | exact WPq.dBH
              | exact WPq.dT)
          · have hlt : ¬ cmpL (keyL q a k) (toL m) < 0 := by omega
            refine Triple.enter Try.func4 rfl Try.ntmps4 rfl (fun W => ?_)
            dsimp only [argsF, Nat.reduceAdd]
            repeat' (first
              | refine WPl.nil ?_
              | refine WPq.then ?_
              | refine WPq.thenR ?_
              | refine WPq.thenE ?_
              | refine WPq.blockN ?_
              | refine WPq.blockR ?_
              | refine WPq.blockE ?_
              | refine WPq.blockO rfl ?_
              | refine WPc.seq ?_
              | refine WPc.block ?_
              | refine WPc.ret ?_
              | refine WPc.exit ?_
              | refine WPc.skip ?_
              | refine WPc.region ?_
              | ((show WPc _ _ _ _ _ _ (.cond _ _ _) _; first | refine WPc.cT ?_ | refine WPc.cF ?_ | (refine WPc.cS (fun hc => ?_) (fun hc => ?_) <;> (try simp only [decide_eq_true_eq, decide_eq_false_iff_not, Bool.not_eq_true', Bool.not_eq_false', Bool.and_eq_true, Bool.or_eq_true, Bool.and_eq_false_iff, Bool.or_eq_false_iff, Bool.not_true, Bool.not_false, Int.not_lt, Int.not_le] at hc) <;> (try (exfalso; first | omega | exact clash1 hc (by assumption) | exact clash2 hc (by assumption) | exact hc (by assumption) | exact absurd hc (by assumption))))))
              | ((show WPl _ _ _ _ _ _ _ (⟨_, .call ⟨.value _, _, _⟩, _, _, _, _⟩ :: _) _; refine WPl.cRR (k2) fun x hx y hy => ?_))
              | ((show WPl _ _ _ _ _ _ _ (⟨_, .call ⟨.value _, _, _⟩, _, _, _, _⟩ :: _) _; refine WPl.cR2 (k1) fun v hv => ?_))
              | ((show WPl _ _ _ _ _ _ _ (⟨_, .call ⟨.value _, _, _⟩, _, _, _, _⟩ :: _) _; refine WPl.cV (hlive) ?_))
              | ((show WPl _ _ _ _ _ _ _ (⟨_, .call ⟨.value _, _, _⟩, _, _, _, _⟩ :: _) _; refine WPl.cV (cmp_t v x (keyL q a k) (fromL m) (by omega) (by omega)) ?_))
              | ((show WPl _ _ _ _ _ _ _ (⟨_, .call ⟨.value _, _, _⟩, _, _, _, _⟩ :: _) _; refine WPl.cV (cmp_t v y (keyL q a k) (toL m) (by omega) (by omega)) ?_))
              | ((show WPl _ _ _ _ _ _ _ (_ :: _) _; refine WPl.rdX (ReadR.binE rfl rfl BinR.eql (congrArg Value.bool (decide_eq_false e))) ?_))
              | ((show WPl _ _ _ _ _ _ _ (_ :: _) _; refine WPl.rdX (ReadR.binE rfl rfl BinR.lss (congrArg Value.bool (decide_eq_false hlt))) ?_))
              | ((show WPl _ _ _ _ _ _ _ (⟨_, .call ⟨.builtin .copy, _, _⟩, _, _, _, _⟩ :: _) _; first | refine WPl.cpA fun v => ?_ | refine WPl.cpE fun v => ?_))
              | ((show WPl _ _ _ _ _ _ _ (⟨_, .makeSlice _ _ _, _, _, _, _⟩ :: _) _; refine WPl.mk fun v hv => ?_))
              | ((show WPl _ _ _ _ _ _ _ (_ :: _) _; first | refine WPl.rd ?_ | refine WPl.sk ?_ | refine WPl.rdB ?_))
              | ((show WPl _ _ _ _ _ _ _ (⟨_, .alloc _, _, _, _, _⟩ :: _) _; refine WPl.nw fun g => ?_))
              | ((show WPl _ _ _ _ _ _ _ (⟨_, .box _ _, _, _, _, _⟩ :: _) _; refine WPl.nw fun g => ?_))
              | ((show WPl _ _ _ _ _ _ _ (⟨_, .store _ _ _, _, _, _, _⟩ :: _) _; first | refine WPl.st1 ?_ | refine WPl.stA ?_ | refine WPl.stEB ?_ | refine WPl.stRB ?_))
              | ((show WPl _ _ _ _ _ _ _ (_ :: _) _; refine WPl.spl (fun hc => ?_) (fun hc => ?_) <;> (try simp only [decide_eq_true_eq, decide_eq_false_iff_not, Bool.not_eq_true', Bool.not_eq_false', Bool.and_eq_true, Bool.or_eq_true, Bool.and_eq_false_iff, Bool.or_eq_false_iff, Bool.not_true, Bool.not_false, Int.not_lt, Int.not_le] at hc) <;> (try (exfalso; first | omega | exact clash1 hc (by assumption) | exact clash2 hc (by assumption) | exact hc (by assumption) | exact absurd hc (by assumption)))))
              | fail)
            all_goals try (first
              | exact WPq.dV
              | exact WPq.dR
              | exact WPq.dR2
              | exact WPq.dH
              | exact WPq.dBH
              | exact WPq.dT)
      · have ht : (toL m).length = 0 := by simp [toL]; omega
        by_cases e : (q : Int) = m
        · skip
          refine Triple.enter Try.func4 rfl Try.ntmps4 rfl (fun W => ?_)
          dsimp only [argsF, Nat.reduceAdd]
          repeat' (first
            | refine WPl.nil ?_
            | refine WPq.then ?_
            | refine WPq.thenR ?_
            | refine WPq.thenE ?_
            | refine WPq.blockN ?_
            | refine WPq.blockR ?_
            | refine WPq.blockE ?_
            | refine WPq.blockO rfl ?_
            | refine WPc.seq ?_
            | refine WPc.block ?_
            | refine WPc.ret ?_
            | refine WPc.exit ?_
            | refine WPc.skip ?_
            | refine WPc.region ?_
            | ((show WPc _ _ _ _ _ _ (.cond _ _ _) _; first | refine WPc.cT ?_ | refine WPc.cF ?_ | (refine WPc.cS (fun hc => ?_) (fun hc => ?_) <;> (try simp only [decide_eq_true_eq, decide_eq_false_iff_not, Bool.not_eq_true', Bool.not_eq_false', Bool.and_eq_true, Bool.or_eq_true, Bool.and_eq_false_iff, Bool.or_eq_false_iff, Bool.not_true, Bool.not_false, Int.not_lt, Int.not_le] at hc) <;> (try (exfalso; first | omega | exact clash1 hc (by assumption) | exact clash2 hc (by assumption) | exact hc (by assumption) | exact absurd hc (by assumption))))))
            | ((show WPl _ _ _ _ _ _ _ (⟨_, .call ⟨.value _, _, _⟩, _, _, _, _⟩ :: _) _; refine WPl.cRR (k2) fun x hx y hy => ?_))
            | ((show WPl _ _ _ _ _ _ _ (⟨_, .call ⟨.value _, _, _⟩, _, _, _, _⟩ :: _) _; refine WPl.cR2 (k1) fun v hv => ?_))
            | ((show WPl _ _ _ _ _ _ _ (⟨_, .call ⟨.value _, _, _⟩, _, _, _, _⟩ :: _) _; refine WPl.cV (hlive) ?_))
            | ((show WPl _ _ _ _ _ _ _ (⟨_, .call ⟨.value _, _, _⟩, _, _, _, _⟩ :: _) _; refine WPl.cV (cmp_t v x (keyL q a k) (fromL m) (by omega) (by omega)) ?_))
            | ((show WPl _ _ _ _ _ _ _ (_ :: _) _; refine WPl.rdX (ReadR.binE rfl rfl BinR.eql (congrArg Value.bool (decide_eq_true e))) ?_))
            | ((show WPl _ _ _ _ _ _ _ (⟨_, .call ⟨.builtin .copy, _, _⟩, _, _, _, _⟩ :: _) _; first | refine WPl.cpA fun v => ?_ | refine WPl.cpE fun v => ?_))
            | ((show WPl _ _ _ _ _ _ _ (⟨_, .makeSlice _ _ _, _, _, _, _⟩ :: _) _; refine WPl.mk fun v hv => ?_))
            | ((show WPl _ _ _ _ _ _ _ (_ :: _) _; first | refine WPl.rd ?_ | refine WPl.sk ?_ | refine WPl.rdB ?_))
            | ((show WPl _ _ _ _ _ _ _ (⟨_, .alloc _, _, _, _, _⟩ :: _) _; refine WPl.nw fun g => ?_))
            | ((show WPl _ _ _ _ _ _ _ (⟨_, .box _ _, _, _, _, _⟩ :: _) _; refine WPl.nw fun g => ?_))
            | ((show WPl _ _ _ _ _ _ _ (⟨_, .store _ _ _, _, _, _, _⟩ :: _) _; first | refine WPl.st1 ?_ | refine WPl.stA ?_ | refine WPl.stEB ?_ | refine WPl.stRB ?_))
            | ((show WPl _ _ _ _ _ _ _ (_ :: _) _; refine WPl.spl (fun hc => ?_) (fun hc => ?_) <;> (try simp only [decide_eq_true_eq, decide_eq_false_iff_not, Bool.not_eq_true', Bool.not_eq_false', Bool.and_eq_true, Bool.or_eq_true, Bool.and_eq_false_iff, Bool.or_eq_false_iff, Bool.not_true, Bool.not_false, Int.not_lt, Int.not_le] at hc) <;> (try (exfalso; first | omega | exact clash1 hc (by assumption) | exact clash2 hc (by assumption) | exact hc (by assumption) | exact absurd hc (by assumption)))))
            | fail)
          all_goals try (first
            | exact WPq.dV
            | exact WPq.dR
            | exact WPq.dR2
            | exact WPq.dH
            | exact WPq.dBH
            | exact WPq.dT)
        · skip
          refine Triple.enter Try.func4 rfl Try.ntmps4 rfl (fun W => ?_)
          dsimp only [argsF, Nat.reduceAdd]
          repeat' (first
            | refine WPl.nil ?_
            | refine WPq.then ?_
            | refine WPq.thenR ?_
            | refine WPq.thenE ?_
            | refine WPq.blockN ?_
            | refine WPq.blockR ?_
            | refine WPq.blockE ?_
            | refine WPq.blockO rfl ?_
            | refine WPc.seq ?_
            | refine WPc.block ?_
            | refine WPc.ret ?_
            | refine WPc.exit ?_
            | refine WPc.skip ?_
            | refine WPc.region ?_
            | ((show WPc _ _ _ _ _ _ (.cond _ _ _) _; first | refine WPc.cT ?_ | refine WPc.cF ?_ | (refine WPc.cS (fun hc => ?_) (fun hc => ?_) <;> (try simp only [decide_eq_true_eq, decide_eq_false_iff_not, Bool.not_eq_true', Bool.not_eq_false', Bool.and_eq_true, Bool.or_eq_true, Bool.and_eq_false_iff, Bool.or_eq_false_iff, Bool.not_true, Bool.not_false, Int.not_lt, Int.not_le] at hc) <;> (try (exfalso; first | omega | exact clash1 hc (by assumption) | exact clash2 hc (by assumption) | exact hc (by assumption) | exact absurd hc (by assumption))))))
            | ((show WPl _ _ _ _ _ _ _ (⟨_, .call ⟨.value _, _, _⟩, _, _, _, _⟩ :: _) _; refine WPl.cRR (k2) fun x hx y hy => ?_))
            | ((show WPl _ _ _ _ _ _ _ (⟨_, .call ⟨.value _, _, _⟩, _, _, _, _⟩ :: _) _; refine WPl.cR2 (k1) fun v hv => ?_))
            | ((show WPl _ _ _ _ _ _ _ (⟨_, .call ⟨.value _, _, _⟩, _, _, _, _⟩ :: _) _; refine WPl.cV (hlive) ?_))
            | ((show WPl _ _ _ _ _ _ _ (⟨_, .call ⟨.value _, _, _⟩, _, _, _, _⟩ :: _) _; refine WPl.cV (cmp_t v x (keyL q a k) (fromL m) (by omega) (by omega)) ?_))
            | ((show WPl _ _ _ _ _ _ _ (_ :: _) _; refine WPl.rdX (ReadR.binE rfl rfl BinR.eql (congrArg Value.bool (decide_eq_false e))) ?_))
            | ((show WPl _ _ _ _ _ _ _ (⟨_, .call ⟨.builtin .copy, _, _⟩, _, _, _, _⟩ :: _) _; first | refine WPl.cpA fun v => ?_ | refine WPl.cpE fun v => ?_))
            | ((show WPl _ _ _ _ _ _ _ (⟨_, .makeSlice _ _ _, _, _, _, _⟩ :: _) _; refine WPl.mk fun v hv => ?_))
            | ((show WPl _ _ _ _ _ _ _ (_ :: _) _; first | refine WPl.rd ?_ | refine WPl.sk ?_ | refine WPl.rdB ?_))
            | ((show WPl _ _ _ _ _ _ _ (⟨_, .alloc _, _, _, _, _⟩ :: _) _; refine WPl.nw fun g => ?_))
            | ((show WPl _ _ _ _ _ _ _ (⟨_, .box _ _, _, _, _, _⟩ :: _) _; refine WPl.nw fun g => ?_))
            | ((show WPl _ _ _ _ _ _ _ (⟨_, .store _ _ _, _, _, _, _⟩ :: _) _; first | refine WPl.st1 ?_ | refine WPl.stA ?_ | refine WPl.stEB ?_ | refine WPl.stRB ?_))
            | ((show WPl _ _ _ _ _ _ _ (_ :: _) _; refine WPl.spl (fun hc => ?_) (fun hc => ?_) <;> (try simp only [decide_eq_true_eq, decide_eq_false_iff_not, Bool.not_eq_true', Bool.not_eq_false', Bool.and_eq_true, Bool.or_eq_true, Bool.and_eq_false_iff, Bool.or_eq_false_iff, Bool.not_true, Bool.not_false, Int.not_lt, Int.not_le] at hc) <;> (try (exfalso; first | omega | exact clash1 hc (by assumption) | exact clash2 hc (by assumption) | exact hc (by assumption) | exact absurd hc (by assumption)))))
            | fail)
          all_goals try (first
            | exact WPq.dV
            | exact WPq.dR
            | exact WPq.dR2
            | exact WPq.dH
            | exact WPq.dBH
            | exact WPq.dT)
end Go.Proofs.Yteofjhjhaaafjaa
