/- The statement PktReads: it returns true. -/
import Derived.Test.YteofjhjhaaafjaaPl2
import Derived.Test.YteofjhjhaaafjaaPb
namespace Go.Proofs.Yteofjhjhaaafjaa
open Go.RowKit
set_option linter.unusedSimpArgs false
set_option linter.unusedVariables false
set_option maxRecDepth 20000
set_option maxHeartbeats 4000000
attribute [local irreducible] WPc WPl WPq ReadR OpT BinR HasS bx rdN rowN Take Takes Prov Triple ResF BuildP Done ag Int.decLt Int.decLe Int.instDecidableEq
attribute [local irreducible] pbL pbE pkR pkE
theorem pktReads_t (vb : Value) (l : List UInt8) : Triple Try.prog 17 #[vb] [rb vb l] (RVal (.bool true)) := by
  have hl : (l.take 2060).length ≤ 2060 := List.length_take_le _ _
  have h2 := fun v => rparse_t v (l.take 2060) (by omega)
  have h1 : ∀ v, Triple Try.prog 49 #[v] [rb v (nbs [] ++ l.take 2060)] (RVal (pkVal (l.take 2060))) := fun v => parse_t v (l.take 2060) (by omega)
  simp only [pkVal] at h1 h2
  obtain ⟨X, hX⟩ : ∃ X, X = pkR (l.take 2060) := ⟨_, rfl⟩
  obtain ⟨c, hc⟩ : ∃ c, c = pkE (l.take 2060) := ⟨_, rfl⟩
  rw [← hX, ← hc] at h1 h2
  clear hX hc
  have k1 := X.hd.src.len
  have k2 := X.hd.dst.len
  have k3 := X.fl.src.len
  have k4 := X.fl.dst.len
  have h3 := lives16_t
  refine Triple.enter Try.func17 rfl Try.ntmps17 rfl (fun W => ?_)
  dsimp only [argsF, Nat.reduceAdd]
  repeat' (first
    | refine WPl.nil ?_
    | refine WPq.then ?_
    | refine WPq.thenR ?_
    | refine WPq.thenE ?_
    | refine WPq.blockN ?_
    | refine WPq.blockR ?_
    | refine WPq.blockE ?_
    | refine WPq.blockO rfl ?_
    | refine WPc.seq ?_
    | refine WPc.block ?_
    | refine WPc.ret ?_
    | refine WPc.exit ?_
    | refine WPc.skip ?_
    | refine WPc.region ?_
    | ((show WPc _ _ _ _ _ _ (.cond _ _ _) _; first | refine WPc.cT ?_ | refine WPc.cF ?_ | (refine WPc.cS (fun hc => ?_) (fun hc => ?_) <;> (try simp only [decide_eq_true_eq, decide_eq_false_iff_not, Bool.not_eq_true', Bool.not_eq_false', Bool.and_eq_true, Bool.or_eq_true, Bool.and_eq_false_iff, Bool.or_eq_false_iff, Bool.not_true, Bool.not_false, Int.not_lt, Int.not_le] at hc) <;> (try (exfalso; first | omega | exact clash1 hc (by assumption) | exact clash2 hc (by assumption) | exact hc trivial | exact hc (by assumption) | exact absurd hc (by assumption))))))
    | ((show WPl _ _ _ _ _ _ _ (⟨_, .buildSlice _ _ _, _, _, _, _⟩ :: _) _; refine WPl.lit fun v hv => ?_))
    | ((show WPl _ _ _ _ _ _ _ (⟨_, .call ⟨.builtin .append, _, _⟩, _, _, _, _⟩ :: _) _; refine WPl.app fun v hv => ?_))
    | ((show WPl _ _ _ _ _ _ _ (⟨some 8, .call ⟨.value _, _, _⟩, _, _, _, _⟩ :: _) _; refine WPl.cR (few_t vb l 2060 (by omega)) fun v hv => ?_))
    | ((show WPl _ _ _ _ _ _ _ (⟨some 13, .call ⟨.value _, _, _⟩, _, _, _, _⟩ :: _) _; refine WPl.cV (h1 _) ?_))
    | ((show WPl _ _ _ _ _ _ _ (⟨some 18, .call ⟨.value _, _, _⟩, _, _, _, _⟩ :: _) _; refine WPl.cV (h2 _) ?_))
    | ((show WPl _ _ _ _ _ _ _ (⟨some 30, .call ⟨.value _, _, _⟩, _, _, _, _⟩ :: _) _; refine WPl.cV (h3) ?_))
    | ((show WPl _ _ _ _ _ _ _ (⟨some 23, .binOp .eql _ _ _ _, _, _, _, _⟩ :: _) _; refine WPl.rdX (ReadR.binE rfl rfl (BinR.eqlA eqcA) (congrArg Value.bool (pkEq (a := X) (b := X) rfl))) ?_))
    | ((show WPl _ _ _ _ _ _ _ (⟨some 27, .binOp .eql _ _ _ _, _, _, _, _⟩ :: _) _; refine WPl.rdX (ReadR.binE rfl rfl BinR.eql (congrArg Value.bool (decide_eq_true rfl))) ?_))
    | ((show WPl _ _ _ _ _ _ _ (⟨_, .store 74 (.tmp 3) _, _, _, _, _⟩ :: _) _; refine WPl.stA (new := pkc X) ?_ (ht := by kernel_rfl)))
    | ((show WPl _ _ _ _ _ _ _ (⟨_, .store 74 (.tmp 5) _, _, _, _, _⟩ :: _) _; refine WPl.stA (new := pkc X) ?_ (ht := by kernel_rfl)))
    | ((show WPl _ _ _ _ _ _ _ (_ :: _) _; first | refine WPl.rd ?_ | refine WPl.sk ?_ | refine WPl.rdB ?_))
    | ((show WPl _ _ _ _ _ _ _ (⟨_, .alloc _, _, _, _, _⟩ :: _) _; refine WPl.nw fun g => ?_))
    | ((show WPl _ _ _ _ _ _ _ (⟨_, .store _ _ _, _, _, _, _⟩ :: _) _; first | refine WPl.st1 ?_ | refine WPl.stA ?_ | refine WPl.stEB ?_ | refine WPl.stRB ?_))
    | ((show WPl _ _ _ _ _ _ _ (_ :: _) _; refine WPl.spl (fun hc => ?_) (fun hc => ?_) <;> (try simp only [decide_eq_true_eq, decide_eq_false_iff_not, Bool.not_eq_true', Bool.not_eq_false', Bool.and_eq_true, Bool.or_eq_true, Bool.and_eq_false_iff, Bool.or_eq_false_iff, Bool.not_true, Bool.not_false, Int.not_lt, Int.not_le] at hc) <;> (try (exfalso; first | omega | exact clash1 hc (by assumption) | exact clash2 hc (by assumption) | exact hc trivial | exact hc (by assumption) | exact absurd hc (by assumption)))))
    | fail)
  all_goals try (first
    | exact WPq.dV
    | exact WPq.dR
    | exact WPq.dR2
    | exact WPq.dH
    | exact WPq.dBH
    | exact WPq.dT)
end Go.Proofs.Yteofjhjhaaafjaa
