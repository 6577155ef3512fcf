/- The statement IpfourSpoilt: it returns true. -/
import Derived.Test.YteofjhjhaaafjaaIpfourL
namespace Go.Proofs.Yteofjhjhaaafjaa
open Go.RowKit
set_option linter.unusedSimpArgs false
set_option linter.unusedVariables false
set_option maxRecDepth 20000
set_option maxHeartbeats 1000000
attribute [local irreducible] WPc WPl WPq ReadR OpT BinR HasS bx rdN rowN Take Takes Prov Triple ResF BuildP Done ag Int.decLt Int.decLe Int.instDecidableEq
attribute [local irreducible] fwL fread ferr fpkt fwerr

theorem ipfourSpoilt_t (h : Hd) (at_ by_ : UInt8) : Triple Try.prog 10 #[ag (hdc h), .int .u8 ((at_.toNat : Nat) : Int), .int .u8 ((by_.toNat : Nat) : Int)] [] (RVal (.bool true)) := by
  have l1 := h.src.len
  have l2 := h.dst.len
  have h1 := fun v => fwrite_t h v [1, 2, 3] (by decide)
  by_cases he : fwerr h ([1, 2, 3] : List UInt8).length = 0
  · obtain ⟨L, hL⟩ : ∃ L, L = fwL h [1, 2, 3] := ⟨_, rfl⟩
    have hp : L = fpkt h [1, 2, 3] := by rw [hL]; unfold fwL; rw [if_pos he]
    have hlen : L.length = 23 := by rw [hp, (fpkt_read he).1]; rfl
    rw [he, ← hL] at h1
    have hat := at_.toNat_lt
    have hk : ((at_.toNat : Int) % 20).toNat < 20 := by omega
    have hs := ferr_spoilt he (by decide) hk (L.getD ((at_.toNat : Int) % 20).toNat 0 + by_)
    rw [← hp, u8_add_eq] at hs
    have h2 := fun v => fread_t v (L.set ((at_.toNat : Int) % 20).toNat (L.getD ((at_.toNat : Int) % 20).toNat 0 + by_)) (by simp [hlen])
    obtain ⟨X, hX⟩ : ∃ X, X = fread (L.set ((at_.toNat : Int) % 20).toNat (L.getD ((at_.toNat : Int) % 20).toNat 0 + by_)) := ⟨_, rfl⟩
    obtain ⟨c, hc⟩ : ∃ c, c = ferr (L.set ((at_.toNat : Int) % 20).toNat (L.getD ((at_.toNat : Int) % 20).toNat 0 + by_)) := ⟨_, rfl⟩
    simp only [fVal] at h2
    rw [← hX, ← hc] at h2
    rw [← hc] at hs
    have hq : (decide (c = 0) == decide (((by_.toNat : Nat) : Int) = 0)) = true := by rw [beq_iff_eq]; exact decide_eq_decide.2 hs
    clear hX hc hs hL hp
    refine Triple.enter Try.func10 rfl Try.ntmps10 rfl (fun W => ?_)
    dsimp only [argsF, Nat.reduceAdd]
    repeat' (first
      | refine WPl.nil ?_
      | refine WPq.then ?_
      | refine WPq.thenR ?_
      | refine WPq.thenE ?_
      | refine WPq.blockN ?_
      | refine WPq.blockR ?_
      | refine WPq.blockE ?_
      | refine WPq.blockO rfl ?_
      | refine WPc.seq ?_
      | refine WPc.block ?_
      | refine WPc.ret ?_
      | refine WPc.exit ?_
      | refine WPc.skip ?_
      | refine WPc.region ?_
      | ((show WPc _ _ _ _ _ _ (.cond _ _ _) _; first | refine WPc.cT ?_ | refine WPc.cF ?_ | (refine WPc.cS (fun hc => ?_) (fun hc => ?_) <;> (try simp only [decide_eq_true_eq, decide_eq_false_iff_not, Bool.not_eq_true', Bool.not_eq_false', Bool.and_eq_true, Bool.or_eq_true, Bool.and_eq_false_iff, Bool.or_eq_false_iff, Bool.not_true, Bool.not_false, Int.not_lt, Int.not_le] at hc) <;> (try (exfalso; first | omega | exact clash1 hc (by assumption) | exact clash2 hc (by assumption) | exact hc trivial | exact hc (by assumption) | exact absurd hc (by assumption))))))
      | ((show WPl _ _ _ _ _ _ _ (⟨_, .buildSlice _ _ _, _, _, _, _⟩ :: _) _; refine WPl.lit fun v hv => ?_))
      | ((show WPl _ _ _ _ _ _ _ (⟨some 14, .call ⟨.value _, _, _⟩, _, _, _, _⟩ :: _) _; refine WPl.cR2 (h1 _) fun v hv => ?_))
      | ((show WPl _ _ _ _ _ _ _ (⟨some 36, .call ⟨.value _, _, _⟩, _, _, _, _⟩ :: _) _; refine WPl.cV (h2 _) ?_))
      | ((show WPl _ _ _ _ _ _ _ (⟨some 45, .call ⟨.value _, _, _⟩, _, _, _, _⟩ :: _) _; refine WPl.cV (lives13_t) ?_))
      | ((show WPl _ _ _ _ _ _ _ (⟨_, .binOp .add _ _ _ _, _, _, _, _⟩ :: _) _; refine WPl.rdX (ReadR.bin rfl rfl BinR.addB) ?_))
      | ((show WPl _ _ _ _ _ _ _ (⟨_, .binOp .eql _ _ _ _, _, _, _, _⟩ :: _) _; refine WPl.rdX (ReadR.binE rfl rfl (BinR.eqlB (by kernel_rfl)) (congrArg Value.bool hq)) ?_))
      | ((show WPl _ _ _ _ _ _ _ (_ :: _) _; first | refine WPl.rd ?_ | refine WPl.sk ?_ | refine WPl.rdB ?_))
      | ((show WPl _ _ _ _ _ _ _ (⟨_, .alloc _, _, _, _, _⟩ :: _) _; refine WPl.nw fun g => ?_))
      | ((show WPl _ _ _ _ _ _ _ (⟨_, .box _ _, _, _, _, _⟩ :: _) _; refine WPl.nw fun g => ?_))
      | ((show WPl _ _ _ _ _ _ _ (⟨_, .store _ _ _, _, _, _, _⟩ :: _) _; first | refine WPl.st1 ?_ | refine WPl.stA ?_ | refine WPl.stEB ?_ | refine WPl.stRB ?_))
      | ((show WPl _ _ _ _ _ _ _ (_ :: _) _; refine WPl.spl (fun hc => ?_) (fun hc => ?_) <;> (try simp only [decide_eq_true_eq, decide_eq_false_iff_not, Bool.not_eq_true', Bool.not_eq_false', Bool.and_eq_true, Bool.or_eq_true, Bool.and_eq_false_iff, Bool.or_eq_false_iff, Bool.not_true, Bool.not_false, Int.not_lt, Int.not_le] at hc) <;> (try (exfalso; first | omega | exact clash1 hc (by assumption) | exact clash2 hc (by assumption) | exact hc trivial | exact hc (by assumption) | exact absurd hc (by assumption)))))
      | fail)
    all_goals try (first
      | exact WPq.dV
      | exact WPq.dR
      | exact WPq.dR2
      | exact WPq.dH
      | exact WPq.dBH
      | exact WPq.dT)
  · skip
    refine Triple.enter Try.func10 rfl Try.ntmps10 rfl (fun W => ?_)
    dsimp only [argsF, Nat.reduceAdd]
    repeat' (first
      | refine WPl.nil ?_
      | refine WPq.then ?_
      | refine WPq.thenR ?_
      | refine WPq.thenE ?_
      | refine WPq.blockN ?_
      | refine WPq.blockR ?_
      | refine WPq.blockE ?_
      | refine WPq.blockO rfl ?_
      | refine WPc.seq ?_
      | refine WPc.block ?_
      | refine WPc.ret ?_
      | refine WPc.exit ?_
      | refine WPc.skip ?_
      | refine WPc.region ?_
      | ((show WPc _ _ _ _ _ _ (.cond _ _ _) _; first | refine WPc.cT ?_ | refine WPc.cF ?_ | (refine WPc.cS (fun hc => ?_) (fun hc => ?_) <;> (try simp only [decide_eq_true_eq, decide_eq_false_iff_not, Bool.not_eq_true', Bool.not_eq_false', Bool.and_eq_true, Bool.or_eq_true, Bool.and_eq_false_iff, Bool.or_eq_false_iff, Bool.not_true, Bool.not_false, Int.not_lt, Int.not_le] at hc) <;> (try (exfalso; first | omega | exact clash1 hc (by assumption) | exact clash2 hc (by assumption) | exact hc trivial | exact hc (by assumption) | exact absurd hc (by assumption))))))
      | ((show WPl _ _ _ _ _ _ _ (⟨_, .buildSlice _ _ _, _, _, _, _⟩ :: _) _; refine WPl.lit fun v hv => ?_))
      | ((show WPl _ _ _ _ _ _ _ (⟨some 14, .call ⟨.value _, _, _⟩, _, _, _, _⟩ :: _) _; refine WPl.cR2 (h1 _) fun v hv => ?_))
      | ((show WPl _ _ _ _ _ _ _ (⟨some 19, .call ⟨.value _, _, _⟩, _, _, _, _⟩ :: _) _; refine WPl.cV (lives13_t) ?_))
      | ((show WPl _ _ _ _ _ _ _ (_ :: _) _; first | refine WPl.rd ?_ | refine WPl.sk ?_ | refine WPl.rdB ?_))
      | ((show WPl _ _ _ _ _ _ _ (⟨_, .alloc _, _, _, _, _⟩ :: _) _; refine WPl.nw fun g => ?_))
      | ((show WPl _ _ _ _ _ _ _ (⟨_, .box _ _, _, _, _, _⟩ :: _) _; refine WPl.nw fun g => ?_))
      | ((show WPl _ _ _ _ _ _ _ (⟨_, .store _ _ _, _, _, _, _⟩ :: _) _; first | refine WPl.st1 ?_ | refine WPl.stA ?_ | refine WPl.stEB ?_ | refine WPl.stRB ?_))
      | ((show WPl _ _ _ _ _ _ _ (_ :: _) _; refine WPl.spl (fun hc => ?_) (fun hc => ?_) <;> (try simp only [decide_eq_true_eq, decide_eq_false_iff_not, Bool.not_eq_true', Bool.not_eq_false', Bool.and_eq_true, Bool.or_eq_true, Bool.and_eq_false_iff, Bool.or_eq_false_iff, Bool.not_true, Bool.not_false, Int.not_lt, Int.not_le] at hc) <;> (try (exfalso; first | omega | exact clash1 hc (by assumption) | exact clash2 hc (by assumption) | exact hc trivial | exact hc (by assumption) | exact absurd hc (by assumption)))))
      | fail)
    all_goals try (first
      | exact WPq.dV
      | exact WPq.dR
      | exact WPq.dR2
      | exact WPq.dH
      | exact WPq.dBH
      | exact WPq.dT)
end Go.Proofs.Yteofjhjhaaafjaa
