/- The statements of layer 13 (ipfour): each returns true. -/
import Derived.Test.YteofjhjhaaafjaaIx
namespace Go.Proofs.Yteofjhjhaaafjaa
open Go.RowKit
set_option linter.unusedSimpArgs false
set_option linter.unusedVariables false
set_option maxRecDepth 20000
set_option maxHeartbeats 1000000
attribute [local irreducible] WPc WPl WPq ReadR OpT BinR HasS bx rdN rowN Take Takes Prov Triple ResF BuildP Done ag Int.decLt Int.decLe Int.instDecidableEq

theorem fread_pkt {h : Hd} {d : List UInt8} (he : fwerr h d.length = 0) : fVal (fpkt h d) = .tuple #[ag (hdc (fhead (fpkt h d))), .int .i64 0] := by
  unfold fVal fread
  rw [if_pos (ferr_pkt he), ferr_pkt he]
def h13 : Hd := ⟨false, 17, 0, Adr.zero, Adr.zero, false, 9⟩
theorem h13_err : fwerr h13 ([1, 2] : List UInt8).length = 0 := by decide +kernel
theorem h13_len : (fwL h13 [1, 2]).length = 22 := by decide +kernel
theorem h13_read : fVal (fwL h13 [1, 2]) = .tuple #[ag (hdc ⟨false, 17, 20, Adr.zero, Adr.zero, false, 9⟩), .int .i64 0] := by kernel_rfl
attribute [local irreducible] fwL fread ferr fpkt fwerr
theorem lives13_t : Triple Try.prog 39 #[] [] (RVal (.bool true)) := by
  have hl := h13_len
  have h1 := fun v => fwrite_t h13 v [1, 2] (by decide)
  rw [h13_err] at h1
  have h2 := fun v => fread_t v (fwL h13 [1, 2]) (by omega)
  rw [h13_read] at h2
  have hz : (false == false && (decide ((((17 : UInt8).toNat : Nat) : Int) = 17) && (decide ((20 : Int) = 20) && (Adr.zero.six == false && (decide (Adr.zero.b = List.replicate 16 0) && (Adr.zero.six == false && (decide (Adr.zero.b = List.replicate 16 0) && (false == false && (decide ((((9 : UInt8).toNat : Nat) : Int) = 9) && true))))))))) = true := by simp [Adr.zero]
  refine Triple.enter Try.func39 rfl Try.ntmps39 rfl (fun W => ?_)
  dsimp only [argsF, Nat.reduceAdd]
  repeat' (first
    | refine WPl.nil ?_
    | refine WPq.then ?_
    | refine WPq.thenR ?_
    | refine WPq.thenE ?_
    | refine WPq.blockN ?_
    | refine WPq.blockR ?_
    | refine WPq.blockE ?_
    | refine WPq.blockO rfl ?_
    | refine WPc.seq ?_
    | refine WPc.block ?_
    | refine WPc.ret ?_
    | refine WPc.exit ?_
    | refine WPc.skip ?_
    | refine WPc.region ?_
    | ((show WPc _ _ _ _ _ _ (.cond _ _ _) _; first | refine WPc.cT ?_ | refine WPc.cF ?_ | (refine WPc.cS (fun hc => ?_) (fun hc => ?_) <;> (try simp only [decide_eq_true_eq, decide_eq_false_iff_not, Bool.not_eq_true', Bool.not_eq_false', Bool.and_eq_true, Bool.or_eq_true, Bool.and_eq_false_iff, Bool.or_eq_false_iff, Bool.not_true, Bool.not_false, Int.not_lt, Int.not_le] at hc) <;> (try (exfalso; first | omega | exact clash1 hc (by assumption) | exact clash2 hc (by assumption) | exact hc trivial | exact hc (by assumption) | exact absurd hc (by assumption))))))
    | ((show WPl _ _ _ _ _ _ _ (⟨_, .buildSlice _ _ _, _, _, _, _⟩ :: _) _; refine WPl.lit fun v hv => ?_))
    | ((show WPl _ _ _ _ _ _ _ (⟨some 8, .call ⟨.value _, _, _⟩, _, _, _, _⟩ :: _) _; refine WPl.cR2 (h1 _) fun v hv => ?_))
    | ((show WPl _ _ _ _ _ _ _ (⟨some 13, .call ⟨.value _, _, _⟩, _, _, _, _⟩ :: _) _; refine WPl.cV (h2 _) ?_))
    | ((show WPl _ _ _ _ _ _ _ (⟨_, .binOp .eql _ _ _ _, _, _, _, _⟩ :: _) _; refine WPl.rdX (ReadR.binE rfl rfl (BinR.eqlA eqcA) (congrArg Value.bool hz)) ?_))
    | ((show WPl _ _ _ _ _ _ _ (_ :: _) _; first | refine WPl.rd ?_ | refine WPl.sk ?_ | refine WPl.rdB ?_))
    | ((show WPl _ _ _ _ _ _ _ (⟨_, .alloc _, _, _, _, _⟩ :: _) _; refine WPl.nw fun g => ?_))
    | ((show WPl _ _ _ _ _ _ _ (⟨_, .store _ _ _, _, _, _, _⟩ :: _) _; first | refine WPl.st1 ?_ | refine WPl.stA ?_ | refine WPl.stEB ?_ | refine WPl.stRB ?_))
    | ((show WPl _ _ _ _ _ _ _ (_ :: _) _; refine WPl.spl (fun hc => ?_) (fun hc => ?_) <;> (try simp only [decide_eq_true_eq, decide_eq_false_iff_not, Bool.not_eq_true', Bool.not_eq_false', Bool.and_eq_true, Bool.or_eq_true, Bool.and_eq_false_iff, Bool.or_eq_false_iff, Bool.not_true, Bool.not_false, Int.not_lt, Int.not_le] at hc) <;> (try (exfalso; first | omega | exact clash1 hc (by assumption) | exact clash2 hc (by assumption) | exact hc trivial | exact hc (by assumption) | exact absurd hc (by assumption)))))
    | fail)
  all_goals try (first
    | exact WPq.dV
    | exact WPq.dR
    | exact WPq.dR2
    | exact WPq.dH
    | exact WPq.dBH
    | exact WPq.dT)
theorem ipfourReads_t (v : Value) (l : List UInt8) : Triple Try.prog 9 #[v] [rb v l] (RVal (.bool true)) := by
  have hl : (l.take 2060).length ≤ 2060 := List.length_take_le _ _
  have h1 := fun x => fread_t x (l.take 2060) (by omega)
  have h2 := fun x => rf_t x (l.take 2060) (by omega)
  obtain ⟨X, hX⟩ : ∃ X, X = fread (l.take 2060) := ⟨_, rfl⟩
  obtain ⟨c, hc⟩ : ∃ c, c = ferr (l.take 2060) := ⟨_, rfl⟩
  simp only [fVal] at h1 h2
  rw [← hX, ← hc] at h1 h2
  have hz : (X.six == X.six && (decide (((X.proto.toNat : Nat) : Int) = ((X.proto.toNat : Nat) : Int)) && (decide (X.pos = X.pos) && (X.src.six == X.src.six && (decide (X.src.b = X.src.b) && (X.dst.six == X.dst.six && (decide (X.dst.b = X.dst.b) && (X.part == X.part && (decide (((X.hops.toNat : Nat) : Int) = ((X.hops.toNat : Nat) : Int)) && true))))))))) = true := by simp
  have hk : decide (c = c) = true := by simp
  clear hX hc
  refine Triple.enter Try.func9 rfl Try.ntmps9 rfl (fun W => ?_)
  dsimp only [argsF, Nat.reduceAdd]
  repeat' (first
    | refine WPl.nil ?_
    | refine WPq.then ?_
    | refine WPq.thenR ?_
    | refine WPq.thenE ?_
    | refine WPq.blockN ?_
    | refine WPq.blockR ?_
    | refine WPq.blockE ?_
    | refine WPq.blockO rfl ?_
    | refine WPc.seq ?_
    | refine WPc.block ?_
    | refine WPc.ret ?_
    | refine WPc.exit ?_
    | refine WPc.skip ?_
    | refine WPc.region ?_
    | ((show WPc _ _ _ _ _ _ (.cond _ _ _) _; first | refine WPc.cT ?_ | refine WPc.cF ?_ | (refine WPc.cS (fun hc => ?_) (fun hc => ?_) <;> (try simp only [decide_eq_true_eq, decide_eq_false_iff_not, Bool.not_eq_true', Bool.not_eq_false', Bool.and_eq_true, Bool.or_eq_true, Bool.and_eq_false_iff, Bool.or_eq_false_iff, Bool.not_true, Bool.not_false, Int.not_lt, Int.not_le] at hc) <;> (try (exfalso; first | omega | exact clash1 hc (by assumption) | exact clash2 hc (by assumption) | exact hc trivial | exact hc (by assumption) | exact absurd hc (by assumption))))))
    | ((show WPl _ _ _ _ _ _ _ (⟨_, .buildSlice _ _ _, _, _, _, _⟩ :: _) _; refine WPl.lit fun v hv => ?_))
    | ((show WPl _ _ _ _ _ _ _ (⟨_, .call ⟨.builtin .append, _, _⟩, _, _, _, _⟩ :: _) _; refine WPl.app fun v hv => ?_))
    | ((show WPl _ _ _ _ _ _ _ (⟨some 8, .call ⟨.value _, _, _⟩, _, _, _, _⟩ :: _) _; refine WPl.cR (few_t v l 2060 (by omega)) fun v hv => ?_))
    | ((show WPl _ _ _ _ _ _ _ (⟨some 13, .call ⟨.value _, _, _⟩, _, _, _, _⟩ :: _) _; refine WPl.cV (h1 _) ?_))
    | ((show WPl _ _ _ _ _ _ _ (⟨some 18, .call ⟨.value _, _, _⟩, _, _, _, _⟩ :: _) _; refine WPl.cV (h2 _) ?_))
    | ((show WPl _ _ _ _ _ _ _ (⟨some 30, .call ⟨.value _, _, _⟩, _, _, _, _⟩ :: _) _; refine WPl.cV (lives13_t) ?_))
    | ((show WPl _ _ _ _ _ _ _ (⟨_, .binOp .eql _ _ _ _, _, _, _, _⟩ :: _) _; refine WPl.rdX (ReadR.binE rfl rfl (BinR.eqlA eqcA) (congrArg Value.bool hz)) ?_))
    | ((show WPl _ _ _ _ _ _ _ (⟨_, .binOp .eql _ _ _ _, _, _, _, _⟩ :: _) _; refine WPl.rdX (ReadR.binE rfl rfl BinR.eql (congrArg Value.bool hk)) ?_))
    | ((show WPl _ _ _ _ _ _ _ (_ :: _) _; first | refine WPl.rd ?_ | refine WPl.sk ?_ | refine WPl.rdB ?_))
    | ((show WPl _ _ _ _ _ _ _ (⟨_, .alloc _, _, _, _, _⟩ :: _) _; refine WPl.nw fun g => ?_))
    | ((show WPl _ _ _ _ _ _ _ (⟨_, .store _ _ _, _, _, _, _⟩ :: _) _; first | refine WPl.st1 ?_ | refine WPl.stA ?_ | refine WPl.stEB ?_ | refine WPl.stRB ?_))
    | ((show WPl _ _ _ _ _ _ _ (_ :: _) _; refine WPl.spl (fun hc => ?_) (fun hc => ?_) <;> (try simp only [decide_eq_true_eq, decide_eq_false_iff_not, Bool.not_eq_true', Bool.not_eq_false', Bool.and_eq_true, Bool.or_eq_true, Bool.and_eq_false_iff, Bool.or_eq_false_iff, Bool.not_true, Bool.not_false, Int.not_lt, Int.not_le] at hc) <;> (try (exfalso; first | omega | exact clash1 hc (by assumption) | exact clash2 hc (by assumption) | exact hc trivial | exact hc (by assumption) | exact absurd hc (by assumption)))))
    | fail)
  all_goals try (first
    | exact WPq.dV
    | exact WPq.dR
    | exact WPq.dR2
    | exact WPq.dH
    | exact WPq.dBH
    | exact WPq.dT)
end Go.Proofs.Yteofjhjhaaafjaa
