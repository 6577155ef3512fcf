/- The statement IpsixCut: it returns true. -/
import Derived.Test.YteofjhjhaaafjaaIpsixL
namespace Go.Proofs.Yteofjhjhaaafjaa
open Go.RowKit
set_option linter.unusedSimpArgs false
set_option linter.unusedVariables false
set_option maxRecDepth 20000
set_option maxHeartbeats 1000000
attribute [local irreducible] WPc WPl WPq ReadR OpT BinR HasS bx rdN rowN Take Takes Prov Triple ResF BuildP Done ag Int.decLt Int.decLe Int.instDecidableEq
attribute [local irreducible] xwL xread xerr xpkt xwerr

theorem BinR.remT {P : Program} {T : TypeId} {k : IntKind} {a b c : Int} (h : a % b = c) (h0 : 0 ≤ a) (hb : 0 < b) (h2 : 0 ≤ c) : BinR P .rem T (.int k a) (.int k b) (.int k c) := h ▸ BinR.remK h0 hb
theorem ipsixCut_t (h : Hd) (u : Value) (l : List UInt8) (n : Nat) (hn : n < 65536) : Triple Try.prog 8 #[ag (hdc h), u, .int .u16 (n : Int)] [rb u l] (RVal (.bool true)) := by
  have l1 := h.src.len
  have l2 := h.dst.len
  have hl : (l.take 200).length ≤ 200 := List.length_take_le _ _
  have h1 := fun v => xwrite_t h v (l.take 200) (by omega)
  by_cases he : xwerr h (l.take 200).length = 0
  · obtain ⟨L, hL⟩ : ∃ L, L = xwL h (l.take 200) := ⟨_, rfl⟩
    have hp : L = xpkt h (l.take 200) := by rw [hL]; unfold xwL; rw [if_pos he]
    have hlen : L.length = 40 + (l.take 200).length := by rw [hp, (xpkt_read he).1]
    rw [he, ← hL] at h1
    obtain ⟨m, hm⟩ : ∃ m, m = n % L.length := ⟨_, rfl⟩
    have hml : m < L.length := by rw [hm]; exact Nat.mod_lt _ (by omega)
    have hmi : (n : Int) % (L.length : Int) = (m : Int) := by rw [hm]; exact (Int.natCast_emod n L.length).symm
    have e1 : xerr (seg L 0 m) = 9 := by
      have := xerr_cut he (m := m) (by rw [← hp]; exact hml)
      rw [← hp] at this
      simpa [seg] using this
    have e2 := fun x => xerr_long he (by omega) x
    rw [← hp] at e2
    have h2 := fun v => xread_t v (seg L 0 m) (by rw [seg_len]; omega)
    have h3 := fun v x => xread_t v (L ++ [x]) (by simp; omega)
    simp only [sVal] at h2 h3
    rw [e1] at h2
    clear e1 hL hp hm
    simp only [e2] at h3
    clear e2
    have e3 : nbs [] ++ L ++ nbs [(n : Int) % 256] = L ++ [UInt8.ofNat (n % 256)] := by
      rw [nbs_nil, List.nil_append, nbs_cons, nbs_nil, show ((n : Int) % 256).toNat = n % 256 by omega]
    have h4 : ∀ v, Triple Try.prog 36 #[v] [rb v (nbs [] ++ L ++ nbs [(n : Int) % 256])] (RVal (.tuple #[ag (hdc (xread (L ++ [UInt8.ofNat (n % 256)]))), .int .i64 10])) := fun v => by rw [e3]; exact h3 v _
    clear h3 e3
    refine Triple.enter Try.func8 rfl Try.ntmps8 rfl (fun W => ?_)
    dsimp only [argsF, Nat.reduceAdd]
    repeat' (first
      | refine WPl.nil ?_
      | refine WPq.then ?_
      | refine WPq.thenR ?_
      | refine WPq.thenE ?_
      | refine WPq.blockN ?_
      | refine WPq.blockR ?_
      | refine WPq.blockE ?_
      | refine WPq.blockO rfl ?_
      | refine WPc.seq ?_
      | refine WPc.block ?_
      | refine WPc.ret ?_
      | refine WPc.exit ?_
      | refine WPc.skip ?_
      | refine WPc.region ?_
      | ((show WPc _ _ _ _ _ _ (.cond _ _ _) _; first | refine WPc.cT ?_ | refine WPc.cF ?_ | (refine WPc.cS (fun hc => ?_) (fun hc => ?_) <;> (try simp only [decide_eq_true_eq, decide_eq_false_iff_not, Bool.not_eq_true', Bool.not_eq_false', Bool.and_eq_true, Bool.or_eq_true, Bool.and_eq_false_iff, Bool.or_eq_false_iff, Bool.not_true, Bool.not_false, Int.not_lt, Int.not_le] at hc) <;> (try (exfalso; first | omega | exact clash1 hc (by assumption) | exact clash2 hc (by assumption) | exact hc trivial | exact hc (by assumption) | exact absurd hc (by assumption))))))
      | ((show WPl _ _ _ _ _ _ _ (⟨_, .buildSlice _ _ _, _, _, _, _⟩ :: _) _; refine WPl.lit fun v hv => ?_))
      | ((show WPl _ _ _ _ _ _ _ (⟨_, .call ⟨.builtin .append, _, _⟩, _, _, _, _⟩ :: _) _; refine WPl.app fun v hv => ?_))
      | ((show WPl _ _ _ _ _ _ _ (⟨some 14, .call ⟨.value _, _, _⟩, _, _, _, _⟩ :: _) _; refine WPl.cR (few_t u l 200 (by omega)) fun v hv => ?_))
      | ((show WPl _ _ _ _ _ _ _ (⟨some 18, .call ⟨.value _, _, _⟩, _, _, _, _⟩ :: _) _; refine WPl.cR2 (h1 _) fun v hv => ?_))
      | ((show WPl _ _ _ _ _ _ _ (⟨some 35, .call ⟨.value _, _, _⟩, _, _, _, _⟩ :: _) _; refine WPl.cV (h2 (subv 1 v 0 m)) ?_))
      | ((show WPl _ _ _ _ _ _ _ (⟨some 46, .call ⟨.value _, _, _⟩, _, _, _, _⟩ :: _) _; refine WPl.cV (h4 _) ?_))
      | ((show WPl _ _ _ _ _ _ _ (⟨some 56, .call ⟨.value _, _, _⟩, _, _, _, _⟩ :: _) _; refine WPl.cV (lives14_t) ?_))
      | ((show WPl _ _ _ _ _ _ _ (⟨_, .binOp .rem _ _ _ _, _, _, _, _⟩ :: _) _; refine WPl.rdX (ReadR.bin rfl rfl (BinR.remT hmi (by omega) (by omega) (by omega))) ?_))
      | ((show WPl _ _ _ _ _ _ _ (_ :: _) _; first | refine WPl.rd ?_ | refine WPl.sk ?_ | refine WPl.rdB ?_))
      | ((show WPl _ _ _ _ _ _ _ (⟨_, .alloc _, _, _, _, _⟩ :: _) _; refine WPl.nw fun g => ?_))
      | ((show WPl _ _ _ _ _ _ _ (⟨_, .box _ _, _, _, _, _⟩ :: _) _; refine WPl.nw fun g => ?_))
      | ((show WPl _ _ _ _ _ _ _ (⟨_, .store _ _ _, _, _, _, _⟩ :: _) _; first | refine WPl.st1 ?_ | refine WPl.stA ?_ | refine WPl.stEB ?_ | refine WPl.stRB ?_))
      | ((show WPl _ _ _ _ _ _ _ (_ :: _) _; refine WPl.spl (fun hc => ?_) (fun hc => ?_) <;> (try simp only [decide_eq_true_eq, decide_eq_false_iff_not, Bool.not_eq_true', Bool.not_eq_false', Bool.and_eq_true, Bool.or_eq_true, Bool.and_eq_false_iff, Bool.or_eq_false_iff, Bool.not_true, Bool.not_false, Int.not_lt, Int.not_le] at hc) <;> (try (exfalso; first | omega | exact clash1 hc (by assumption) | exact clash2 hc (by assumption) | exact hc trivial | exact hc (by assumption) | exact absurd hc (by assumption)))))
      | fail)
    all_goals try (first
      | exact WPq.dV
      | exact WPq.dR
      | exact WPq.dR2
      | exact WPq.dH
      | exact WPq.dBH
      | exact WPq.dT)
  · skip
    refine Triple.enter Try.func8 rfl Try.ntmps8 rfl (fun W => ?_)
    dsimp only [argsF, Nat.reduceAdd]
    repeat' (first
      | refine WPl.nil ?_
      | refine WPq.then ?_
      | refine WPq.thenR ?_
      | refine WPq.thenE ?_
      | refine WPq.blockN ?_
      | refine WPq.blockR ?_
      | refine WPq.blockE ?_
      | refine WPq.blockO rfl ?_
      | refine WPc.seq ?_
      | refine WPc.block ?_
      | refine WPc.ret ?_
      | refine WPc.exit ?_
      | refine WPc.skip ?_
      | refine WPc.region ?_
      | ((show WPc _ _ _ _ _ _ (.cond _ _ _) _; first | refine WPc.cT ?_ | refine WPc.cF ?_ | (refine WPc.cS (fun hc => ?_) (fun hc => ?_) <;> (try simp only [decide_eq_true_eq, decide_eq_false_iff_not, Bool.not_eq_true', Bool.not_eq_false', Bool.and_eq_true, Bool.or_eq_true, Bool.and_eq_false_iff, Bool.or_eq_false_iff, Bool.not_true, Bool.not_false, Int.not_lt, Int.not_le] at hc) <;> (try (exfalso; first | omega | exact clash1 hc (by assumption) | exact clash2 hc (by assumption) | exact hc trivial | exact hc (by assumption) | exact absurd hc (by assumption))))))
      | ((show WPl _ _ _ _ _ _ _ (⟨some 14, .call ⟨.value _, _, _⟩, _, _, _, _⟩ :: _) _; refine WPl.cR (few_t u l 200 (by omega)) fun v hv => ?_))
      | ((show WPl _ _ _ _ _ _ _ (⟨some 18, .call ⟨.value _, _, _⟩, _, _, _, _⟩ :: _) _; refine WPl.cR2 (h1 _) fun v hv => ?_))
      | ((show WPl _ _ _ _ _ _ _ (⟨some 23, .call ⟨.value _, _, _⟩, _, _, _, _⟩ :: _) _; refine WPl.cV (lives14_t) ?_))
      | ((show WPl _ _ _ _ _ _ _ (_ :: _) _; first | refine WPl.rd ?_ | refine WPl.sk ?_ | refine WPl.rdB ?_))
      | ((show WPl _ _ _ _ _ _ _ (⟨_, .alloc _, _, _, _, _⟩ :: _) _; refine WPl.nw fun g => ?_))
      | ((show WPl _ _ _ _ _ _ _ (⟨_, .box _ _, _, _, _, _⟩ :: _) _; refine WPl.nw fun g => ?_))
      | ((show WPl _ _ _ _ _ _ _ (⟨_, .store _ _ _, _, _, _, _⟩ :: _) _; first | refine WPl.st1 ?_ | refine WPl.stA ?_ | refine WPl.stEB ?_ | refine WPl.stRB ?_))
      | ((show WPl _ _ _ _ _ _ _ (_ :: _) _; refine WPl.spl (fun hc => ?_) (fun hc => ?_) <;> (try simp only [decide_eq_true_eq, decide_eq_false_iff_not, Bool.not_eq_true', Bool.not_eq_false', Bool.and_eq_true, Bool.or_eq_true, Bool.and_eq_false_iff, Bool.or_eq_false_iff, Bool.not_true, Bool.not_false, Int.not_lt, Int.not_le] at hc) <;> (try (exfalso; first | omega | exact clash1 hc (by assumption) | exact clash2 hc (by assumption) | exact hc trivial | exact hc (by assumption) | exact absurd hc (by assumption)))))
      | fail)
    all_goals try (first
      | exact WPq.dV
      | exact WPq.dR
      | exact WPq.dR2
      | exact WPq.dH
      | exact WPq.dBH
      | exact WPq.dT)
end Go.Proofs.Yteofjhjhaaafjaa
