/- Layer 15 (seg): what the statements use; SegReads, SegPseudo: they return true. -/
import Derived.Test.YteofjhjhaaafjaaSi
import Derived.Test.YteofjhjhaaafjaaSx
import Derived.Test.YteofjhjhaaafjaaTm
namespace Go.Proofs.Yteofjhjhaaafjaa
open Go.RowKit
set_option linter.unusedSimpArgs false
set_option linter.unusedVariables false
set_option maxRecDepth 20000
set_option maxHeartbeats 400000
attribute [local irreducible] WPc WPl WPq ReadR OpT BinR HasS bx rdN rowN Take Takes Prov Triple ResF BuildP Done ag Int.decLt Int.decLe Int.instDecidableEq

def h15 : Hd := ⟨false, 17, 0, Adr.zero, Adr.zero, false, 9⟩
def s15 : Sg := ⟨1, 2, 0, 0, false, 0⟩
theorem h15_err : swE h15 s15 ([5] : List UInt8).length = 0 := by decide +kernel
theorem h15_len : (swL h15 s15 [5]).length = 9 := by decide +kernel
theorem h15_read : gVal h15 (swL h15 s15 [5]) = .tuple #[ag (sgc ⟨1, 2, 0, 6, false, 8⟩), .int .i64 0] := by kernel_rfl
theorem sgEq {a b : Sg} (h : a = b) : (decide ((a.src : Int) = (b.src : Int)) && (decide ((a.dst : Int) = (b.dst : Int)) && (decide (((a.flags.toNat : Nat) : Int) = ((b.flags.toNat : Nat) : Int)) && (decide (a.sumAt = b.sumAt) && ((a.zero == b.zero) && (decide (a.data = b.data) && true)))))) = true := by
  subst h; simp
attribute [local irreducible] swL sgR sgE swE
theorem lives15_t : Triple Try.prog 43 #[] [] (RVal (.bool true)) := by
  have hl := h15_len
  have h1 := fun v => swrite_t h15 s15 v [5] (by decide) (by decide) (by decide)
  rw [h15_err] at h1
  have h2 := fun v => sread_t h15 v (swL h15 s15 [5]) (by omega)
  rw [h15_read] at h2
  refine Triple.enter Try.func43 rfl Try.ntmps43 rfl (fun W => ?_)
  dsimp only [argsF, Nat.reduceAdd]
  repeat' (first
    | refine WPl.nil ?_
    | refine WPq.then ?_
    | refine WPq.thenR ?_
    | refine WPq.thenE ?_
    | refine WPq.blockN ?_
    | refine WPq.blockR ?_
    | refine WPq.blockE ?_
    | refine WPq.blockO rfl ?_
    | refine WPc.seq ?_
    | refine WPc.block ?_
    | refine WPc.ret ?_
    | refine WPc.exit ?_
    | refine WPc.skip ?_
    | refine WPc.region ?_
    | ((show WPc _ _ _ _ _ _ (.cond _ _ _) _; first | refine WPc.cT ?_ | refine WPc.cF ?_ | (refine WPc.cS (fun hc => ?_) (fun hc => ?_) <;> (try simp only [decide_eq_true_eq, decide_eq_false_iff_not, Bool.not_eq_true', Bool.not_eq_false', Bool.and_eq_true, Bool.or_eq_true, Bool.and_eq_false_iff, Bool.or_eq_false_iff, Bool.not_true, Bool.not_false, Int.not_lt, Int.not_le] at hc) <;> (try (exfalso; first | omega | exact clash1 hc (by assumption) | exact clash2 hc (by assumption) | exact hc trivial | exact hc (by assumption) | exact absurd hc (by assumption))))))
    | ((show WPl _ _ _ _ _ _ _ (⟨_, .buildSlice _ _ _, _, _, _, _⟩ :: _) _; refine WPl.lit fun v hv => ?_))
    | ((show WPl _ _ _ _ _ _ _ (⟨some 11, .call ⟨.value _, _, _⟩, _, _, _, _⟩ :: _) _; refine WPl.cR2 (h1 _) fun v hv => ?_))
    | ((show WPl _ _ _ _ _ _ _ (⟨some 17, .call ⟨.value _, _, _⟩, _, _, _, _⟩ :: _) _; refine WPl.cV (h2 _) ?_))
    | ((show WPl _ _ _ _ _ _ _ (⟨some 34, .binOp .eql _ _ _ _, _, _, _, _⟩ :: _) _; refine WPl.rdX (ReadR.binE rfl rfl (BinR.eqlA eqcA) (congrArg Value.bool (sgEq (a := ⟨1, 2, 0, 6, false, 8⟩) (b := ⟨1, 2, 0, 6, false, 8⟩) rfl))) ?_))
    | ((show WPl _ _ _ _ _ _ _ (⟨some 22, .binOp .eql _ _ _ _, _, _, _, _⟩ :: _) _; refine WPl.rdX (ReadR.binE rfl rfl BinR.eql (congrArg Value.bool (decide_eq_true (by rw [hl]; rfl)))) ?_))
    | ((show WPl _ _ _ _ _ _ _ (⟨some 25, .binOp .eql _ _ _ _, _, _, _, _⟩ :: _) _; refine WPl.rdX (ReadR.binE rfl rfl BinR.eql (congrArg Value.bool (decide_eq_true rfl))) ?_))
    | ((show WPl _ _ _ _ _ _ _ (⟨some 29, .binOp .eql _ _ _ _, _, _, _, _⟩ :: _) _; refine WPl.rdX (ReadR.binE rfl rfl BinR.eql (congrArg Value.bool (decide_eq_true rfl))) ?_))
    | ((show WPl _ _ _ _ _ _ _ (_ :: _) _; first | refine WPl.rd ?_ | refine WPl.sk ?_ | refine WPl.rdB ?_))
    | ((show WPl _ _ _ _ _ _ _ (⟨_, .alloc _, _, _, _, _⟩ :: _) _; refine WPl.nw fun g => ?_))
    | ((show WPl _ _ _ _ _ _ _ (⟨_, .store _ _ _, _, _, _, _⟩ :: _) _; first | refine WPl.st1 ?_ | refine WPl.stA ?_ | refine WPl.stEB ?_ | refine WPl.stRB ?_))
    | ((show WPl _ _ _ _ _ _ _ (_ :: _) _; refine WPl.spl (fun hc => ?_) (fun hc => ?_) <;> (try simp only [decide_eq_true_eq, decide_eq_false_iff_not, Bool.not_eq_true', Bool.not_eq_false', Bool.and_eq_true, Bool.or_eq_true, Bool.and_eq_false_iff, Bool.or_eq_false_iff, Bool.not_true, Bool.not_false, Int.not_lt, Int.not_le] at hc) <;> (try (exfalso; first | omega | exact clash1 hc (by assumption) | exact clash2 hc (by assumption) | exact hc trivial | exact hc (by assumption) | exact absurd hc (by assumption)))))
    | fail)
  all_goals try (first
    | exact WPq.dV
    | exact WPq.dR
    | exact WPq.dR2
    | exact WPq.dH
    | exact WPq.dBH
    | exact WPq.dT)
theorem segReads_t (h : Hd) (vb : Value) (l : List UInt8) : Triple Try.prog 12 #[ag (hdc h), vb] [rb vb l] (RVal (.bool true)) := by
  have l1 := h.src.len
  have l2 := h.dst.len
  have hl : (l.take 2000).length ≤ 2000 := List.length_take_le _ _
  obtain ⟨X, hX⟩ : ∃ X, X = sgR h (l.take 2000) := ⟨_, rfl⟩
  obtain ⟨c, hc⟩ : ∃ c, c = sgE h (l.take 2000) := ⟨_, rfl⟩
  have h1 : ∀ v, Triple Try.prog 41 #[ag (hdc h), v] [rb v (nbs [] ++ l.take 2000)] (RVal (.tuple #[ag (sgc X), .int .i64 c])) := fun v => by
    rw [hX, hc]; exact sread_t h v (l.take 2000) (by omega)
  have h2 := fun v => rsread_t h v (l.take 2000) (by omega)
  simp only [gVal] at h2
  rw [← hX, ← hc] at h2
  have h3 := lives15_t
  clear hX hc
  refine Triple.enter Try.func12 rfl Try.ntmps12 rfl (fun W => ?_)
  dsimp only [argsF, Nat.reduceAdd]
  repeat' (first
    | refine WPl.nil ?_
    | refine WPq.then ?_
    | refine WPq.thenR ?_
    | refine WPq.thenE ?_
    | refine WPq.blockN ?_
    | refine WPq.blockR ?_
    | refine WPq.blockE ?_
    | refine WPq.blockO rfl ?_
    | refine WPc.seq ?_
    | refine WPc.block ?_
    | refine WPc.ret ?_
    | refine WPc.exit ?_
    | refine WPc.skip ?_
    | refine WPc.region ?_
    | ((show WPc _ _ _ _ _ _ (.region 2 _ true) _; refine WPc.drawn [([], [5, 13, 14, 15]), ([], [5, 12, 14]), ([], [5, 12, 13]), ([1, 2], [5, 12, 13, 14]), ([0, 1, 2, 3], [5, 12, 13, 14, 15]), ([0, 1, 2, 3, 4], [5, 12, 13, 14, 15, 16]), ([0, 1, 2, 3, 4, 5], [5, 11, 12, 13, 14, 15, 16, 18]), ([0, 1, 2, 3, 4, 5], [5, 11, 12, 13, 14, 15, 16, 17]), ([], [11, 12, 13, 14, 15, 16, 17, 18]), ([0, 1, 2, 3, 4, 5, 6, 8], [5, 11, 12, 13, 14, 15, 16, 17, 18]), ([0, 1, 2, 3, 4, 5, 6, 7, 8, 9], [5, 11, 12, 13, 14, 15, 16, 17, 18])] [(1, 3), (8, 9)] (Γx := []) (by exact takesA) (by repeat' (first | exact own_nil | refine own_cons (by first | exact bx_own | exact rowN_own | exact rfl) ?_ | fail)) (by kernel_rfl) (by kernel_rfl) ?_; dsimp only [prev0, List.length_nil, List.length_cons]))
    | ((show RGl _ _ _ _ _ _ _ _ _ _ _; first | (show RGl _ _ _ _ _ _ _ _ (⟨some 10, .call ⟨.value _, _, _⟩, _, _, _, _⟩ :: _) _ _; refine RGl.row (Γ1 := fun _ => []) (fun e hk => by (try dsimp only [bndR, ensR, oksR, fcutR, List.append_nil, List.nil_append, List.cons_append, List.append_assoc] at hk ⊢); refine OpT.call (few_t vb l 2000 (by omega)) evsA provsA (by kernel_rfl)) ?_) | (show RGl _ _ _ _ _ _ _ _ (⟨some 16, .call ⟨.value _, _, _⟩, _, _, _, _⟩ :: _) _ _; refine RGl.vl (fun e hk => by (try dsimp only [bndR, ensR, oksR, fcutR, List.append_nil, List.nil_append, List.cons_append, List.append_assoc] at hk ⊢); refine OpT.call (h1 _) evsA provsA (by kernel_rfl)) ?_) | (show RGl _ _ _ _ _ _ _ _ (⟨some 22, .call ⟨.value _, _, _⟩, _, _, _, _⟩ :: _) _ _; refine RGl.vl (fun e hk => by (try dsimp only [bndR, ensR, oksR, fcutR, List.append_nil, List.nil_append, List.cons_append, List.append_assoc] at hk ⊢); refine OpT.call (h2 _) evsA provsA (by kernel_rfl)) ?_) | (show RGl _ _ _ _ _ _ _ _ (⟨some 34, .call ⟨.value _, _, _⟩, _, _, _, _⟩ :: _) _ _; refine RGl.vl (fun e hk => by (try dsimp only [bndR, ensR, oksR, fcutR, List.append_nil, List.nil_append, List.cons_append, List.append_assoc] at hk ⊢); refine OpT.call (h3) evsA provsA (by kernel_rfl)) ?_) | (show RGl _ _ _ _ _ _ _ _ (⟨some 27, .binOp .eql _ _ _ _, _, _, _, _⟩ :: _) _ _; refine RGl.rdX (fun e hk => by (try dsimp only [bndR, ensR, oksR, fcutR, List.append_nil, List.nil_append, List.cons_append, List.append_assoc] at hk ⊢); exact ReadR.binE rfl rfl (BinR.eqlA eqcA) (congrArg Value.bool (sgEq (a := X) (b := X) rfl))) ?_) | (show RGl _ _ _ _ _ _ _ _ (⟨some 31, .binOp .eql _ _ _ _, _, _, _, _⟩ :: _) _ _; refine RGl.rdX (fun e hk => by (try dsimp only [bndR, ensR, oksR, fcutR, List.append_nil, List.nil_append, List.cons_append, List.append_assoc] at hk ⊢); exact ReadR.binE rfl rfl BinR.eql (congrArg Value.bool (decide_eq_true rfl))) ?_) | (show RGl _ _ _ _ _ _ _ _ (_ :: _) _ _; first | refine RGl.rdA ?_ | refine RGl.rdX (fun e hk => by (try dsimp only [bndR, ensR, oksR, fcutR, List.append_nil, List.nil_append, List.cons_append, List.append_assoc] at hk ⊢); exact readB) ?_) | (show RGl _ _ _ _ _ _ _ _ (⟨_, .alloc _, _, _, _, _⟩ :: _) _ _; refine RGl.nwA ?_) | (show RGl _ _ _ _ _ _ _ _ (⟨_, .buildSlice _ _ _, _, _, _, _⟩ :: _) _ _; refine RGl.litA ?_) | (show RGl _ _ _ _ _ _ _ _ (⟨_, .call ⟨.builtin .append, _, _⟩, _, _, _, _⟩ :: _) _ _; refine RGl.appA ?_) | (show RGl _ _ _ _ _ _ _ _ (⟨_, .store _ _ _, _, _, _, _⟩ :: _) _ _; refine RGl.stA ?_) | (refine RGl.fin (fun e hk => ?_); (try dsimp only [bndA, ensAR, oksA, List.append_nil, List.nil_append, List.cons_append, List.append_assoc] at hk ⊢); (repeat (obtain ⟨hk1, hk⟩ := hk))) | fail))
    | ((show WPc _ _ _ _ _ _ (.cond _ _ _) _; first | refine WPc.cT ?_ | refine WPc.cF ?_ | (refine WPc.cS (fun hc => ?_) (fun hc => ?_) <;> (try simp only [decide_eq_true_eq, decide_eq_false_iff_not, Bool.not_eq_true', Bool.not_eq_false', Bool.and_eq_true, Bool.or_eq_true, Bool.and_eq_false_iff, Bool.or_eq_false_iff, Bool.not_true, Bool.not_false, Int.not_lt, Int.not_le] at hc) <;> (try (exfalso; first | omega | exact clash1 hc (by assumption) | exact clash2 hc (by assumption) | exact hc trivial | exact hc (by assumption) | exact absurd hc (by assumption))))))
    | ((show WPl _ _ _ _ _ _ _ (⟨some 10, .call ⟨.value _, _, _⟩, _, _, _, _⟩ :: _) _; refine WPl.cR (few_t vb l 2000 (by omega)) fun v hv => ?_))
    | ((show WPl _ _ _ _ _ _ _ (⟨some 16, .call ⟨.value _, _, _⟩, _, _, _, _⟩ :: _) _; refine WPl.cV (h1 _) ?_))
    | ((show WPl _ _ _ _ _ _ _ (⟨some 22, .call ⟨.value _, _, _⟩, _, _, _, _⟩ :: _) _; refine WPl.cV (h2 _) ?_))
    | ((show WPl _ _ _ _ _ _ _ (⟨some 34, .call ⟨.value _, _, _⟩, _, _, _, _⟩ :: _) _; refine WPl.cV (h3) ?_))
    | ((show WPl _ _ _ _ _ _ _ (⟨some 27, .binOp .eql _ _ _ _, _, _, _, _⟩ :: _) _; refine WPl.rdX (ReadR.binE rfl rfl (BinR.eqlA eqcA) (congrArg Value.bool (sgEq (a := X) (b := X) rfl))) ?_))
    | ((show WPl _ _ _ _ _ _ _ (⟨some 31, .binOp .eql _ _ _ _, _, _, _, _⟩ :: _) _; refine WPl.rdX (ReadR.binE rfl rfl BinR.eql (congrArg Value.bool (decide_eq_true rfl))) ?_))
    | ((show WPl _ _ _ _ _ _ _ (_ :: _) _; first | refine WPl.rd ?_ | refine WPl.sk ?_ | refine WPl.rdB ?_))
    | ((show WPl _ _ _ _ _ _ _ (⟨_, .alloc _, _, _, _, _⟩ :: _) _; refine WPl.nw fun g => ?_))
    | ((show WPl _ _ _ _ _ _ _ (⟨_, .box _ _, _, _, _, _⟩ :: _) _; refine WPl.nw fun g => ?_))
    | ((show WPl _ _ _ _ _ _ _ (⟨_, .store _ _ _, _, _, _, _⟩ :: _) _; first | refine WPl.st1 ?_ | refine WPl.stA ?_ | refine WPl.stEB ?_ | refine WPl.stRB ?_))
    | ((show WPl _ _ _ _ _ _ _ (_ :: _) _; refine WPl.spl (fun hc => ?_) (fun hc => ?_) <;> (try simp only [decide_eq_true_eq, decide_eq_false_iff_not, Bool.not_eq_true', Bool.not_eq_false', Bool.and_eq_true, Bool.or_eq_true, Bool.and_eq_false_iff, Bool.or_eq_false_iff, Bool.not_true, Bool.not_false, Int.not_lt, Int.not_le] at hc) <;> (try (exfalso; first | omega | exact clash1 hc (by assumption) | exact clash2 hc (by assumption) | exact hc trivial | exact hc (by assumption) | exact absurd hc (by assumption)))))
    | fail)
  all_goals try (first
    | exact WPq.dV
    | exact WPq.dR
    | exact WPq.dR2
    | exact WPq.dH
    | exact WPq.dBH
    | exact WPq.dT)
theorem segPseudo_t (h : Hd) (k : Int) (h1 : -9223372036854775808 ≤ k) (h2 : k ≤ 9223372036854775807) : Triple Try.prog 15 #[ag (hdc h), .int .i64 k] [] (RVal (.bool true)) := by
  have l1 := h.src.len
  have l2 := h.dst.len
  obtain ⟨n, hn⟩ : ∃ n : Nat, IntKind.u64.wrap k = (n : Int) := ⟨(IntKind.u64.wrap k).toNat, by rw [IntKind.wrap_u64]; omega⟩
  have hn2 : n < 18446744073709551616 := by rw [IntKind.wrap_u64] at hn; omega
  have c1 := Pseudo_t h k n hn hn2
  have c2 := rpseudo_t h k n hn hn2
  have c3 := lives15_t
  obtain ⟨L, hL⟩ : ∃ L, L = psu h n := ⟨_, rfl⟩
  rw [← hL] at c1 c2
  clear hL
  refine Triple.enter Try.func15 rfl Try.ntmps15 rfl (fun W => ?_)
  dsimp only [argsF, Nat.reduceAdd]
  repeat' (first
    | refine WPl.nil ?_
    | refine WPq.then ?_
    | refine WPq.thenR ?_
    | refine WPq.thenE ?_
    | refine WPq.blockN ?_
    | refine WPq.blockR ?_
    | refine WPq.blockE ?_
    | refine WPq.blockO rfl ?_
    | refine WPc.seq ?_
    | refine WPc.block ?_
    | refine WPc.ret ?_
    | refine WPc.exit ?_
    | refine WPc.skip ?_
    | refine WPc.region ?_
    | ((show WPc _ _ _ _ _ _ (.region 1 _ true) _; refine WPc.drawn [([], [6, 9, 10]), ([], [5, 9, 10]), ([0, 1], [5, 6, 9, 10]), ([0, 1, 2], [5, 6, 7, 9, 10, 11, 12]), ([], [5, 6, 7, 8, 10]), ([], [5, 6, 7, 8, 9]), ([0, 1, 2, 4, 5], [5, 6, 7, 8, 9, 10]), ([0, 1, 2, 4, 5, 6], [5, 6, 7, 8, 9, 10, 11]), ([0, 1, 2, 3, 4, 5, 6, 7], [5, 6, 7, 8, 9, 10, 11, 12]), ([0, 1, 2, 3, 4, 5, 6, 7, 8], [5, 6, 7, 8, 9, 10, 11, 12, 13]), ([0, 1, 2, 3, 4, 5, 6, 7, 8, 9], [5, 6, 7, 8, 9, 10, 11, 12, 13, 14]), ([0, 1, 2, 3, 4, 5, 6, 7, 8, 9, 10], [5, 6, 7, 8, 9, 10, 11, 12, 13, 14, 15]), ([0, 1, 2, 3, 4, 5, 6, 7, 8, 9, 10, 11], [5, 6, 7, 8, 9, 10, 11, 12, 13, 14, 15, 16])] [] (Γx := []) (by exact takesA) (by repeat' (first | exact own_nil | refine own_cons (by first | exact bx_own | exact rowN_own | exact rfl) ?_ | fail)) (by kernel_rfl) (by kernel_rfl) ?_; dsimp only [prev0, List.length_nil, List.length_cons]))
    | ((show RGl _ _ _ _ _ _ _ _ _ _ _; first | (show RGl _ _ _ _ _ _ _ _ (⟨_, _, _, _, _, some _⟩ :: _) _ _; refine RGl.skp ?_) | (show RGl _ _ _ _ _ _ _ _ (⟨some 7, .call ⟨.value _, _, _⟩, _, _, _, _⟩ :: _) _ _; refine RGl.row (Γ1 := fun _ => []) (fun e hk => by (try dsimp only [bndR, ensR, oksR, fcutR, List.append_nil, List.nil_append, List.cons_append, List.append_assoc] at hk ⊢); refine OpT.call (c1) evsA provsA (by kernel_rfl)) ?_) | (show RGl _ _ _ _ _ _ _ _ (⟨some 11, .call ⟨.value _, _, _⟩, _, _, _, _⟩ :: _) _ _; refine RGl.row (Γ1 := fun _ => []) (fun e hk => by (try dsimp only [bndR, ensR, oksR, fcutR, List.append_nil, List.nil_append, List.cons_append, List.append_assoc] at hk ⊢); refine OpT.call (c2) evsA provsA (by kernel_rfl)) ?_) | (show RGl _ _ _ _ _ _ _ _ (⟨some 15, .call ⟨.value _, _, _⟩, _, _, _, _⟩ :: _) _ _; refine RGl.vl (fun e hk => by (try dsimp only [bndR, ensR, oksR, fcutR, List.append_nil, List.nil_append, List.cons_append, List.append_assoc] at hk ⊢); refine OpT.call (c3) evsA provsA (by kernel_rfl)) ?_) | (show RGl _ _ _ _ _ _ _ _ (⟨some 13, .binOp .eql _ _ _ _, _, _, _, _⟩ :: _) _ _; refine RGl.rdX (fun e hk => by (try dsimp only [bndR, ensR, oksR, fcutR, List.append_nil, List.nil_append, List.cons_append, List.append_assoc] at hk ⊢); exact ReadR.binE rfl rfl BinR.strUE (congrArg Value.bool (decide_eq_true rfl))) ?_) | (show RGl _ _ _ _ _ _ _ _ (_ :: _) _ _; first | refine RGl.rdA ?_ | refine RGl.rdX (fun e hk => by (try dsimp only [bndR, ensR, oksR, fcutR, List.append_nil, List.nil_append, List.cons_append, List.append_assoc] at hk ⊢); exact readB) ?_) | (refine RGl.fin (fun e hk => ?_); (try dsimp only [bndA, ensAR, oksA, List.append_nil, List.nil_append, List.cons_append, List.append_assoc] at hk ⊢); (repeat (obtain ⟨hk1, hk⟩ := hk))) | fail))
    | ((show WPc _ _ _ _ _ _ (.cond _ _ _) _; first | refine WPc.cT ?_ | refine WPc.cF ?_ | (refine WPc.cS (fun hc => ?_) (fun hc => ?_) <;> (try simp only [decide_eq_true_eq, decide_eq_false_iff_not, Bool.not_eq_true', Bool.not_eq_false', Bool.and_eq_true, Bool.or_eq_true, Bool.and_eq_false_iff, Bool.or_eq_false_iff, Bool.not_true, Bool.not_false, Int.not_lt, Int.not_le] at hc) <;> (try (exfalso; first | omega | exact clash1 hc (by assumption) | exact clash2 hc (by assumption) | exact hc trivial | exact hc (by assumption) | exact absurd hc (by assumption))))))
    | ((show WPl _ _ _ _ _ _ _ (⟨some 7, .call ⟨.value _, _, _⟩, _, _, _, _⟩ :: _) _; refine WPl.cR (c1) fun v hv => ?_))
    | ((show WPl _ _ _ _ _ _ _ (⟨some 11, .call ⟨.value _, _, _⟩, _, _, _, _⟩ :: _) _; refine WPl.cR (c2) fun v hv => ?_))
    | ((show WPl _ _ _ _ _ _ _ (⟨some 15, .call ⟨.value _, _, _⟩, _, _, _, _⟩ :: _) _; refine WPl.cV (c3) ?_))
    | ((show WPl _ _ _ _ _ _ _ (⟨some 13, .binOp .eql _ _ _ _, _, _, _, _⟩ :: _) _; refine WPl.rdX (ReadR.binE rfl rfl BinR.strUE (congrArg Value.bool (decide_eq_true rfl))) ?_))
    | ((show WPl _ _ _ _ _ _ _ (_ :: _) _; first | refine WPl.rd ?_ | refine WPl.sk ?_ | refine WPl.rdB ?_))
    | ((show WPl _ _ _ _ _ _ _ (⟨_, .box _ _, _, _, _, _⟩ :: _) _; refine WPl.nw fun g => ?_))
    | ((show WPl _ _ _ _ _ _ _ (_ :: _) _; refine WPl.spl (fun hc => ?_) (fun hc => ?_) <;> (try simp only [decide_eq_true_eq, decide_eq_false_iff_not, Bool.not_eq_true', Bool.not_eq_false', Bool.and_eq_true, Bool.or_eq_true, Bool.and_eq_false_iff, Bool.or_eq_false_iff, Bool.not_true, Bool.not_false, Int.not_lt, Int.not_le] at hc) <;> (try (exfalso; first | omega | exact clash1 hc (by assumption) | exact clash2 hc (by assumption) | exact hc trivial | exact hc (by assumption) | exact absurd hc (by assumption)))))
    | fail)
  all_goals try (first
    | exact WPq.dV
    | exact WPq.dR
    | exact WPq.dR2
    | exact WPq.dH
    | exact WPq.dBH
    | exact WPq.dT)
end Go.Proofs.Yteofjhjhaaafjaa
