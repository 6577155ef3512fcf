/- The statement IpsixPassed: it returns true. -/
import Derived.Test.YteofjhjhaaafjaaIpc
namespace Go.Proofs.Yteofjhjhaaafjaa
open Go.RowKit
set_option linter.unusedSimpArgs false
set_option linter.unusedVariables false
set_option maxRecDepth 20000
set_option maxHeartbeats 4000000
attribute [local irreducible] WPc WPl WPq ReadR OpT BinR HasS bx rdN rowN Take Takes Prov Triple ResF BuildP Done ag Int.decLt Int.decLe Int.instDecidableEq
attribute [local irreducible] xwL xread xerr xpkt xwerr btw

theorem BinR.rem4 {P : Program} {T : TypeId} {z : UInt8} : BinR P .rem T (.int .u8 ((z.toNat : Nat) : Int)) (.int .u8 4) (.int .u8 (((UInt8.ofNat (z.toNat % 4)).toNat : Nat) : Int)) := by
  have := BinR.remK (P := P) (T := T) (k := .u8) (a := (z.toNat : Int)) (b := 4) (by omega) (by omega)
  rwa [u8_nat _ (by omega), Int.natCast_emod]
theorem chain_cons (c z : UInt8) (zs : List UInt8) : chain c (z :: zs) = ((if zs = [] then c else 60) :: UInt8.ofNat (z.toNat % 4) :: List.replicate (6 + 8 * (z.toNat % 4)) 0) ++ chain c zs := rfl
theorem hdEq {a b : Hd} (h : a = b) : ((a.six == b.six) && (decide (((a.proto.toNat : Nat) : Int) = ((b.proto.toNat : Nat) : Int)) && (decide (a.pos = b.pos) && ((a.src.six == b.src.six) && (decide (a.src.b = b.src.b) && ((a.dst.six == b.dst.six) && (decide (a.dst.b = b.dst.b) && ((a.part == b.part) && (decide (((a.hops.toNat : Nat) : Int) = ((b.hops.toNat : Nat) : Int)) && true))))))))) = true := by
  subst h; simp
theorem adEq {a b : Adr} (h : a = b) : ((a.six == b.six) && (decide (a.b = b.b) && true)) = true := by
  subst h; simp
theorem xwL_zero {h : Hd} {d : List UInt8} (he : xwerr h d.length = 0) : xwL h d = xpkt h d := by unfold xwL; rw [if_pos he]
theorem ipsixPassed_a (h : Hd) (v1 v2 : Value) (l1 l2 : List UInt8) (hz : l1.length ≤ 12) : Triple Try.prog 7 #[ag (hdc h), v1, v2] [rb v1 l1, rb v2 l2] (RVal (.bool true)) := by
  have k1 := h.src.len
  have k2 := h.dst.len
  have hdl : (l2.take 60).length ≤ 60 := List.length_take_le _ _
  have hbt := rbtw_t h.proto
  have hlv := lives14_t
  have hzl : l1.length ≤ 12 := by exact hz
  have hcl := chain_len_le h.proto l1
  cases hb : btw h.proto with
  | true =>
    rw [hb] at hbt
    refine Triple.enter Try.func7 rfl Try.ntmps7 rfl (fun W => ?_)
    dsimp only [argsF, Nat.reduceAdd]
    repeat' (first
      | refine WPl.nil ?_
      | refine WPq.then ?_
      | refine WPq.thenR ?_
      | refine WPq.thenE ?_
      | refine WPq.blockN ?_
      | refine WPq.blockR ?_
      | refine WPq.blockE ?_
      | refine WPq.blockO rfl ?_
      | refine WPc.seq ?_
      | refine WPc.block ?_
      | refine WPc.ret ?_
      | refine WPc.exit ?_
      | refine WPc.skip ?_
      | refine WPc.region ?_
      | ((show WPc _ _ _ _ _ _ (.region 17 _ true) _; refine WPc.drawn [([], [66, 67, 68, 69, 70]), ([], [65, 67, 69]), ([], [65, 66, 69]), ([1, 2], [65, 66, 67, 69]), ([], [65, 66, 67, 68]), ([1, 2, 3, 4], [65, 66, 67, 68, 69]), ([0, 1, 2, 3, 4, 5], [65, 66, 67, 68, 69, 70]), ([0, 1, 2, 3, 4, 5, 6], [65, 66, 67, 68, 69, 70, 71]), ([0, 1, 2, 3, 4, 5, 6, 7], [64, 65, 66, 67, 68, 69, 70, 71, 73]), ([0, 1, 2, 3, 4, 5, 6, 7], [11, 64, 65, 66, 67, 68, 69, 70, 71, 72]), ([0, 1, 2, 3, 4, 5, 6, 7, 8], [64, 65, 66, 67, 68, 69, 70, 71, 72, 73]), ([0, 1, 2, 3, 4, 5, 6, 7, 8, 9, 10], [11, 64, 65, 66, 67, 68, 69, 70, 71, 72, 73])] [(1, 3), (3, 5)] (Γx := []) (by exact takesA) (by repeat' (first | exact own_nil | refine own_cons (by first | exact bx_own | exact rowN_own | exact rfl) ?_ | fail)) (by kernel_rfl) (by kernel_rfl) ?_; dsimp only [prev0, List.length_nil, List.length_cons]))
      | ((show RGl _ _ _ _ _ _ _ _ _ _ _; first | (show RGl _ _ _ _ _ _ _ _ (⟨some 16, .call ⟨.value _, _, _⟩, _, _, _, _⟩ :: _) _ _; refine RGl.row (Γ1 := fun _ => []) (fun e hk => by (try dsimp only [bndR, ensR, oksR, fcutR, List.append_nil, List.nil_append, List.cons_append, List.append_assoc] at hk ⊢); refine OpT.call (few_t v2 l2 60 (by omega)) evsA provsA (by kernel_rfl)) ?_) | (show RGl _ _ _ _ _ _ _ _ (⟨some 25, .call ⟨.value _, _, _⟩, _, _, _, _⟩ :: _) _ _; refine RGl.vl (fun e hk => by (try dsimp only [bndR, ensR, oksR, fcutR, List.append_nil, List.nil_append, List.cons_append, List.append_assoc] at hk ⊢); refine OpT.call (hbt) evsA provsA (by kernel_rfl)) ?_) | (show RGl _ _ _ _ _ _ _ _ (⟨some 26, .call ⟨.value _, _, _⟩, _, _, _, _⟩ :: _) _ _; refine RGl.vl (fun e hk => by (try dsimp only [bndR, ensR, oksR, fcutR, List.append_nil, List.nil_append, List.cons_append, List.append_assoc] at hk ⊢); refine OpT.call (hlv) evsA provsA (by kernel_rfl)) ?_) | (show RGl _ _ _ _ _ _ _ _ (_ :: _) _ _; first | refine RGl.rdA ?_ | refine RGl.rdX (fun e hk => by (try dsimp only [bndR, ensR, oksR, fcutR, List.append_nil, List.nil_append, List.cons_append, List.append_assoc] at hk ⊢); exact readB) ?_) | (show RGl _ _ _ _ _ _ _ _ (⟨_, .buildSlice _ _ _, _, _, _, _⟩ :: _) _ _; refine RGl.litA ?_) | (show RGl _ _ _ _ _ _ _ _ (⟨_, .call ⟨.builtin .append, _, _⟩, _, _, _, _⟩ :: _) _ _; refine RGl.appA ?_) | (refine RGl.fin (fun e hk => ?_); (try dsimp only [bndA, ensAR, oksA, List.append_nil, List.nil_append, List.cons_append, List.append_assoc] at hk ⊢); (repeat (obtain ⟨hk1, hk⟩ := hk))) | fail))
      | ((show WPc _ _ _ _ _ _ (.cond _ _ _) _; first | refine WPc.cT ?_ | refine WPc.cF ?_ | (refine WPc.cS (fun hc => ?_) (fun hc => ?_) <;> (try simp only [decide_eq_true_eq, decide_eq_false_iff_not, Bool.not_eq_true', Bool.not_eq_false', Bool.and_eq_true, Bool.or_eq_true, Bool.and_eq_false_iff, Bool.or_eq_false_iff, Bool.not_true, Bool.not_false, Int.not_lt, Int.not_le] at hc) <;> (try (exfalso; first | omega | exact clash1 hc (by assumption) | exact clash2 hc (by assumption) | exact hc trivial | exact hc (by assumption) | exact absurd hc (by assumption))))))
      | ((show WPl _ _ _ _ _ _ _ (⟨some 16, .call ⟨.value _, _, _⟩, _, _, _, _⟩ :: _) _; refine WPl.cR (few_t v2 l2 60 (by omega)) fun v hv => ?_))
      | ((show WPl _ _ _ _ _ _ _ (⟨some 25, .call ⟨.value _, _, _⟩, _, _, _, _⟩ :: _) _; refine WPl.cV (hbt) ?_))
      | ((show WPl _ _ _ _ _ _ _ (⟨some 26, .call ⟨.value _, _, _⟩, _, _, _, _⟩ :: _) _; refine WPl.cV (hlv) ?_))
      | ((show WPl _ _ _ _ _ _ _ (⟨_, .makeSlice _ _ _, _, _, _, _⟩ :: _) _; refine WPl.mk fun v hv => ?_))
      | ((show WPl _ _ _ _ _ _ _ (_ :: _) _; first | refine WPl.rd ?_ | refine WPl.sk ?_ | refine WPl.rdB ?_))
      | ((show WPl _ _ _ _ _ _ _ (⟨_, .alloc _, _, _, _, _⟩ :: _) _; refine WPl.nw fun g => ?_))
      | ((show WPl _ _ _ _ _ _ _ (⟨_, .box _ _, _, _, _, _⟩ :: _) _; refine WPl.nw fun g => ?_))
      | ((show WPl _ _ _ _ _ _ _ (⟨_, .store _ _ _, _, _, _, _⟩ :: _) _; first | refine WPl.st1 ?_ | refine WPl.stA ?_ | refine WPl.stEB ?_ | refine WPl.stRB ?_))
      | ((show WPl _ _ _ _ _ _ _ (_ :: _) _; refine WPl.spl (fun hc => ?_) (fun hc => ?_) <;> (try simp only [decide_eq_true_eq, decide_eq_false_iff_not, Bool.not_eq_true', Bool.not_eq_false', Bool.and_eq_true, Bool.or_eq_true, Bool.and_eq_false_iff, Bool.or_eq_false_iff, Bool.not_true, Bool.not_false, Int.not_lt, Int.not_le] at hc) <;> (try (exfalso; first | omega | exact clash1 hc (by assumption) | exact clash2 hc (by assumption) | exact hc trivial | exact hc (by assumption) | exact absurd hc (by assumption)))))
      | fail)
    all_goals try (first
      | exact WPq.dV
      | exact WPq.dR
      | exact WPq.dR2
      | exact WPq.dH
      | exact WPq.dBH
      | exact WPq.dT)
  | false =>
    rw [hb] at hbt
    obtain ⟨h17, hh17⟩ : ∃ x : Hd, x = ⟨h.six, 17, h.pos, h.src, h.dst, h.part, h.hops⟩ := ⟨_, rfl⟩
    obtain ⟨D, hD⟩ : ∃ D, D = chain h.proto l1 ++ l2.take 60 := ⟨_, rfl⟩
    have hDl : D.length ≤ 500 := by rw [hD, List.length_append]; omega
    have hw17 := fun v => xwrite_t h17 v D (by omega)
    have hL1 := fun he => (xpkt_read (h := h17) (d := D) he).1
    have hrd := fun v l hl => xread_t v l hl
    have hrd1 := fun he => passed_read (h := h17) (d := D) (c := h.proto) (zs := l1) (dat := l2.take 60) he hD hb _ rfl
    rw [hh17] at hw17
    refine Triple.enter Try.func7 rfl Try.ntmps7 rfl (fun W => ?_)
    dsimp only [argsF, Nat.reduceAdd]
    repeat' (first
      | refine WPl.nil ?_
      | refine WPq.then ?_
      | refine WPq.thenR ?_
      | refine WPq.thenE ?_
      | refine WPq.blockN ?_
      | refine WPq.blockR ?_
      | refine WPq.blockE ?_
      | refine WPq.blockO rfl ?_
      | refine WPc.seq ?_
      | refine WPc.block ?_
      | refine WPc.ret ?_
      | refine WPc.exit ?_
      | refine WPc.skip ?_
      | refine WPc.region ?_
      | ((show WPc _ _ _ _ _ _ (.region 17 _ true) _; refine WPc.drawn [([], [66, 67, 68, 69, 70]), ([], [65, 67, 69]), ([], [65, 66, 69]), ([1, 2], [65, 66, 67, 69]), ([], [65, 66, 67, 68]), ([1, 2, 3, 4], [65, 66, 67, 68, 69]), ([0, 1, 2, 3, 4, 5], [65, 66, 67, 68, 69, 70]), ([0, 1, 2, 3, 4, 5, 6], [65, 66, 67, 68, 69, 70, 71]), ([0, 1, 2, 3, 4, 5, 6, 7], [64, 65, 66, 67, 68, 69, 70, 71, 73]), ([0, 1, 2, 3, 4, 5, 6, 7], [11, 64, 65, 66, 67, 68, 69, 70, 71, 72]), ([0, 1, 2, 3, 4, 5, 6, 7, 8], [64, 65, 66, 67, 68, 69, 70, 71, 72, 73]), ([0, 1, 2, 3, 4, 5, 6, 7, 8, 9, 10], [11, 64, 65, 66, 67, 68, 69, 70, 71, 72, 73])] [(1, 3), (3, 5)] (Γx := []) (by exact takesA) (by repeat' (first | exact own_nil | refine own_cons (by first | exact bx_own | exact rowN_own | exact rfl) ?_ | fail)) (by kernel_rfl) (by kernel_rfl) ?_; dsimp only [prev0, List.length_nil, List.length_cons]))
      | ((show RGl _ _ _ _ _ _ _ _ _ _ _; first | (show RGl _ _ _ _ _ _ _ _ (⟨some 16, .call ⟨.value _, _, _⟩, _, _, _, _⟩ :: _) _ _; refine RGl.row (Γ1 := fun _ => []) (fun e hk => by (try dsimp only [bndR, ensR, oksR, fcutR, List.append_nil, List.nil_append, List.cons_append, List.append_assoc] at hk ⊢); refine OpT.call (few_t v2 l2 60 (by omega)) evsA provsA (by kernel_rfl)) ?_) | (show RGl _ _ _ _ _ _ _ _ (⟨some 25, .call ⟨.value _, _, _⟩, _, _, _, _⟩ :: _) _ _; refine RGl.vl (fun e hk => by (try dsimp only [bndR, ensR, oksR, fcutR, List.append_nil, List.nil_append, List.cons_append, List.append_assoc] at hk ⊢); refine OpT.call (hbt) evsA provsA (by kernel_rfl)) ?_) | (show RGl _ _ _ _ _ _ _ _ (_ :: _) _ _; first | refine RGl.rdA ?_ | refine RGl.rdX (fun e hk => by (try dsimp only [bndR, ensR, oksR, fcutR, List.append_nil, List.nil_append, List.cons_append, List.append_assoc] at hk ⊢); exact readB) ?_) | (show RGl _ _ _ _ _ _ _ _ (⟨_, .buildSlice _ _ _, _, _, _, _⟩ :: _) _ _; refine RGl.litA ?_) | (show RGl _ _ _ _ _ _ _ _ (⟨_, .call ⟨.builtin .append, _, _⟩, _, _, _, _⟩ :: _) _ _; refine RGl.appA ?_) | (refine RGl.fin (fun e hk => ?_); (try dsimp only [bndA, ensAR, oksA, List.append_nil, List.nil_append, List.cons_append, List.append_assoc] at hk ⊢); (repeat (obtain ⟨hk1, hk⟩ := hk))) | fail))
      | ((show WPc _ _ _ _ _ _ (.cond _ _ _) _; first | refine WPc.cT ?_ | refine WPc.cF ?_ | (refine WPc.cS (fun hc => ?_) (fun hc => ?_) <;> (try simp only [decide_eq_true_eq, decide_eq_false_iff_not, Bool.not_eq_true', Bool.not_eq_false', Bool.and_eq_true, Bool.or_eq_true, Bool.and_eq_false_iff, Bool.or_eq_false_iff, Bool.not_true, Bool.not_false, Int.not_lt, Int.not_le] at hc) <;> (try (exfalso; first | omega | exact clash1 hc (by assumption) | exact clash2 hc (by assumption) | exact hc trivial | exact hc (by assumption) | exact absurd hc (by assumption))))))
      | ((first | (show WPl _ _ _ _ _ _ _ (⟨some 3, .alloc _, _, _, _, _⟩ :: _) _; refine WPl.nw fun g => ?_) | (show WPl _ _ _ _ _ _ _ (⟨some 3, .box _ _, _, _, _, _⟩ :: _) _; refine WPl.nw fun g => ?_)))
      | ((show WPl _ _ _ _ _ _ _ (⟨some 16, .call ⟨.value _, _, _⟩, _, _, _, _⟩ :: _) _; refine WPl.cR (few_t v2 l2 60 (by omega)) fun v hv => ?_))
      | ((show WPl _ _ _ _ _ _ _ (⟨some 25, .call ⟨.value _, _, _⟩, _, _, _, _⟩ :: _) _; refine WPl.cV (hbt) ?_))
      | ((show WPl _ _ _ _ _ _ _ (⟨_, .buildSlice _ _ _, _, _, _, _⟩ :: _) _; refine WPl.lit fun v hv => ?_))
      | ((show WPl _ _ _ _ _ _ _ (⟨_, .makeSlice _ _ _, _, _, _, _⟩ :: _) _; refine WPl.mk fun v hv => ?_))
      | ((show WPl _ _ _ _ _ _ _ (_ :: _) _; first | refine WPl.rd ?_ | refine WPl.sk ?_ | refine WPl.rdB ?_))
      | ((show WPl _ _ _ _ _ _ _ (⟨_, .alloc _, _, _, _, _⟩ :: _) _; refine WPl.nw fun g => ?_))
      | ((show WPl _ _ _ _ _ _ _ (⟨_, .box _ _, _, _, _, _⟩ :: _) _; refine WPl.nw fun g => ?_))
      | ((show WPl _ _ _ _ _ _ _ (⟨_, .store _ _ _, _, _, _, _⟩ :: _) _; first | refine WPl.st1 ?_ | refine WPl.stA ?_ | refine WPl.stEB ?_ | refine WPl.stRB ?_))
      | ((show WPl _ _ _ _ _ _ _ (_ :: _) _; refine WPl.spl (fun hc => ?_) (fun hc => ?_) <;> (try simp only [decide_eq_true_eq, decide_eq_false_iff_not, Bool.not_eq_true', Bool.not_eq_false', Bool.and_eq_true, Bool.or_eq_true, Bool.and_eq_false_iff, Bool.or_eq_false_iff, Bool.not_true, Bool.not_false, Int.not_lt, Int.not_le] at hc) <;> (try (exfalso; first | omega | exact clash1 hc (by assumption) | exact clash2 hc (by assumption) | exact hc trivial | exact hc (by assumption) | exact absurd hc (by assumption)))))
      | fail)
    rename_i vd hvd
    first | refine WPc.loop (σ := Value × Nat × List UInt8) (fun p => p.2.1 ≤ l1.length ∧ p.1.oneCell' = true ∧ p.2.2 ++ chain h.proto (l1.drop p.2.1) = chain h.proto l1 ∧ p.2.2.length ≤ 32 * p.2.1) (fun p => [ob p.1 p.2.2, ob vd (l2.take 60), bx g 48 (hdc h), rb v1 l1]) (fun p => [(1, v1), (2, vd), (3, .pointer (some ⟨g, 0, none⟩)), (7, .int .u8 ((h.proto.toNat : Nat) : Int)), (8, p.1), (9, .int .i64 p.2.1)]) (fun p => l1.length - p.2.1) ((v, 0, nbs [])) ?_ takesA frsA (fun st km hx hk => ?_)
    · exact ⟨Nat.zero_le _, hv, by simp [nbs_nil], by simp [nbs_nil]⟩
    obtain ⟨sv, i, acc⟩ := st
    dsimp only at hx hk ⊢
    obtain ⟨hi, hsv, hacc, hal⟩ := hx
    by_cases hlt : i < l1.length
    · have hzb := (l1.getD i 0).toNat_lt
      obtain ⟨q, hq⟩ : ∃ q, q = (l1.getD i 0).toNat % 4 := ⟨_, rfl⟩
      have hq4 : q < 4 := by omega
      have hsize : (8 : Int) + 8 * ((((l1.getD i 0).toNat : Nat) : Int) % 4) = ((8 + 8 * q : Nat) : Int) := by omega
      have hsz : (((UInt8.ofNat ((l1.getD i 0).toNat % 4)).toNat : Nat) : Int) = ((l1.getD i 0).toNat : Int) % 4 := by rw [u8_nat _ (by omega), Int.natCast_emod]; rfl
      have hrl : (List.replicate (8 + 8 * q) (0 : UInt8)).length = 8 + 8 * q := List.length_replicate ..
      have hrs1 : ((List.replicate (8 + 8 * q) (0 : UInt8)).set 0 60).length = 8 + 8 * q := by simp
      have hrs2 : (((List.replicate (8 + 8 * q) (0 : UInt8)).set 0 60).set 1 (UInt8.ofNat ((l1.getD i 0).toNat % 4))).length = 8 + 8 * q := by simp
      have hrs3 : ((((List.replicate (8 + 8 * q) (0 : UInt8)).set 0 60).set 1 (UInt8.ofNat ((l1.getD i 0).toNat % 4))).set 0 h.proto).length = 8 + 8 * q := by simp
      have hdrop : l1.drop i = l1.getD i 0 :: l1.drop (i + 1) := by rw [List.drop_eq_getElem_cons hlt]; simp [List.getD_eq_getElem?_getD, List.getElem?_eq_getElem hlt]
      rw [hdrop, chain_cons, ← hq] at hacc
      by_cases hlast : i + 1 = l1.length
      · have hnil : l1.drop (i + 1) = [] := by rw [hlast, List.drop_length]
        rw [if_pos hnil] at hacc
        repeat' (first
          | refine WPl.nil ?_
          | refine WPq.then ?_
          | refine WPq.thenR ?_
          | refine WPq.thenE ?_
          | refine WPq.blockN ?_
          | refine WPq.blockR ?_
          | refine WPq.blockE ?_
          | refine WPq.blockO rfl ?_
          | refine WPc.seq ?_
          | refine WPc.block ?_
          | refine WPc.ret ?_
          | refine WPc.exit ?_
          | refine WPc.skip ?_
          | refine WPc.region ?_
          | ((show WPc _ _ _ _ _ _ (.region 17 _ true) _; refine WPc.drawn [([], [66, 67, 68, 69, 70]), ([], [65, 67, 69]), ([], [65, 66, 69]), ([1, 2], [65, 66, 67, 69]), ([], [65, 66, 67, 68]), ([1, 2, 3, 4], [65, 66, 67, 68, 69]), ([0, 1, 2, 3, 4, 5], [65, 66, 67, 68, 69, 70]), ([0, 1, 2, 3, 4, 5, 6], [65, 66, 67, 68, 69, 70, 71]), ([0, 1, 2, 3, 4, 5, 6, 7], [64, 65, 66, 67, 68, 69, 70, 71, 73]), ([0, 1, 2, 3, 4, 5, 6, 7], [11, 64, 65, 66, 67, 68, 69, 70, 71, 72]), ([0, 1, 2, 3, 4, 5, 6, 7, 8], [64, 65, 66, 67, 68, 69, 70, 71, 72, 73]), ([0, 1, 2, 3, 4, 5, 6, 7, 8, 9, 10], [11, 64, 65, 66, 67, 68, 69, 70, 71, 72, 73])] [(1, 3), (3, 5)] (Γx := []) (by exact takesA) (by repeat' (first | exact own_nil | refine own_cons (by first | exact bx_own | exact rowN_own | exact rfl) ?_ | fail)) (by kernel_rfl) (by kernel_rfl) ?_; dsimp only [prev0, List.length_nil, List.length_cons]))
          | ((show RGl _ _ _ _ _ _ _ _ _ _ _; first | (show RGl _ _ _ _ _ _ _ _ (⟨some 41, .binOp .add _ _ _ _, _, _, _, _⟩ :: _) _ _; refine RGl.rdX (fun e hk => by (try dsimp only [bndR, ensR, oksR, fcutR, List.append_nil, List.nil_append, List.cons_append, List.append_assoc] at hk ⊢); exact ReadR.bin rfl rfl (BinR.addT hsize (by simp only [kmin]; omega) (by simp only [kmax]; omega))) ?_) | (show RGl _ _ _ _ _ _ _ _ (⟨some 49, .binOp .rem _ _ _ _, _, _, _, _⟩ :: _) _ _; refine RGl.rdX (fun e hk => by (try dsimp only [bndR, ensR, oksR, fcutR, List.append_nil, List.nil_append, List.cons_append, List.append_assoc] at hk ⊢); exact ReadR.bin rfl rfl BinR.rem4) ?_) | (show RGl _ _ _ _ _ _ _ _ (_ :: _) _ _; first | refine RGl.rdA ?_ | refine RGl.rdX (fun e hk => by (try dsimp only [bndR, ensR, oksR, fcutR, List.append_nil, List.nil_append, List.cons_append, List.append_assoc] at hk ⊢); exact readB) ?_) | (show RGl _ _ _ _ _ _ _ _ (⟨_, .buildSlice _ _ _, _, _, _, _⟩ :: _) _ _; refine RGl.litA ?_) | (show RGl _ _ _ _ _ _ _ _ (⟨_, .call ⟨.builtin .append, _, _⟩, _, _, _, _⟩ :: _) _ _; refine RGl.appA ?_) | (refine RGl.fin (fun e hk => ?_); (try dsimp only [bndA, ensAR, oksA, List.append_nil, List.nil_append, List.cons_append, List.append_assoc] at hk ⊢); (repeat (obtain ⟨hk1, hk⟩ := hk))) | fail))
          | ((show WPc _ _ _ _ _ _ (.cond _ _ _) _; first | refine WPc.cT ?_ | refine WPc.cF ?_ | (refine WPc.cS (fun hc => ?_) (fun hc => ?_) <;> (try simp only [decide_eq_true_eq, decide_eq_false_iff_not, Bool.not_eq_true', Bool.not_eq_false', Bool.and_eq_true, Bool.or_eq_true, Bool.and_eq_false_iff, Bool.or_eq_false_iff, Bool.not_true, Bool.not_false, Int.not_lt, Int.not_le] at hc) <;> (try (exfalso; first | omega | exact clash1 hc (by assumption) | exact clash2 hc (by assumption) | exact hc trivial | exact hc (by assumption) | exact absurd hc (by assumption))))))
          | ((show WPl _ _ _ _ _ _ _ (⟨_, .call ⟨.builtin .append, _, _⟩, _, _, _, _⟩ :: _) _; refine WPl.app fun v hv => ?_))
          | ((show WPl _ _ _ _ _ _ _ (⟨_, .store _ (.tmp 50) _, _, _, _, _⟩ :: _) _; first | refine WPl.stEB (b := 60) ?_ | refine WPl.stRB (b := 60) ?_))
          | ((show WPl _ _ _ _ _ _ _ (⟨some 41, .binOp .add _ _ _ _, _, _, _, _⟩ :: _) _; refine WPl.rdX (ReadR.bin rfl rfl (BinR.addT hsize (by simp only [kmin]; omega) (by simp only [kmax]; omega))) ?_))
          | ((show WPl _ _ _ _ _ _ _ (⟨some 49, .binOp .rem _ _ _ _, _, _, _, _⟩ :: _) _; refine WPl.rdX (ReadR.bin rfl rfl BinR.rem4) ?_))
          | ((show WPl _ _ _ _ _ _ _ (⟨_, .makeSlice _ _ _, _, _, _, _⟩ :: _) _; refine WPl.mk fun v hv => ?_))
          | ((show WPl _ _ _ _ _ _ _ (_ :: _) _; first | refine WPl.rd ?_ | refine WPl.sk ?_ | refine WPl.rdB ?_))
          | ((show WPl _ _ _ _ _ _ _ (⟨_, .alloc _, _, _, _, _⟩ :: _) _; refine WPl.nw fun g => ?_))
          | ((show WPl _ _ _ _ _ _ _ (⟨_, .box _ _, _, _, _, _⟩ :: _) _; refine WPl.nw fun g => ?_))
          | ((show WPl _ _ _ _ _ _ _ (⟨_, .store _ _ _, _, _, _, _⟩ :: _) _; first | refine WPl.st1 ?_ | refine WPl.stA ?_ | refine WPl.stEB ?_ | refine WPl.stRB ?_))
          | ((show WPl _ _ _ _ _ _ _ (_ :: _) _; refine WPl.spl (fun hc => ?_) (fun hc => ?_) <;> (try simp only [decide_eq_true_eq, decide_eq_false_iff_not, Bool.not_eq_true', Bool.not_eq_false', Bool.and_eq_true, Bool.or_eq_true, Bool.and_eq_false_iff, Bool.or_eq_false_iff, Bool.not_true, Bool.not_false, Int.not_lt, Int.not_le] at hc) <;> (try (exfalso; first | omega | exact clash1 hc (by assumption) | exact clash2 hc (by assumption) | exact hc trivial | exact hc (by assumption) | exact absurd hc (by assumption)))))
          | fail)
        rw [block_set0, ← hq]
        exact WPq.rnd (v, i + 1, acc ++ (h.proto :: UInt8.ofNat q :: List.replicate (6 + 8 * q) 0)) ⟨by show i + 1 ≤ _; omega, hv, by dsimp only; rw [List.append_assoc]; exact hacc, by simp; omega⟩ (by show _ - (i + 1) < _; omega)
      · have hnil : ¬ l1.drop (i + 1) = [] := by
          intro h0
          have := congrArg List.length h0
          simp at this
          omega
        rw [if_neg hnil] at hacc
        repeat' (first
          | refine WPl.nil ?_
          | refine WPq.then ?_
          | refine WPq.thenR ?_
          | refine WPq.thenE ?_
          | refine WPq.blockN ?_
          | refine WPq.blockR ?_
          | refine WPq.blockE ?_
          | refine WPq.blockO rfl ?_
          | refine WPc.seq ?_
          | refine WPc.block ?_
          | refine WPc.ret ?_
          | refine WPc.exit ?_
          | refine WPc.skip ?_
          | refine WPc.region ?_
          | ((show WPc _ _ _ _ _ _ (.region 17 _ true) _; refine WPc.drawn [([], [66, 67, 68, 69, 70]), ([], [65, 67, 69]), ([], [65, 66, 69]), ([1, 2], [65, 66, 67, 69]), ([], [65, 66, 67, 68]), ([1, 2, 3, 4], [65, 66, 67, 68, 69]), ([0, 1, 2, 3, 4, 5], [65, 66, 67, 68, 69, 70]), ([0, 1, 2, 3, 4, 5, 6], [65, 66, 67, 68, 69, 70, 71]), ([0, 1, 2, 3, 4, 5, 6, 7], [64, 65, 66, 67, 68, 69, 70, 71, 73]), ([0, 1, 2, 3, 4, 5, 6, 7], [11, 64, 65, 66, 67, 68, 69, 70, 71, 72]), ([0, 1, 2, 3, 4, 5, 6, 7, 8], [64, 65, 66, 67, 68, 69, 70, 71, 72, 73]), ([0, 1, 2, 3, 4, 5, 6, 7, 8, 9, 10], [11, 64, 65, 66, 67, 68, 69, 70, 71, 72, 73])] [(1, 3), (3, 5)] (Γx := []) (by exact takesA) (by repeat' (first | exact own_nil | refine own_cons (by first | exact bx_own | exact rowN_own | exact rfl) ?_ | fail)) (by kernel_rfl) (by kernel_rfl) ?_; dsimp only [prev0, List.length_nil, List.length_cons]))
          | ((show RGl _ _ _ _ _ _ _ _ _ _ _; first | (show RGl _ _ _ _ _ _ _ _ (⟨some 41, .binOp .add _ _ _ _, _, _, _, _⟩ :: _) _ _; refine RGl.rdX (fun e hk => by (try dsimp only [bndR, ensR, oksR, fcutR, List.append_nil, List.nil_append, List.cons_append, List.append_assoc] at hk ⊢); exact ReadR.bin rfl rfl (BinR.addT hsize (by simp only [kmin]; omega) (by simp only [kmax]; omega))) ?_) | (show RGl _ _ _ _ _ _ _ _ (⟨some 49, .binOp .rem _ _ _ _, _, _, _, _⟩ :: _) _ _; refine RGl.rdX (fun e hk => by (try dsimp only [bndR, ensR, oksR, fcutR, List.append_nil, List.nil_append, List.cons_append, List.append_assoc] at hk ⊢); exact ReadR.bin rfl rfl BinR.rem4) ?_) | (show RGl _ _ _ _ _ _ _ _ (_ :: _) _ _; first | refine RGl.rdA ?_ | refine RGl.rdX (fun e hk => by (try dsimp only [bndR, ensR, oksR, fcutR, List.append_nil, List.nil_append, List.cons_append, List.append_assoc] at hk ⊢); exact readB) ?_) | (show RGl _ _ _ _ _ _ _ _ (⟨_, .buildSlice _ _ _, _, _, _, _⟩ :: _) _ _; refine RGl.litA ?_) | (show RGl _ _ _ _ _ _ _ _ (⟨_, .call ⟨.builtin .append, _, _⟩, _, _, _, _⟩ :: _) _ _; refine RGl.appA ?_) | (refine RGl.fin (fun e hk => ?_); (try dsimp only [bndA, ensAR, oksA, List.append_nil, List.nil_append, List.cons_append, List.append_assoc] at hk ⊢); (repeat (obtain ⟨hk1, hk⟩ := hk))) | fail))
          | ((show WPc _ _ _ _ _ _ (.cond _ _ _) _; first | refine WPc.cT ?_ | refine WPc.cF ?_ | (refine WPc.cS (fun hc => ?_) (fun hc => ?_) <;> (try simp only [decide_eq_true_eq, decide_eq_false_iff_not, Bool.not_eq_true', Bool.not_eq_false', Bool.and_eq_true, Bool.or_eq_true, Bool.and_eq_false_iff, Bool.or_eq_false_iff, Bool.not_true, Bool.not_false, Int.not_lt, Int.not_le] at hc) <;> (try (exfalso; first | omega | exact clash1 hc (by assumption) | exact clash2 hc (by assumption) | exact hc trivial | exact hc (by assumption) | exact absurd hc (by assumption))))))
          | ((show WPl _ _ _ _ _ _ _ (⟨_, .call ⟨.builtin .append, _, _⟩, _, _, _, _⟩ :: _) _; refine WPl.app fun v hv => ?_))
          | ((show WPl _ _ _ _ _ _ _ (⟨_, .store _ (.tmp 50) _, _, _, _, _⟩ :: _) _; first | refine WPl.stEB (b := 60) ?_ | refine WPl.stRB (b := 60) ?_))
          | ((show WPl _ _ _ _ _ _ _ (⟨some 41, .binOp .add _ _ _ _, _, _, _, _⟩ :: _) _; refine WPl.rdX (ReadR.bin rfl rfl (BinR.addT hsize (by simp only [kmin]; omega) (by simp only [kmax]; omega))) ?_))
          | ((show WPl _ _ _ _ _ _ _ (⟨some 49, .binOp .rem _ _ _ _, _, _, _, _⟩ :: _) _; refine WPl.rdX (ReadR.bin rfl rfl BinR.rem4) ?_))
          | ((show WPl _ _ _ _ _ _ _ (⟨_, .makeSlice _ _ _, _, _, _, _⟩ :: _) _; refine WPl.mk fun v hv => ?_))
          | ((show WPl _ _ _ _ _ _ _ (_ :: _) _; first | refine WPl.rd ?_ | refine WPl.sk ?_ | refine WPl.rdB ?_))
          | ((show WPl _ _ _ _ _ _ _ (⟨_, .alloc _, _, _, _, _⟩ :: _) _; refine WPl.nw fun g => ?_))
          | ((show WPl _ _ _ _ _ _ _ (⟨_, .box _ _, _, _, _, _⟩ :: _) _; refine WPl.nw fun g => ?_))
          | ((show WPl _ _ _ _ _ _ _ (⟨_, .store _ _ _, _, _, _, _⟩ :: _) _; first | refine WPl.st1 ?_ | refine WPl.stA ?_ | refine WPl.stEB ?_ | refine WPl.stRB ?_))
          | ((show WPl _ _ _ _ _ _ _ (_ :: _) _; refine WPl.spl (fun hc => ?_) (fun hc => ?_) <;> (try simp only [decide_eq_true_eq, decide_eq_false_iff_not, Bool.not_eq_true', Bool.not_eq_false', Bool.and_eq_true, Bool.or_eq_true, Bool.and_eq_false_iff, Bool.or_eq_false_iff, Bool.not_true, Bool.not_false, Int.not_lt, Int.not_le] at hc) <;> (try (exfalso; first | omega | exact clash1 hc (by assumption) | exact clash2 hc (by assumption) | exact hc trivial | exact hc (by assumption) | exact absurd hc (by assumption)))))
          | fail)
        rw [block_set, ← hq]
        exact WPq.rnd (v, i + 1, acc ++ (60 :: UInt8.ofNat q :: List.replicate (6 + 8 * q) 0)) ⟨by show i + 1 ≤ _; omega, hv, by dsimp only; rw [List.append_assoc]; exact hacc, by simp; omega⟩ (by show _ - (i + 1) < _; omega)
    · have hie : i = l1.length := by omega
      rw [hie, List.drop_length, show chain h.proto [] = [] from rfl, List.append_nil] at hacc
      have hDe : nbs [] ++ acc ++ l2.take 60 = D := by rw [hacc, hD, nbs_nil, List.nil_append]
      have hal2 : acc.length ≤ 400 := by omega
      rw [← hh17] at hw17
      obtain ⟨e0, he0⟩ : ∃ e, e = xwerr h17 D.length := ⟨_, rfl⟩
      obtain ⟨L0, hL0⟩ : ∃ L, L = xwL h17 D := ⟨_, rfl⟩
      rw [← he0, ← hL0, hh17] at hw17
      have hw : ∀ v, Triple Try.prog 35 #[ag (hdc ⟨h.six, 17, h.pos, h.src, h.dst, h.part, h.hops⟩), v] [rb v (nbs [] ++ acc ++ l2.take 60)] (RW L0 e0) := fun v => by rw [hDe]; exact hw17 v
      clear hw17
      by_cases he : e0 = 0
      · subst he
        have he1 : xwerr h17 D.length = 0 := he0.symm
        rw [xwL_zero he1] at hL0
        have hLl := hL1 he1
        rw [← hL0] at hLl
        have hrd1 := hrd1 he1
        rw [← hL0] at hrd1
        clear hrd hL1
        by_cases hz0 : l1 = []
        · have hz0l : l1.length = 0 := by rw [hz0]; rfl
          rw [if_pos hz0] at hrd1
          have hLs : (L0.set 6 h.proto).length = L0.length := List.length_set ..
          have hLe : L0.set 6 h.proto = L0.set 6 h.proto := rfl
          have hr : ∀ v, Triple Try.prog 36 #[v] [rb v (L0.set 6 h.proto)] (RVal (.tuple #[ag (hdc ⟨true, h.proto, ((40 + acc.length : Nat) : Int), h.src, h.dst, false, h.hops⟩), .int .i64 0])) := fun v => by
            have := xread_t v (L0.set 6 h.proto) (by simp only [List.length_set]; omega)
            simp only [sVal] at this
            rw [hLe, (hrd1.1 (by omega)).1, (hrd1.1 (by omega)).2, ← hLe, hh17] at this
            rw [hacc]; exact this
          clear hrd1 hL0 hh17 hLe
          have hpos : ((40 + acc.length : Nat) : Int) = 40 + (acc.length : Int) := by omega
          repeat' (first
            | refine WPl.nil ?_
            | refine WPq.then ?_
            | refine WPq.thenR ?_
            | refine WPq.thenE ?_
            | refine WPq.blockN ?_
            | refine WPq.blockR ?_
            | refine WPq.blockE ?_
            | refine WPq.blockO rfl ?_
            | refine WPc.seq ?_
            | refine WPc.block ?_
            | refine WPc.ret ?_
            | refine WPc.exit ?_
            | refine WPc.skip ?_
            | refine WPc.region ?_
            | ((show WPc _ _ _ _ _ _ (.region 17 _ true) _; refine WPc.drawn [([], [66, 67, 68, 69, 70]), ([], [65, 67, 69]), ([], [65, 66, 69]), ([1, 2], [65, 66, 67, 69]), ([], [65, 66, 67, 68]), ([1, 2, 3, 4], [65, 66, 67, 68, 69]), ([0, 1, 2, 3, 4, 5], [65, 66, 67, 68, 69, 70]), ([0, 1, 2, 3, 4, 5, 6], [65, 66, 67, 68, 69, 70, 71]), ([0, 1, 2, 3, 4, 5, 6, 7], [64, 65, 66, 67, 68, 69, 70, 71, 73]), ([0, 1, 2, 3, 4, 5, 6, 7], [11, 64, 65, 66, 67, 68, 69, 70, 71, 72]), ([0, 1, 2, 3, 4, 5, 6, 7, 8], [64, 65, 66, 67, 68, 69, 70, 71, 72, 73]), ([0, 1, 2, 3, 4, 5, 6, 7, 8, 9, 10], [11, 64, 65, 66, 67, 68, 69, 70, 71, 72, 73])] [(1, 3), (3, 5)] (Γx := []) (by exact takesA) (by repeat' (first | exact own_nil | refine own_cons (by first | exact bx_own | exact rowN_own | exact rfl) ?_ | fail)) (by kernel_rfl) (by kernel_rfl) ?_; dsimp only [prev0, List.length_nil, List.length_cons]))
            | ((show RGl _ _ _ _ _ _ _ _ _ _ _; first | (show RGl _ _ _ _ _ _ _ _ (⟨some 71, .call ⟨.value _, _, _⟩, _, _, _, _⟩ :: _) _ _; refine RGl.row2 (fun e hk => by (try dsimp only [bndR, ensR, oksR, fcutR, List.append_nil, List.nil_append, List.cons_append, List.append_assoc] at hk ⊢); refine OpT.call (hw _) evsA provsA (by kernel_rfl)) ?_) | (show RGl _ _ _ _ _ _ _ _ (⟨some 90, .call ⟨.value _, _, _⟩, _, _, _, _⟩ :: _) _ _; refine RGl.vl (fun e hk => by (try dsimp only [bndR, ensR, oksR, fcutR, List.append_nil, List.nil_append, List.cons_append, List.append_assoc] at hk ⊢); refine OpT.call (hr _) evsA provsA (by kernel_rfl)) ?_) | (show RGl _ _ _ _ _ _ _ _ (⟨some 135, .call ⟨.value _, _, _⟩, _, _, _, _⟩ :: _) _ _; refine RGl.vl (fun e hk => by (try dsimp only [bndR, ensR, oksR, fcutR, List.append_nil, List.nil_append, List.cons_append, List.append_assoc] at hk ⊢); refine OpT.call (hlv) evsA provsA (by kernel_rfl)) ?_) | (show RGl _ _ _ _ _ _ _ _ (⟨some 107, .binOp .eql _ _ _ _, _, _, _, _⟩ :: _) _ _; refine RGl.rdX (fun e hk => by (try dsimp only [bndR, ensR, oksR, fcutR, List.append_nil, List.nil_append, List.cons_append, List.append_assoc] at hk ⊢); exact ReadR.binE rfl rfl BinR.eql (congrArg Value.bool (decide_eq_true rfl))) ?_) | (show RGl _ _ _ _ _ _ _ _ (⟨some 112, .binOp .eql _ _ _ _, _, _, _, _⟩ :: _) _ _; refine RGl.rdX (fun e hk => by (try dsimp only [bndR, ensR, oksR, fcutR, List.append_nil, List.nil_append, List.cons_append, List.append_assoc] at hk ⊢); exact ReadR.binE rfl rfl BinR.eql (congrArg Value.bool (decide_eq_true rfl))) ?_) | (show RGl _ _ _ _ _ _ _ _ (⟨some 120, .binOp .eql _ _ _ _, _, _, _, _⟩ :: _) _ _; refine RGl.rdX (fun e hk => by (try dsimp only [bndR, ensR, oksR, fcutR, List.append_nil, List.nil_append, List.cons_append, List.append_assoc] at hk ⊢); exact ReadR.binE rfl rfl BinR.eql (congrArg Value.bool (decide_eq_true hpos))) ?_) | (show RGl _ _ _ _ _ _ _ _ (⟨some 127, .binOp .eql _ _ _ _, _, _, _, _⟩ :: _) _ _; refine RGl.rdX (fun e hk => by (try dsimp only [bndR, ensR, oksR, fcutR, List.append_nil, List.nil_append, List.cons_append, List.append_assoc] at hk ⊢); exact ReadR.binE rfl rfl (BinR.eqlA eqcA) (congrArg Value.bool (adEq (a := h.src) (b := h.src) rfl))) ?_) | (show RGl _ _ _ _ _ _ _ _ (_ :: _) _ _; first | refine RGl.rdA ?_ | refine RGl.rdX (fun e hk => by (try dsimp only [bndR, ensR, oksR, fcutR, List.append_nil, List.nil_append, List.cons_append, List.append_assoc] at hk ⊢); exact readB) ?_) | (show RGl _ _ _ _ _ _ _ _ (⟨_, .buildSlice _ _ _, _, _, _, _⟩ :: _) _ _; refine RGl.litA ?_) | (show RGl _ _ _ _ _ _ _ _ (⟨_, .call ⟨.builtin .append, _, _⟩, _, _, _, _⟩ :: _) _ _; refine RGl.appA ?_) | (refine RGl.fin (fun e hk => ?_); (try dsimp only [bndA, ensAR, oksA, List.append_nil, List.nil_append, List.cons_append, List.append_assoc] at hk ⊢); (repeat (obtain ⟨hk1, hk⟩ := hk))) | fail))
            | ((show WPc _ _ _ _ _ _ (.cond _ _ _) _; first | refine WPc.cT ?_ | refine WPc.cF ?_ | (refine WPc.cS (fun hc => ?_) (fun hc => ?_) <;> (try simp only [decide_eq_true_eq, decide_eq_false_iff_not, Bool.not_eq_true', Bool.not_eq_false', Bool.and_eq_true, Bool.or_eq_true, Bool.and_eq_false_iff, Bool.or_eq_false_iff, Bool.not_true, Bool.not_false, Int.not_lt, Int.not_le] at hc) <;> (try (exfalso; first | omega | exact clash1 hc (by assumption) | exact clash2 hc (by assumption) | exact hc trivial | exact hc (by assumption) | exact absurd hc (by assumption))))))
            | ((show WPl _ _ _ _ _ _ _ (⟨_, .store _ (.tmp 87) _, _, _, _, _⟩ :: _) _; first | refine WPl.stEB (b := 60) ?_ | refine WPl.stRB (b := 60) ?_))
            | ((show WPl _ _ _ _ _ _ _ (⟨some 71, .call ⟨.value _, _, _⟩, _, _, _, _⟩ :: _) _; refine WPl.cR2 (hw _) fun v hv => ?_))
            | ((show WPl _ _ _ _ _ _ _ (⟨some 90, .call ⟨.value _, _, _⟩, _, _, _, _⟩ :: _) _; refine WPl.cV (hr _) ?_))
            | ((show WPl _ _ _ _ _ _ _ (⟨some 135, .call ⟨.value _, _, _⟩, _, _, _, _⟩ :: _) _; refine WPl.cV (hlv) ?_))
            | ((show WPl _ _ _ _ _ _ _ (⟨some 107, .binOp .eql _ _ _ _, _, _, _, _⟩ :: _) _; refine WPl.rdX (ReadR.binE rfl rfl BinR.eql (congrArg Value.bool (decide_eq_true rfl))) ?_))
            | ((show WPl _ _ _ _ _ _ _ (⟨some 112, .binOp .eql _ _ _ _, _, _, _, _⟩ :: _) _; refine WPl.rdX (ReadR.binE rfl rfl BinR.eql (congrArg Value.bool (decide_eq_true rfl))) ?_))
            | ((show WPl _ _ _ _ _ _ _ (⟨some 120, .binOp .eql _ _ _ _, _, _, _, _⟩ :: _) _; refine WPl.rdX (ReadR.binE rfl rfl BinR.eql (congrArg Value.bool (decide_eq_true hpos))) ?_))
            | ((show WPl _ _ _ _ _ _ _ (⟨some 127, .binOp .eql _ _ _ _, _, _, _, _⟩ :: _) _; refine WPl.rdX (ReadR.binE rfl rfl (BinR.eqlA eqcA) (congrArg Value.bool (adEq (a := h.src) (b := h.src) rfl))) ?_))
            | ((show WPl _ _ _ _ _ _ _ (⟨_, .makeSlice _ _ _, _, _, _, _⟩ :: _) _; refine WPl.mk fun v hv => ?_))
            | ((show WPl _ _ _ _ _ _ _ (_ :: _) _; first | refine WPl.rd ?_ | refine WPl.sk ?_ | refine WPl.rdB ?_))
            | ((show WPl _ _ _ _ _ _ _ (⟨_, .alloc _, _, _, _, _⟩ :: _) _; refine WPl.nw fun g => ?_))
            | ((show WPl _ _ _ _ _ _ _ (⟨_, .box _ _, _, _, _, _⟩ :: _) _; refine WPl.nw fun g => ?_))
            | ((show WPl _ _ _ _ _ _ _ (⟨_, .store _ _ _, _, _, _, _⟩ :: _) _; first | refine WPl.st1 ?_ | refine WPl.stA ?_ | refine WPl.stEB ?_ | refine WPl.stRB ?_))
            | ((show WPl _ _ _ _ _ _ _ (_ :: _) _; refine WPl.spl (fun hc => ?_) (fun hc => ?_) <;> (try simp only [decide_eq_true_eq, decide_eq_false_iff_not, Bool.not_eq_true', Bool.not_eq_false', Bool.and_eq_true, Bool.or_eq_true, Bool.and_eq_false_iff, Bool.or_eq_false_iff, Bool.not_true, Bool.not_false, Int.not_lt, Int.not_le] at hc) <;> (try (exfalso; first | omega | exact clash1 hc (by assumption) | exact clash2 hc (by assumption) | exact hc trivial | exact hc (by assumption) | exact absurd hc (by assumption)))))
            | fail)
          all_goals try (first
            | exact WPq.dV
            | exact WPq.dR
            | exact WPq.dR2
            | exact WPq.dH
            | exact WPq.dBH
            | exact WPq.dT)
        · have hz0l : 0 < l1.length := List.length_pos_iff.2 hz0
          rw [if_neg hz0] at hrd1
          have hLs : (L0.set 6 h.proto).length = L0.length := List.length_set ..
          have hLe : (L0.set 6 h.proto).set 6 60 = L0.set 6 60 := List.set_set ..
          by_cases h8 : l1.length ≤ 8
          · skip
            have hr : ∀ v, Triple Try.prog 36 #[v] [rb v ((L0.set 6 h.proto).set 6 60)] (RVal (.tuple #[ag (hdc ⟨true, h.proto, ((40 + acc.length : Nat) : Int), h.src, h.dst, false, h.hops⟩), .int .i64 0])) := fun v => by
              have := xread_t v ((L0.set 6 h.proto).set 6 60) (by simp only [List.length_set]; omega)
              simp only [sVal] at this
              rw [hLe, (hrd1.1 (by omega)).1, (hrd1.1 (by omega)).2, ← hLe, hh17] at this
              rw [hacc]; exact this
            clear hrd1 hL0 hh17 hLe
            have hpos : ((40 + acc.length : Nat) : Int) = 40 + (acc.length : Int) := by omega
            repeat' (first
              | refine WPl.nil ?_
              | refine WPq.then ?_
              | refine WPq.thenR ?_
              | refine WPq.thenE ?_
              | refine WPq.blockN ?_
              | refine WPq.blockR ?_
              | refine WPq.blockE ?_
              | refine WPq.blockO rfl ?_
              | refine WPc.seq ?_
              | refine WPc.block ?_
              | refine WPc.ret ?_
              | refine WPc.exit ?_
              | refine WPc.skip ?_
              | refine WPc.region ?_
              | ((show WPc _ _ _ _ _ _ (.region 17 _ true) _; refine WPc.drawn [([], [66, 67, 68, 69, 70]), ([], [65, 67, 69]), ([], [65, 66, 69]), ([1, 2], [65, 66, 67, 69]), ([], [65, 66, 67, 68]), ([1, 2, 3, 4], [65, 66, 67, 68, 69]), ([0, 1, 2, 3, 4, 5], [65, 66, 67, 68, 69, 70]), ([0, 1, 2, 3, 4, 5, 6], [65, 66, 67, 68, 69, 70, 71]), ([0, 1, 2, 3, 4, 5, 6, 7], [64, 65, 66, 67, 68, 69, 70, 71, 73]), ([0, 1, 2, 3, 4, 5, 6, 7], [11, 64, 65, 66, 67, 68, 69, 70, 71, 72]), ([0, 1, 2, 3, 4, 5, 6, 7, 8], [64, 65, 66, 67, 68, 69, 70, 71, 72, 73]), ([0, 1, 2, 3, 4, 5, 6, 7, 8, 9, 10], [11, 64, 65, 66, 67, 68, 69, 70, 71, 72, 73])] [(1, 3), (3, 5)] (Γx := []) (by exact takesA) (by repeat' (first | exact own_nil | refine own_cons (by first | exact bx_own | exact rowN_own | exact rfl) ?_ | fail)) (by kernel_rfl) (by kernel_rfl) ?_; dsimp only [prev0, List.length_nil, List.length_cons]))
              | ((show RGl _ _ _ _ _ _ _ _ _ _ _; first | (show RGl _ _ _ _ _ _ _ _ (⟨some 71, .call ⟨.value _, _, _⟩, _, _, _, _⟩ :: _) _ _; refine RGl.row2 (fun e hk => by (try dsimp only [bndR, ensR, oksR, fcutR, List.append_nil, List.nil_append, List.cons_append, List.append_assoc] at hk ⊢); refine OpT.call (hw _) evsA provsA (by kernel_rfl)) ?_) | (show RGl _ _ _ _ _ _ _ _ (⟨some 90, .call ⟨.value _, _, _⟩, _, _, _, _⟩ :: _) _ _; refine RGl.vl (fun e hk => by (try dsimp only [bndR, ensR, oksR, fcutR, List.append_nil, List.nil_append, List.cons_append, List.append_assoc] at hk ⊢); refine OpT.call (hr _) evsA provsA (by kernel_rfl)) ?_) | (show RGl _ _ _ _ _ _ _ _ (⟨some 135, .call ⟨.value _, _, _⟩, _, _, _, _⟩ :: _) _ _; refine RGl.vl (fun e hk => by (try dsimp only [bndR, ensR, oksR, fcutR, List.append_nil, List.nil_append, List.cons_append, List.append_assoc] at hk ⊢); refine OpT.call (hlv) evsA provsA (by kernel_rfl)) ?_) | (show RGl _ _ _ _ _ _ _ _ (⟨some 107, .binOp .eql _ _ _ _, _, _, _, _⟩ :: _) _ _; refine RGl.rdX (fun e hk => by (try dsimp only [bndR, ensR, oksR, fcutR, List.append_nil, List.nil_append, List.cons_append, List.append_assoc] at hk ⊢); exact ReadR.binE rfl rfl BinR.eql (congrArg Value.bool (decide_eq_true rfl))) ?_) | (show RGl _ _ _ _ _ _ _ _ (⟨some 112, .binOp .eql _ _ _ _, _, _, _, _⟩ :: _) _ _; refine RGl.rdX (fun e hk => by (try dsimp only [bndR, ensR, oksR, fcutR, List.append_nil, List.nil_append, List.cons_append, List.append_assoc] at hk ⊢); exact ReadR.binE rfl rfl BinR.eql (congrArg Value.bool (decide_eq_true rfl))) ?_) | (show RGl _ _ _ _ _ _ _ _ (⟨some 120, .binOp .eql _ _ _ _, _, _, _, _⟩ :: _) _ _; refine RGl.rdX (fun e hk => by (try dsimp only [bndR, ensR, oksR, fcutR, List.append_nil, List.nil_append, List.cons_append, List.append_assoc] at hk ⊢); exact ReadR.binE rfl rfl BinR.eql (congrArg Value.bool (decide_eq_true hpos))) ?_) | (show RGl _ _ _ _ _ _ _ _ (⟨some 127, .binOp .eql _ _ _ _, _, _, _, _⟩ :: _) _ _; refine RGl.rdX (fun e hk => by (try dsimp only [bndR, ensR, oksR, fcutR, List.append_nil, List.nil_append, List.cons_append, List.append_assoc] at hk ⊢); exact ReadR.binE rfl rfl (BinR.eqlA eqcA) (congrArg Value.bool (adEq (a := h.src) (b := h.src) rfl))) ?_) | (show RGl _ _ _ _ _ _ _ _ (_ :: _) _ _; first | refine RGl.rdA ?_ | refine RGl.rdX (fun e hk => by (try dsimp only [bndR, ensR, oksR, fcutR, List.append_nil, List.nil_append, List.cons_append, List.append_assoc] at hk ⊢); exact readB) ?_) | (show RGl _ _ _ _ _ _ _ _ (⟨_, .buildSlice _ _ _, _, _, _, _⟩ :: _) _ _; refine RGl.litA ?_) | (show RGl _ _ _ _ _ _ _ _ (⟨_, .call ⟨.builtin .append, _, _⟩, _, _, _, _⟩ :: _) _ _; refine RGl.appA ?_) | (refine RGl.fin (fun e hk => ?_); (try dsimp only [bndA, ensAR, oksA, List.append_nil, List.nil_append, List.cons_append, List.append_assoc] at hk ⊢); (repeat (obtain ⟨hk1, hk⟩ := hk))) | fail))
              | ((show WPc _ _ _ _ _ _ (.cond _ _ _) _; first | refine WPc.cT ?_ | refine WPc.cF ?_ | (refine WPc.cS (fun hc => ?_) (fun hc => ?_) <;> (try simp only [decide_eq_true_eq, decide_eq_false_iff_not, Bool.not_eq_true', Bool.not_eq_false', Bool.and_eq_true, Bool.or_eq_true, Bool.and_eq_false_iff, Bool.or_eq_false_iff, Bool.not_true, Bool.not_false, Int.not_lt, Int.not_le] at hc) <;> (try (exfalso; first | omega | exact clash1 hc (by assumption) | exact clash2 hc (by assumption) | exact hc trivial | exact hc (by assumption) | exact absurd hc (by assumption))))))
              | ((show WPl _ _ _ _ _ _ _ (⟨_, .store _ (.tmp 87) _, _, _, _, _⟩ :: _) _; first | refine WPl.stEB (b := 60) ?_ | refine WPl.stRB (b := 60) ?_))
              | ((show WPl _ _ _ _ _ _ _ (⟨some 71, .call ⟨.value _, _, _⟩, _, _, _, _⟩ :: _) _; refine WPl.cR2 (hw _) fun v hv => ?_))
              | ((show WPl _ _ _ _ _ _ _ (⟨some 90, .call ⟨.value _, _, _⟩, _, _, _, _⟩ :: _) _; refine WPl.cV (hr _) ?_))
              | ((show WPl _ _ _ _ _ _ _ (⟨some 135, .call ⟨.value _, _, _⟩, _, _, _, _⟩ :: _) _; refine WPl.cV (hlv) ?_))
              | ((show WPl _ _ _ _ _ _ _ (⟨some 107, .binOp .eql _ _ _ _, _, _, _, _⟩ :: _) _; refine WPl.rdX (ReadR.binE rfl rfl BinR.eql (congrArg Value.bool (decide_eq_true rfl))) ?_))
              | ((show WPl _ _ _ _ _ _ _ (⟨some 112, .binOp .eql _ _ _ _, _, _, _, _⟩ :: _) _; refine WPl.rdX (ReadR.binE rfl rfl BinR.eql (congrArg Value.bool (decide_eq_true rfl))) ?_))
              | ((show WPl _ _ _ _ _ _ _ (⟨some 120, .binOp .eql _ _ _ _, _, _, _, _⟩ :: _) _; refine WPl.rdX (ReadR.binE rfl rfl BinR.eql (congrArg Value.bool (decide_eq_true hpos))) ?_))
              | ((show WPl _ _ _ _ _ _ _ (⟨some 127, .binOp .eql _ _ _ _, _, _, _, _⟩ :: _) _; refine WPl.rdX (ReadR.binE rfl rfl (BinR.eqlA eqcA) (congrArg Value.bool (adEq (a := h.src) (b := h.src) rfl))) ?_))
              | ((show WPl _ _ _ _ _ _ _ (⟨_, .makeSlice _ _ _, _, _, _, _⟩ :: _) _; refine WPl.mk fun v hv => ?_))
              | ((show WPl _ _ _ _ _ _ _ (_ :: _) _; first | refine WPl.rd ?_ | refine WPl.sk ?_ | refine WPl.rdB ?_))
              | ((show WPl _ _ _ _ _ _ _ (⟨_, .alloc _, _, _, _, _⟩ :: _) _; refine WPl.nw fun g => ?_))
              | ((show WPl _ _ _ _ _ _ _ (⟨_, .box _ _, _, _, _, _⟩ :: _) _; refine WPl.nw fun g => ?_))
              | ((show WPl _ _ _ _ _ _ _ (⟨_, .store _ _ _, _, _, _, _⟩ :: _) _; first | refine WPl.st1 ?_ | refine WPl.stA ?_ | refine WPl.stEB ?_ | refine WPl.stRB ?_))
              | ((show WPl _ _ _ _ _ _ _ (_ :: _) _; refine WPl.spl (fun hc => ?_) (fun hc => ?_) <;> (try simp only [decide_eq_true_eq, decide_eq_false_iff_not, Bool.not_eq_true', Bool.not_eq_false', Bool.and_eq_true, Bool.or_eq_true, Bool.and_eq_false_iff, Bool.or_eq_false_iff, Bool.not_true, Bool.not_false, Int.not_lt, Int.not_le] at hc) <;> (try (exfalso; first | omega | exact clash1 hc (by assumption) | exact clash2 hc (by assumption) | exact hc trivial | exact hc (by assumption) | exact absurd hc (by assumption)))))
              | fail)
            all_goals try (first
              | exact WPq.dV
              | exact WPq.dR
              | exact WPq.dR2
              | exact WPq.dH
              | exact WPq.dBH
              | exact WPq.dT)
          · skip
            have hr : ∀ v, Triple Try.prog 36 #[v] [rb v ((L0.set 6 h.proto).set 6 60)] (RVal (.tuple #[ag (hdc Hd.none), .int .i64 10])) := fun v => by
              have := xread_t v ((L0.set 6 h.proto).set 6 60) (by simp only [List.length_set]; omega)
              simp only [sVal] at this
              rwa [hLe, (hrd1.2 (by omega)).1, (hrd1.2 (by omega)).2, ← hLe] at this
            clear hrd1 hL0 hh17 hLe
            repeat' (first
              | refine WPl.nil ?_
              | refine WPq.then ?_
              | refine WPq.thenR ?_
              | refine WPq.thenE ?_
              | refine WPq.blockN ?_
              | refine WPq.blockR ?_
              | refine WPq.blockE ?_
              | refine WPq.blockO rfl ?_
              | refine WPc.seq ?_
              | refine WPc.block ?_
              | refine WPc.ret ?_
              | refine WPc.exit ?_
              | refine WPc.skip ?_
              | refine WPc.region ?_
              | ((show WPc _ _ _ _ _ _ (.region 17 _ true) _; refine WPc.drawn [([], [66, 67, 68, 69, 70]), ([], [65, 67, 69]), ([], [65, 66, 69]), ([1, 2], [65, 66, 67, 69]), ([], [65, 66, 67, 68]), ([1, 2, 3, 4], [65, 66, 67, 68, 69]), ([0, 1, 2, 3, 4, 5], [65, 66, 67, 68, 69, 70]), ([0, 1, 2, 3, 4, 5, 6], [65, 66, 67, 68, 69, 70, 71]), ([0, 1, 2, 3, 4, 5, 6, 7], [64, 65, 66, 67, 68, 69, 70, 71, 73]), ([0, 1, 2, 3, 4, 5, 6, 7], [11, 64, 65, 66, 67, 68, 69, 70, 71, 72]), ([0, 1, 2, 3, 4, 5, 6, 7, 8], [64, 65, 66, 67, 68, 69, 70, 71, 72, 73]), ([0, 1, 2, 3, 4, 5, 6, 7, 8, 9, 10], [11, 64, 65, 66, 67, 68, 69, 70, 71, 72, 73])] [(1, 3), (3, 5)] (Γx := []) (by exact takesA) (by repeat' (first | exact own_nil | refine own_cons (by first | exact bx_own | exact rowN_own | exact rfl) ?_ | fail)) (by kernel_rfl) (by kernel_rfl) ?_; dsimp only [prev0, List.length_nil, List.length_cons]))
              | ((show RGl _ _ _ _ _ _ _ _ _ _ _; first | (show RGl _ _ _ _ _ _ _ _ (⟨some 71, .call ⟨.value _, _, _⟩, _, _, _, _⟩ :: _) _ _; refine RGl.row2 (fun e hk => by (try dsimp only [bndR, ensR, oksR, fcutR, List.append_nil, List.nil_append, List.cons_append, List.append_assoc] at hk ⊢); refine OpT.call (hw _) evsA provsA (by kernel_rfl)) ?_) | (show RGl _ _ _ _ _ _ _ _ (⟨some 90, .call ⟨.value _, _, _⟩, _, _, _, _⟩ :: _) _ _; refine RGl.vl (fun e hk => by (try dsimp only [bndR, ensR, oksR, fcutR, List.append_nil, List.nil_append, List.cons_append, List.append_assoc] at hk ⊢); refine OpT.call (hr _) evsA provsA (by kernel_rfl)) ?_) | (show RGl _ _ _ _ _ _ _ _ (⟨some 104, .call ⟨.value _, _, _⟩, _, _, _, _⟩ :: _) _ _; refine RGl.vl (fun e hk => by (try dsimp only [bndR, ensR, oksR, fcutR, List.append_nil, List.nil_append, List.cons_append, List.append_assoc] at hk ⊢); refine OpT.call (hlv) evsA provsA (by kernel_rfl)) ?_) | (show RGl _ _ _ _ _ _ _ _ (⟨some 97, .binOp .eql _ _ _ _, _, _, _, _⟩ :: _) _ _; refine RGl.rdX (fun e hk => by (try dsimp only [bndR, ensR, oksR, fcutR, List.append_nil, List.nil_append, List.cons_append, List.append_assoc] at hk ⊢); exact ReadR.binE rfl rfl BinR.eql (congrArg Value.bool (decide_eq_true rfl))) ?_) | (show RGl _ _ _ _ _ _ _ _ (⟨some 101, .binOp .eql _ _ _ _, _, _, _, _⟩ :: _) _ _; refine RGl.rdX (fun e hk => by (try dsimp only [bndR, ensR, oksR, fcutR, List.append_nil, List.nil_append, List.cons_append, List.append_assoc] at hk ⊢); exact ReadR.binE rfl rfl (BinR.eqlA eqcA) (congrArg Value.bool (hdEq (a := Hd.none) (b := Hd.none) rfl))) ?_) | (show RGl _ _ _ _ _ _ _ _ (_ :: _) _ _; first | refine RGl.rdA ?_ | refine RGl.rdX (fun e hk => by (try dsimp only [bndR, ensR, oksR, fcutR, List.append_nil, List.nil_append, List.cons_append, List.append_assoc] at hk ⊢); exact readB) ?_) | (show RGl _ _ _ _ _ _ _ _ (⟨_, .buildSlice _ _ _, _, _, _, _⟩ :: _) _ _; refine RGl.litA ?_) | (show RGl _ _ _ _ _ _ _ _ (⟨_, .call ⟨.builtin .append, _, _⟩, _, _, _, _⟩ :: _) _ _; refine RGl.appA ?_) | (refine RGl.fin (fun e hk => ?_); (try dsimp only [bndA, ensAR, oksA, List.append_nil, List.nil_append, List.cons_append, List.append_assoc] at hk ⊢); (repeat (obtain ⟨hk1, hk⟩ := hk))) | fail))
              | ((show WPc _ _ _ _ _ _ (.cond _ _ _) _; first | refine WPc.cT ?_ | refine WPc.cF ?_ | (refine WPc.cS (fun hc => ?_) (fun hc => ?_) <;> (try simp only [decide_eq_true_eq, decide_eq_false_iff_not, Bool.not_eq_true', Bool.not_eq_false', Bool.and_eq_true, Bool.or_eq_true, Bool.and_eq_false_iff, Bool.or_eq_false_iff, Bool.not_true, Bool.not_false, Int.not_lt, Int.not_le] at hc) <;> (try (exfalso; first | omega | exact clash1 hc (by assumption) | exact clash2 hc (by assumption) | exact hc trivial | exact hc (by assumption) | exact absurd hc (by assumption))))))
              | ((show WPl _ _ _ _ _ _ _ (⟨_, .store _ (.tmp 87) _, _, _, _, _⟩ :: _) _; first | refine WPl.stEB (b := 60) ?_ | refine WPl.stRB (b := 60) ?_))
              | ((show WPl _ _ _ _ _ _ _ (⟨some 71, .call ⟨.value _, _, _⟩, _, _, _, _⟩ :: _) _; refine WPl.cR2 (hw _) fun v hv => ?_))
              | ((show WPl _ _ _ _ _ _ _ (⟨some 90, .call ⟨.value _, _, _⟩, _, _, _, _⟩ :: _) _; refine WPl.cV (hr _) ?_))
              | ((show WPl _ _ _ _ _ _ _ (⟨some 104, .call ⟨.value _, _, _⟩, _, _, _, _⟩ :: _) _; refine WPl.cV (hlv) ?_))
              | ((show WPl _ _ _ _ _ _ _ (⟨some 97, .binOp .eql _ _ _ _, _, _, _, _⟩ :: _) _; refine WPl.rdX (ReadR.binE rfl rfl BinR.eql (congrArg Value.bool (decide_eq_true rfl))) ?_))
              | ((show WPl _ _ _ _ _ _ _ (⟨some 101, .binOp .eql _ _ _ _, _, _, _, _⟩ :: _) _; refine WPl.rdX (ReadR.binE rfl rfl (BinR.eqlA eqcA) (congrArg Value.bool (hdEq (a := Hd.none) (b := Hd.none) rfl))) ?_))
              | ((show WPl _ _ _ _ _ _ _ (⟨_, .makeSlice _ _ _, _, _, _, _⟩ :: _) _; refine WPl.mk fun v hv => ?_))
              | ((show WPl _ _ _ _ _ _ _ (_ :: _) _; first | refine WPl.rd ?_ | refine WPl.sk ?_ | refine WPl.rdB ?_))
              | ((show WPl _ _ _ _ _ _ _ (⟨_, .alloc _, _, _, _, _⟩ :: _) _; refine WPl.nw fun g => ?_))
              | ((show WPl _ _ _ _ _ _ _ (⟨_, .box _ _, _, _, _, _⟩ :: _) _; refine WPl.nw fun g => ?_))
              | ((show WPl _ _ _ _ _ _ _ (⟨_, .store _ _ _, _, _, _, _⟩ :: _) _; first | refine WPl.st1 ?_ | refine WPl.stA ?_ | refine WPl.stEB ?_ | refine WPl.stRB ?_))
              | ((show WPl _ _ _ _ _ _ _ (_ :: _) _; refine WPl.spl (fun hc => ?_) (fun hc => ?_) <;> (try simp only [decide_eq_true_eq, decide_eq_false_iff_not, Bool.not_eq_true', Bool.not_eq_false', Bool.and_eq_true, Bool.or_eq_true, Bool.and_eq_false_iff, Bool.or_eq_false_iff, Bool.not_true, Bool.not_false, Int.not_lt, Int.not_le] at hc) <;> (try (exfalso; first | omega | exact clash1 hc (by assumption) | exact clash2 hc (by assumption) | exact hc trivial | exact hc (by assumption) | exact absurd hc (by assumption)))))
              | fail)
            all_goals try (first
              | exact WPq.dV
              | exact WPq.dR
              | exact WPq.dR2
              | exact WPq.dH
              | exact WPq.dBH
              | exact WPq.dT)
      · skip
        repeat' (first
          | refine WPl.nil ?_
          | refine WPq.then ?_
          | refine WPq.thenR ?_
          | refine WPq.thenE ?_
          | refine WPq.blockN ?_
          | refine WPq.blockR ?_
          | refine WPq.blockE ?_
          | refine WPq.blockO rfl ?_
          | refine WPc.seq ?_
          | refine WPc.block ?_
          | refine WPc.ret ?_
          | refine WPc.exit ?_
          | refine WPc.skip ?_
          | refine WPc.region ?_
          | ((show WPc _ _ _ _ _ _ (.region 17 _ true) _; refine WPc.drawn [([], [66, 67, 68, 69, 70]), ([], [65, 67, 69]), ([], [65, 66, 69]), ([1, 2], [65, 66, 67, 69]), ([], [65, 66, 67, 68]), ([1, 2, 3, 4], [65, 66, 67, 68, 69]), ([0, 1, 2, 3, 4, 5], [65, 66, 67, 68, 69, 70]), ([0, 1, 2, 3, 4, 5, 6], [65, 66, 67, 68, 69, 70, 71]), ([0, 1, 2, 3, 4, 5, 6, 7], [64, 65, 66, 67, 68, 69, 70, 71, 73]), ([0, 1, 2, 3, 4, 5, 6, 7], [11, 64, 65, 66, 67, 68, 69, 70, 71, 72]), ([0, 1, 2, 3, 4, 5, 6, 7, 8], [64, 65, 66, 67, 68, 69, 70, 71, 72, 73]), ([0, 1, 2, 3, 4, 5, 6, 7, 8, 9, 10], [11, 64, 65, 66, 67, 68, 69, 70, 71, 72, 73])] [(1, 3), (3, 5)] (Γx := []) (by exact takesA) (by repeat' (first | exact own_nil | refine own_cons (by first | exact bx_own | exact rowN_own | exact rfl) ?_ | fail)) (by kernel_rfl) (by kernel_rfl) ?_; dsimp only [prev0, List.length_nil, List.length_cons]))
          | ((show RGl _ _ _ _ _ _ _ _ _ _ _; first | (show RGl _ _ _ _ _ _ _ _ (⟨some 71, .call ⟨.value _, _, _⟩, _, _, _, _⟩ :: _) _ _; refine RGl.row2 (fun e hk => by (try dsimp only [bndR, ensR, oksR, fcutR, List.append_nil, List.nil_append, List.cons_append, List.append_assoc] at hk ⊢); refine OpT.call (hw _) evsA provsA (by kernel_rfl)) ?_) | (show RGl _ _ _ _ _ _ _ _ (⟨some 76, .call ⟨.value _, _, _⟩, _, _, _, _⟩ :: _) _ _; refine RGl.vl (fun e hk => by (try dsimp only [bndR, ensR, oksR, fcutR, List.append_nil, List.nil_append, List.cons_append, List.append_assoc] at hk ⊢); refine OpT.call (hlv) evsA provsA (by kernel_rfl)) ?_) | (show RGl _ _ _ _ _ _ _ _ (_ :: _) _ _; first | refine RGl.rdA ?_ | refine RGl.rdX (fun e hk => by (try dsimp only [bndR, ensR, oksR, fcutR, List.append_nil, List.nil_append, List.cons_append, List.append_assoc] at hk ⊢); exact readB) ?_) | (show RGl _ _ _ _ _ _ _ _ (⟨_, .buildSlice _ _ _, _, _, _, _⟩ :: _) _ _; refine RGl.litA ?_) | (show RGl _ _ _ _ _ _ _ _ (⟨_, .call ⟨.builtin .append, _, _⟩, _, _, _, _⟩ :: _) _ _; refine RGl.appA ?_) | (refine RGl.fin (fun e hk => ?_); (try dsimp only [bndA, ensAR, oksA, List.append_nil, List.nil_append, List.cons_append, List.append_assoc] at hk ⊢); (repeat (obtain ⟨hk1, hk⟩ := hk))) | fail))
          | ((show WPc _ _ _ _ _ _ (.cond _ _ _) _; first | refine WPc.cT ?_ | refine WPc.cF ?_ | (refine WPc.cS (fun hc => ?_) (fun hc => ?_) <;> (try simp only [decide_eq_true_eq, decide_eq_false_iff_not, Bool.not_eq_true', Bool.not_eq_false', Bool.and_eq_true, Bool.or_eq_true, Bool.and_eq_false_iff, Bool.or_eq_false_iff, Bool.not_true, Bool.not_false, Int.not_lt, Int.not_le] at hc) <;> (try (exfalso; first | omega | exact clash1 hc (by assumption) | exact clash2 hc (by assumption) | exact hc trivial | exact hc (by assumption) | exact absurd hc (by assumption))))))
          | ((show WPl _ _ _ _ _ _ _ (⟨some 71, .call ⟨.value _, _, _⟩, _, _, _, _⟩ :: _) _; refine WPl.cR2 (hw _) fun v hv => ?_))
          | ((show WPl _ _ _ _ _ _ _ (⟨some 76, .call ⟨.value _, _, _⟩, _, _, _, _⟩ :: _) _; refine WPl.cV (hlv) ?_))
          | ((show WPl _ _ _ _ _ _ _ (⟨_, .makeSlice _ _ _, _, _, _, _⟩ :: _) _; refine WPl.mk fun v hv => ?_))
          | ((show WPl _ _ _ _ _ _ _ (_ :: _) _; first | refine WPl.rd ?_ | refine WPl.sk ?_ | refine WPl.rdB ?_))
          | ((show WPl _ _ _ _ _ _ _ (⟨_, .alloc _, _, _, _, _⟩ :: _) _; refine WPl.nw fun g => ?_))
          | ((show WPl _ _ _ _ _ _ _ (⟨_, .box _ _, _, _, _, _⟩ :: _) _; refine WPl.nw fun g => ?_))
          | ((show WPl _ _ _ _ _ _ _ (⟨_, .store _ _ _, _, _, _, _⟩ :: _) _; first | refine WPl.st1 ?_ | refine WPl.stA ?_ | refine WPl.stEB ?_ | refine WPl.stRB ?_))
          | ((show WPl _ _ _ _ _ _ _ (_ :: _) _; refine WPl.spl (fun hc => ?_) (fun hc => ?_) <;> (try simp only [decide_eq_true_eq, decide_eq_false_iff_not, Bool.not_eq_true', Bool.not_eq_false', Bool.and_eq_true, Bool.or_eq_true, Bool.and_eq_false_iff, Bool.or_eq_false_iff, Bool.not_true, Bool.not_false, Int.not_lt, Int.not_le] at hc) <;> (try (exfalso; first | omega | exact clash1 hc (by assumption) | exact clash2 hc (by assumption) | exact hc trivial | exact hc (by assumption) | exact absurd hc (by assumption)))))
          | fail)
        all_goals try (first
          | exact WPq.dV
          | exact WPq.dR
          | exact WPq.dR2
          | exact WPq.dH
          | exact WPq.dBH
          | exact WPq.dT)
theorem ipsixPassed_b (h : Hd) (v1 v2 : Value) (l1 l2 : List UInt8) (hz : 12 < l1.length) : Triple Try.prog 7 #[ag (hdc h), v1, v2] [rb v1 l1, rb v2 l2] (RVal (.bool true)) := by
  have k1 := h.src.len
  have k2 := h.dst.len
  have hdl : (l2.take 60).length ≤ 60 := List.length_take_le _ _
  have hbt := rbtw_t h.proto
  have hlv := lives14_t
  have hzl : (seg l1 0 12).length ≤ 12 := by rw [seg_len]; omega
  have hcl := chain_len_le h.proto (seg l1 0 12)
  cases hb : btw h.proto with
  | true =>
    rw [hb] at hbt
    refine Triple.enter Try.func7 rfl Try.ntmps7 rfl (fun W => ?_)
    dsimp only [argsF, Nat.reduceAdd]
    repeat' (first
      | refine WPl.nil ?_
      | refine WPq.then ?_
      | refine WPq.thenR ?_
      | refine WPq.thenE ?_
      | refine WPq.blockN ?_
      | refine WPq.blockR ?_
      | refine WPq.blockE ?_
      | refine WPq.blockO rfl ?_
      | refine WPc.seq ?_
      | refine WPc.block ?_
      | refine WPc.ret ?_
      | refine WPc.exit ?_
      | refine WPc.skip ?_
      | refine WPc.region ?_
      | ((show WPc _ _ _ _ _ _ (.region 17 _ true) _; refine WPc.drawn [([], [66, 67, 68, 69, 70]), ([], [65, 67, 69]), ([], [65, 66, 69]), ([1, 2], [65, 66, 67, 69]), ([], [65, 66, 67, 68]), ([1, 2, 3, 4], [65, 66, 67, 68, 69]), ([0, 1, 2, 3, 4, 5], [65, 66, 67, 68, 69, 70]), ([0, 1, 2, 3, 4, 5, 6], [65, 66, 67, 68, 69, 70, 71]), ([0, 1, 2, 3, 4, 5, 6, 7], [64, 65, 66, 67, 68, 69, 70, 71, 73]), ([0, 1, 2, 3, 4, 5, 6, 7], [11, 64, 65, 66, 67, 68, 69, 70, 71, 72]), ([0, 1, 2, 3, 4, 5, 6, 7, 8], [64, 65, 66, 67, 68, 69, 70, 71, 72, 73]), ([0, 1, 2, 3, 4, 5, 6, 7, 8, 9, 10], [11, 64, 65, 66, 67, 68, 69, 70, 71, 72, 73])] [(1, 3), (3, 5)] (Γx := []) (by exact takesA) (by repeat' (first | exact own_nil | refine own_cons (by first | exact bx_own | exact rowN_own | exact rfl) ?_ | fail)) (by kernel_rfl) (by kernel_rfl) ?_; dsimp only [prev0, List.length_nil, List.length_cons]))
      | ((show RGl _ _ _ _ _ _ _ _ _ _ _; first | (show RGl _ _ _ _ _ _ _ _ (⟨some 16, .call ⟨.value _, _, _⟩, _, _, _, _⟩ :: _) _ _; refine RGl.row (Γ1 := fun _ => []) (fun e hk => by (try dsimp only [bndR, ensR, oksR, fcutR, List.append_nil, List.nil_append, List.cons_append, List.append_assoc] at hk ⊢); refine OpT.call (few_t v2 l2 60 (by omega)) evsA provsA (by kernel_rfl)) ?_) | (show RGl _ _ _ _ _ _ _ _ (⟨some 25, .call ⟨.value _, _, _⟩, _, _, _, _⟩ :: _) _ _; refine RGl.vl (fun e hk => by (try dsimp only [bndR, ensR, oksR, fcutR, List.append_nil, List.nil_append, List.cons_append, List.append_assoc] at hk ⊢); refine OpT.call (hbt) evsA provsA (by kernel_rfl)) ?_) | (show RGl _ _ _ _ _ _ _ _ (⟨some 26, .call ⟨.value _, _, _⟩, _, _, _, _⟩ :: _) _ _; refine RGl.vl (fun e hk => by (try dsimp only [bndR, ensR, oksR, fcutR, List.append_nil, List.nil_append, List.cons_append, List.append_assoc] at hk ⊢); refine OpT.call (hlv) evsA provsA (by kernel_rfl)) ?_) | (show RGl _ _ _ _ _ _ _ _ (_ :: _) _ _; first | refine RGl.rdA ?_ | refine RGl.rdX (fun e hk => by (try dsimp only [bndR, ensR, oksR, fcutR, List.append_nil, List.nil_append, List.cons_append, List.append_assoc] at hk ⊢); exact readB) ?_) | (show RGl _ _ _ _ _ _ _ _ (⟨_, .buildSlice _ _ _, _, _, _, _⟩ :: _) _ _; refine RGl.litA ?_) | (show RGl _ _ _ _ _ _ _ _ (⟨_, .call ⟨.builtin .append, _, _⟩, _, _, _, _⟩ :: _) _ _; refine RGl.appA ?_) | (refine RGl.fin (fun e hk => ?_); (try dsimp only [bndA, ensAR, oksA, List.append_nil, List.nil_append, List.cons_append, List.append_assoc] at hk ⊢); (repeat (obtain ⟨hk1, hk⟩ := hk))) | fail))
      | ((show WPc _ _ _ _ _ _ (.cond _ _ _) _; first | refine WPc.cT ?_ | refine WPc.cF ?_ | (refine WPc.cS (fun hc => ?_) (fun hc => ?_) <;> (try simp only [decide_eq_true_eq, decide_eq_false_iff_not, Bool.not_eq_true', Bool.not_eq_false', Bool.and_eq_true, Bool.or_eq_true, Bool.and_eq_false_iff, Bool.or_eq_false_iff, Bool.not_true, Bool.not_false, Int.not_lt, Int.not_le] at hc) <;> (try (exfalso; first | omega | exact clash1 hc (by assumption) | exact clash2 hc (by assumption) | exact hc trivial | exact hc (by assumption) | exact absurd hc (by assumption))))))
      | ((show WPl _ _ _ _ _ _ _ (⟨some 16, .call ⟨.value _, _, _⟩, _, _, _, _⟩ :: _) _; refine WPl.cR (few_t v2 l2 60 (by omega)) fun v hv => ?_))
      | ((show WPl _ _ _ _ _ _ _ (⟨some 25, .call ⟨.value _, _, _⟩, _, _, _, _⟩ :: _) _; refine WPl.cV (hbt) ?_))
      | ((show WPl _ _ _ _ _ _ _ (⟨some 26, .call ⟨.value _, _, _⟩, _, _, _, _⟩ :: _) _; refine WPl.cV (hlv) ?_))
      | ((show WPl _ _ _ _ _ _ _ (⟨_, .makeSlice _ _ _, _, _, _, _⟩ :: _) _; refine WPl.mk fun v hv => ?_))
      | ((show WPl _ _ _ _ _ _ _ (_ :: _) _; first | refine WPl.rd ?_ | refine WPl.sk ?_ | refine WPl.rdB ?_))
      | ((show WPl _ _ _ _ _ _ _ (⟨_, .alloc _, _, _, _, _⟩ :: _) _; refine WPl.nw fun g => ?_))
      | ((show WPl _ _ _ _ _ _ _ (⟨_, .box _ _, _, _, _, _⟩ :: _) _; refine WPl.nw fun g => ?_))
      | ((show WPl _ _ _ _ _ _ _ (⟨_, .store _ _ _, _, _, _, _⟩ :: _) _; first | refine WPl.st1 ?_ | refine WPl.stA ?_ | refine WPl.stEB ?_ | refine WPl.stRB ?_))
      | ((show WPl _ _ _ _ _ _ _ (_ :: _) _; refine WPl.spl (fun hc => ?_) (fun hc => ?_) <;> (try simp only [decide_eq_true_eq, decide_eq_false_iff_not, Bool.not_eq_true', Bool.not_eq_false', Bool.and_eq_true, Bool.or_eq_true, Bool.and_eq_false_iff, Bool.or_eq_false_iff, Bool.not_true, Bool.not_false, Int.not_lt, Int.not_le] at hc) <;> (try (exfalso; first | omega | exact clash1 hc (by assumption) | exact clash2 hc (by assumption) | exact hc trivial | exact hc (by assumption) | exact absurd hc (by assumption)))))
      | fail)
    all_goals try (first
      | exact WPq.dV
      | exact WPq.dR
      | exact WPq.dR2
      | exact WPq.dH
      | exact WPq.dBH
      | exact WPq.dT)
  | false =>
    rw [hb] at hbt
    obtain ⟨h17, hh17⟩ : ∃ x : Hd, x = ⟨h.six, 17, h.pos, h.src, h.dst, h.part, h.hops⟩ := ⟨_, rfl⟩
    obtain ⟨D, hD⟩ : ∃ D, D = chain h.proto (seg l1 0 12) ++ l2.take 60 := ⟨_, rfl⟩
    have hDl : D.length ≤ 500 := by rw [hD, List.length_append]; omega
    have hw17 := fun v => xwrite_t h17 v D (by omega)
    have hL1 := fun he => (xpkt_read (h := h17) (d := D) he).1
    have hrd := fun v l hl => xread_t v l hl
    have hrd1 := fun he => passed_read (h := h17) (d := D) (c := h.proto) (zs := (seg l1 0 12)) (dat := l2.take 60) he hD hb _ rfl
    rw [hh17] at hw17
    refine Triple.enter Try.func7 rfl Try.ntmps7 rfl (fun W => ?_)
    dsimp only [argsF, Nat.reduceAdd]
    repeat' (first
      | refine WPl.nil ?_
      | refine WPq.then ?_
      | refine WPq.thenR ?_
      | refine WPq.thenE ?_
      | refine WPq.blockN ?_
      | refine WPq.blockR ?_
      | refine WPq.blockE ?_
      | refine WPq.blockO rfl ?_
      | refine WPc.seq ?_
      | refine WPc.block ?_
      | refine WPc.ret ?_
      | refine WPc.exit ?_
      | refine WPc.skip ?_
      | refine WPc.region ?_
      | ((show WPc _ _ _ _ _ _ (.region 17 _ true) _; refine WPc.drawn [([], [66, 67, 68, 69, 70]), ([], [65, 67, 69]), ([], [65, 66, 69]), ([1, 2], [65, 66, 67, 69]), ([], [65, 66, 67, 68]), ([1, 2, 3, 4], [65, 66, 67, 68, 69]), ([0, 1, 2, 3, 4, 5], [65, 66, 67, 68, 69, 70]), ([0, 1, 2, 3, 4, 5, 6], [65, 66, 67, 68, 69, 70, 71]), ([0, 1, 2, 3, 4, 5, 6, 7], [64, 65, 66, 67, 68, 69, 70, 71, 73]), ([0, 1, 2, 3, 4, 5, 6, 7], [11, 64, 65, 66, 67, 68, 69, 70, 71, 72]), ([0, 1, 2, 3, 4, 5, 6, 7, 8], [64, 65, 66, 67, 68, 69, 70, 71, 72, 73]), ([0, 1, 2, 3, 4, 5, 6, 7, 8, 9, 10], [11, 64, 65, 66, 67, 68, 69, 70, 71, 72, 73])] [(1, 3), (3, 5)] (Γx := []) (by exact takesA) (by repeat' (first | exact own_nil | refine own_cons (by first | exact bx_own | exact rowN_own | exact rfl) ?_ | fail)) (by kernel_rfl) (by kernel_rfl) ?_; dsimp only [prev0, List.length_nil, List.length_cons]))
      | ((show RGl _ _ _ _ _ _ _ _ _ _ _; first | (show RGl _ _ _ _ _ _ _ _ (⟨some 16, .call ⟨.value _, _, _⟩, _, _, _, _⟩ :: _) _ _; refine RGl.row (Γ1 := fun _ => []) (fun e hk => by (try dsimp only [bndR, ensR, oksR, fcutR, List.append_nil, List.nil_append, List.cons_append, List.append_assoc] at hk ⊢); refine OpT.call (few_t v2 l2 60 (by omega)) evsA provsA (by kernel_rfl)) ?_) | (show RGl _ _ _ _ _ _ _ _ (⟨some 25, .call ⟨.value _, _, _⟩, _, _, _, _⟩ :: _) _ _; refine RGl.vl (fun e hk => by (try dsimp only [bndR, ensR, oksR, fcutR, List.append_nil, List.nil_append, List.cons_append, List.append_assoc] at hk ⊢); refine OpT.call (hbt) evsA provsA (by kernel_rfl)) ?_) | (show RGl _ _ _ _ _ _ _ _ (_ :: _) _ _; first | refine RGl.rdA ?_ | refine RGl.rdX (fun e hk => by (try dsimp only [bndR, ensR, oksR, fcutR, List.append_nil, List.nil_append, List.cons_append, List.append_assoc] at hk ⊢); exact readB) ?_) | (show RGl _ _ _ _ _ _ _ _ (⟨_, .buildSlice _ _ _, _, _, _, _⟩ :: _) _ _; refine RGl.litA ?_) | (show RGl _ _ _ _ _ _ _ _ (⟨_, .call ⟨.builtin .append, _, _⟩, _, _, _, _⟩ :: _) _ _; refine RGl.appA ?_) | (refine RGl.fin (fun e hk => ?_); (try dsimp only [bndA, ensAR, oksA, List.append_nil, List.nil_append, List.cons_append, List.append_assoc] at hk ⊢); (repeat (obtain ⟨hk1, hk⟩ := hk))) | fail))
      | ((show WPc _ _ _ _ _ _ (.cond _ _ _) _; first | refine WPc.cT ?_ | refine WPc.cF ?_ | (refine WPc.cS (fun hc => ?_) (fun hc => ?_) <;> (try simp only [decide_eq_true_eq, decide_eq_false_iff_not, Bool.not_eq_true', Bool.not_eq_false', Bool.and_eq_true, Bool.or_eq_true, Bool.and_eq_false_iff, Bool.or_eq_false_iff, Bool.not_true, Bool.not_false, Int.not_lt, Int.not_le] at hc) <;> (try (exfalso; first | omega | exact clash1 hc (by assumption) | exact clash2 hc (by assumption) | exact hc trivial | exact hc (by assumption) | exact absurd hc (by assumption))))))
      | ((first | (show WPl _ _ _ _ _ _ _ (⟨some 3, .alloc _, _, _, _, _⟩ :: _) _; refine WPl.nw fun g => ?_) | (show WPl _ _ _ _ _ _ _ (⟨some 3, .box _ _, _, _, _, _⟩ :: _) _; refine WPl.nw fun g => ?_)))
      | ((show WPl _ _ _ _ _ _ _ (⟨some 16, .call ⟨.value _, _, _⟩, _, _, _, _⟩ :: _) _; refine WPl.cR (few_t v2 l2 60 (by omega)) fun v hv => ?_))
      | ((show WPl _ _ _ _ _ _ _ (⟨some 25, .call ⟨.value _, _, _⟩, _, _, _, _⟩ :: _) _; refine WPl.cV (hbt) ?_))
      | ((show WPl _ _ _ _ _ _ _ (⟨_, .buildSlice _ _ _, _, _, _, _⟩ :: _) _; refine WPl.lit fun v hv => ?_))
      | ((show WPl _ _ _ _ _ _ _ (⟨_, .makeSlice _ _ _, _, _, _, _⟩ :: _) _; refine WPl.mk fun v hv => ?_))
      | ((show WPl _ _ _ _ _ _ _ (_ :: _) _; first | refine WPl.rd ?_ | refine WPl.sk ?_ | refine WPl.rdB ?_))
      | ((show WPl _ _ _ _ _ _ _ (⟨_, .alloc _, _, _, _, _⟩ :: _) _; refine WPl.nw fun g => ?_))
      | ((show WPl _ _ _ _ _ _ _ (⟨_, .box _ _, _, _, _, _⟩ :: _) _; refine WPl.nw fun g => ?_))
      | ((show WPl _ _ _ _ _ _ _ (⟨_, .store _ _ _, _, _, _, _⟩ :: _) _; first | refine WPl.st1 ?_ | refine WPl.stA ?_ | refine WPl.stEB ?_ | refine WPl.stRB ?_))
      | ((show WPl _ _ _ _ _ _ _ (_ :: _) _; refine WPl.spl (fun hc => ?_) (fun hc => ?_) <;> (try simp only [decide_eq_true_eq, decide_eq_false_iff_not, Bool.not_eq_true', Bool.not_eq_false', Bool.and_eq_true, Bool.or_eq_true, Bool.and_eq_false_iff, Bool.or_eq_false_iff, Bool.not_true, Bool.not_false, Int.not_lt, Int.not_le] at hc) <;> (try (exfalso; first | omega | exact clash1 hc (by assumption) | exact clash2 hc (by assumption) | exact hc trivial | exact hc (by assumption) | exact absurd hc (by assumption)))))
      | fail)
    rename_i vd hvd
    first | refine WPc.loop (σ := Value × Nat × List UInt8) (fun p => p.2.1 ≤ (seg l1 0 12).length ∧ p.1.oneCell' = true ∧ p.2.2 ++ chain h.proto ((seg l1 0 12).drop p.2.1) = chain h.proto (seg l1 0 12) ∧ p.2.2.length ≤ 32 * p.2.1) (fun p => [ob p.1 p.2.2, ob vd (l2.take 60), bx g 48 (hdc h), rb v1 l1]) (fun p => [(1, subv 1 v1 0 12), (2, vd), (3, .pointer (some ⟨g, 0, none⟩)), (7, .int .u8 ((h.proto.toNat : Nat) : Int)), (8, p.1), (9, .int .i64 p.2.1)]) (fun p => (seg l1 0 12).length - p.2.1) ((v, 0, nbs [])) ?_ takesA frsA (fun st km hx hk => ?_)
    · exact ⟨Nat.zero_le _, hv, by simp [nbs_nil], by simp [nbs_nil]⟩
    obtain ⟨sv, i, acc⟩ := st
    dsimp only at hx hk ⊢
    obtain ⟨hi, hsv, hacc, hal⟩ := hx
    by_cases hlt : i < (seg l1 0 12).length
    · have hzb := ((seg l1 0 12).getD i 0).toNat_lt
      obtain ⟨q, hq⟩ : ∃ q, q = ((seg l1 0 12).getD i 0).toNat % 4 := ⟨_, rfl⟩
      have hq4 : q < 4 := by omega
      have hsize : (8 : Int) + 8 * (((((seg l1 0 12).getD i 0).toNat : Nat) : Int) % 4) = ((8 + 8 * q : Nat) : Int) := by omega
      have hsz : (((UInt8.ofNat (((seg l1 0 12).getD i 0).toNat % 4)).toNat : Nat) : Int) = (((seg l1 0 12).getD i 0).toNat : Int) % 4 := by rw [u8_nat _ (by omega), Int.natCast_emod]; rfl
      have hrl : (List.replicate (8 + 8 * q) (0 : UInt8)).length = 8 + 8 * q := List.length_replicate ..
      have hrs1 : ((List.replicate (8 + 8 * q) (0 : UInt8)).set 0 60).length = 8 + 8 * q := by simp
      have hrs2 : (((List.replicate (8 + 8 * q) (0 : UInt8)).set 0 60).set 1 (UInt8.ofNat (((seg l1 0 12).getD i 0).toNat % 4))).length = 8 + 8 * q := by simp
      have hrs3 : ((((List.replicate (8 + 8 * q) (0 : UInt8)).set 0 60).set 1 (UInt8.ofNat (((seg l1 0 12).getD i 0).toNat % 4))).set 0 h.proto).length = 8 + 8 * q := by simp
      have hdrop : (seg l1 0 12).drop i = (seg l1 0 12).getD i 0 :: (seg l1 0 12).drop (i + 1) := by rw [List.drop_eq_getElem_cons hlt]; simp [List.getD_eq_getElem?_getD, List.getElem?_eq_getElem hlt]
      rw [hdrop, chain_cons, ← hq] at hacc
      by_cases hlast : i + 1 = (seg l1 0 12).length
      · have hnil : (seg l1 0 12).drop (i + 1) = [] := by rw [hlast, List.drop_length]
        rw [if_pos hnil] at hacc
        repeat' (first
          | refine WPl.nil ?_
          | refine WPq.then ?_
          | refine WPq.thenR ?_
          | refine WPq.thenE ?_
          | refine WPq.blockN ?_
          | refine WPq.blockR ?_
          | refine WPq.blockE ?_
          | refine WPq.blockO rfl ?_
          | refine WPc.seq ?_
          | refine WPc.block ?_
          | refine WPc.ret ?_
          | refine WPc.exit ?_
          | refine WPc.skip ?_
          | refine WPc.region ?_
          | ((show WPc _ _ _ _ _ _ (.region 17 _ true) _; refine WPc.drawn [([], [66, 67, 68, 69, 70]), ([], [65, 67, 69]), ([], [65, 66, 69]), ([1, 2], [65, 66, 67, 69]), ([], [65, 66, 67, 68]), ([1, 2, 3, 4], [65, 66, 67, 68, 69]), ([0, 1, 2, 3, 4, 5], [65, 66, 67, 68, 69, 70]), ([0, 1, 2, 3, 4, 5, 6], [65, 66, 67, 68, 69, 70, 71]), ([0, 1, 2, 3, 4, 5, 6, 7], [64, 65, 66, 67, 68, 69, 70, 71, 73]), ([0, 1, 2, 3, 4, 5, 6, 7], [11, 64, 65, 66, 67, 68, 69, 70, 71, 72]), ([0, 1, 2, 3, 4, 5, 6, 7, 8], [64, 65, 66, 67, 68, 69, 70, 71, 72, 73]), ([0, 1, 2, 3, 4, 5, 6, 7, 8, 9, 10], [11, 64, 65, 66, 67, 68, 69, 70, 71, 72, 73])] [(1, 3), (3, 5)] (Γx := []) (by exact takesA) (by repeat' (first | exact own_nil | refine own_cons (by first | exact bx_own | exact rowN_own | exact rfl) ?_ | fail)) (by kernel_rfl) (by kernel_rfl) ?_; dsimp only [prev0, List.length_nil, List.length_cons]))
          | ((show RGl _ _ _ _ _ _ _ _ _ _ _; first | (show RGl _ _ _ _ _ _ _ _ (⟨some 41, .binOp .add _ _ _ _, _, _, _, _⟩ :: _) _ _; refine RGl.rdX (fun e hk => by (try dsimp only [bndR, ensR, oksR, fcutR, List.append_nil, List.nil_append, List.cons_append, List.append_assoc] at hk ⊢); exact ReadR.bin rfl rfl (BinR.addT hsize (by simp only [kmin]; omega) (by simp only [kmax]; omega))) ?_) | (show RGl _ _ _ _ _ _ _ _ (⟨some 49, .binOp .rem _ _ _ _, _, _, _, _⟩ :: _) _ _; refine RGl.rdX (fun e hk => by (try dsimp only [bndR, ensR, oksR, fcutR, List.append_nil, List.nil_append, List.cons_append, List.append_assoc] at hk ⊢); exact ReadR.bin rfl rfl BinR.rem4) ?_) | (show RGl _ _ _ _ _ _ _ _ (_ :: _) _ _; first | refine RGl.rdA ?_ | refine RGl.rdX (fun e hk => by (try dsimp only [bndR, ensR, oksR, fcutR, List.append_nil, List.nil_append, List.cons_append, List.append_assoc] at hk ⊢); exact readB) ?_) | (show RGl _ _ _ _ _ _ _ _ (⟨_, .buildSlice _ _ _, _, _, _, _⟩ :: _) _ _; refine RGl.litA ?_) | (show RGl _ _ _ _ _ _ _ _ (⟨_, .call ⟨.builtin .append, _, _⟩, _, _, _, _⟩ :: _) _ _; refine RGl.appA ?_) | (refine RGl.fin (fun e hk => ?_); (try dsimp only [bndA, ensAR, oksA, List.append_nil, List.nil_append, List.cons_append, List.append_assoc] at hk ⊢); (repeat (obtain ⟨hk1, hk⟩ := hk))) | fail))
          | ((show WPc _ _ _ _ _ _ (.cond _ _ _) _; first | refine WPc.cT ?_ | refine WPc.cF ?_ | (refine WPc.cS (fun hc => ?_) (fun hc => ?_) <;> (try simp only [decide_eq_true_eq, decide_eq_false_iff_not, Bool.not_eq_true', Bool.not_eq_false', Bool.and_eq_true, Bool.or_eq_true, Bool.and_eq_false_iff, Bool.or_eq_false_iff, Bool.not_true, Bool.not_false, Int.not_lt, Int.not_le] at hc) <;> (try (exfalso; first | omega | exact clash1 hc (by assumption) | exact clash2 hc (by assumption) | exact hc trivial | exact hc (by assumption) | exact absurd hc (by assumption))))))
          | ((show WPl _ _ _ _ _ _ _ (⟨_, .call ⟨.builtin .append, _, _⟩, _, _, _, _⟩ :: _) _; refine WPl.app fun v hv => ?_))
          | ((show WPl _ _ _ _ _ _ _ (⟨_, .store _ (.tmp 50) _, _, _, _, _⟩ :: _) _; first | refine WPl.stEB (b := 60) ?_ | refine WPl.stRB (b := 60) ?_))
          | ((show WPl _ _ _ _ _ _ _ (⟨some 41, .binOp .add _ _ _ _, _, _, _, _⟩ :: _) _; refine WPl.rdX (ReadR.bin rfl rfl (BinR.addT hsize (by simp only [kmin]; omega) (by simp only [kmax]; omega))) ?_))
          | ((show WPl _ _ _ _ _ _ _ (⟨some 49, .binOp .rem _ _ _ _, _, _, _, _⟩ :: _) _; refine WPl.rdX (ReadR.bin rfl rfl BinR.rem4) ?_))
          | ((show WPl _ _ _ _ _ _ _ (⟨_, .makeSlice _ _ _, _, _, _, _⟩ :: _) _; refine WPl.mk fun v hv => ?_))
          | ((show WPl _ _ _ _ _ _ _ (_ :: _) _; first | refine WPl.rd ?_ | refine WPl.sk ?_ | refine WPl.rdB ?_))
          | ((show WPl _ _ _ _ _ _ _ (⟨_, .alloc _, _, _, _, _⟩ :: _) _; refine WPl.nw fun g => ?_))
          | ((show WPl _ _ _ _ _ _ _ (⟨_, .box _ _, _, _, _, _⟩ :: _) _; refine WPl.nw fun g => ?_))
          | ((show WPl _ _ _ _ _ _ _ (⟨_, .store _ _ _, _, _, _, _⟩ :: _) _; first | refine WPl.st1 ?_ | refine WPl.stA ?_ | refine WPl.stEB ?_ | refine WPl.stRB ?_))
          | ((show WPl _ _ _ _ _ _ _ (_ :: _) _; refine WPl.spl (fun hc => ?_) (fun hc => ?_) <;> (try simp only [decide_eq_true_eq, decide_eq_false_iff_not, Bool.not_eq_true', Bool.not_eq_false', Bool.and_eq_true, Bool.or_eq_true, Bool.and_eq_false_iff, Bool.or_eq_false_iff, Bool.not_true, Bool.not_false, Int.not_lt, Int.not_le] at hc) <;> (try (exfalso; first | omega | exact clash1 hc (by assumption) | exact clash2 hc (by assumption) | exact hc trivial | exact hc (by assumption) | exact absurd hc (by assumption)))))
          | fail)
        rw [block_set0, ← hq]
        exact WPq.rnd (v, i + 1, acc ++ (h.proto :: UInt8.ofNat q :: List.replicate (6 + 8 * q) 0)) ⟨by show i + 1 ≤ _; omega, hv, by dsimp only; rw [List.append_assoc]; exact hacc, by simp; omega⟩ (by show _ - (i + 1) < _; omega)
      · have hnil : ¬ (seg l1 0 12).drop (i + 1) = [] := by
          intro h0
          have := congrArg List.length h0
          simp at this
          omega
        rw [if_neg hnil] at hacc
        repeat' (first
          | refine WPl.nil ?_
          | refine WPq.then ?_
          | refine WPq.thenR ?_
          | refine WPq.thenE ?_
          | refine WPq.blockN ?_
          | refine WPq.blockR ?_
          | refine WPq.blockE ?_
          | refine WPq.blockO rfl ?_
          | refine WPc.seq ?_
          | refine WPc.block ?_
          | refine WPc.ret ?_
          | refine WPc.exit ?_
          | refine WPc.skip ?_
          | refine WPc.region ?_
          | ((show WPc _ _ _ _ _ _ (.region 17 _ true) _; refine WPc.drawn [([], [66, 67, 68, 69, 70]), ([], [65, 67, 69]), ([], [65, 66, 69]), ([1, 2], [65, 66, 67, 69]), ([], [65, 66, 67, 68]), ([1, 2, 3, 4], [65, 66, 67, 68, 69]), ([0, 1, 2, 3, 4, 5], [65, 66, 67, 68, 69, 70]), ([0, 1, 2, 3, 4, 5, 6], [65, 66, 67, 68, 69, 70, 71]), ([0, 1, 2, 3, 4, 5, 6, 7], [64, 65, 66, 67, 68, 69, 70, 71, 73]), ([0, 1, 2, 3, 4, 5, 6, 7], [11, 64, 65, 66, 67, 68, 69, 70, 71, 72]), ([0, 1, 2, 3, 4, 5, 6, 7, 8], [64, 65, 66, 67, 68, 69, 70, 71, 72, 73]), ([0, 1, 2, 3, 4, 5, 6, 7, 8, 9, 10], [11, 64, 65, 66, 67, 68, 69, 70, 71, 72, 73])] [(1, 3), (3, 5)] (Γx := []) (by exact takesA) (by repeat' (first | exact own_nil | refine own_cons (by first | exact bx_own | exact rowN_own | exact rfl) ?_ | fail)) (by kernel_rfl) (by kernel_rfl) ?_; dsimp only [prev0, List.length_nil, List.length_cons]))
          | ((show RGl _ _ _ _ _ _ _ _ _ _ _; first | (show RGl _ _ _ _ _ _ _ _ (⟨some 41, .binOp .add _ _ _ _, _, _, _, _⟩ :: _) _ _; refine RGl.rdX (fun e hk => by (try dsimp only [bndR, ensR, oksR, fcutR, List.append_nil, List.nil_append, List.cons_append, List.append_assoc] at hk ⊢); exact ReadR.bin rfl rfl (BinR.addT hsize (by simp only [kmin]; omega) (by simp only [kmax]; omega))) ?_) | (show RGl _ _ _ _ _ _ _ _ (⟨some 49, .binOp .rem _ _ _ _, _, _, _, _⟩ :: _) _ _; refine RGl.rdX (fun e hk => by (try dsimp only [bndR, ensR, oksR, fcutR, List.append_nil, List.nil_append, List.cons_append, List.append_assoc] at hk ⊢); exact ReadR.bin rfl rfl BinR.rem4) ?_) | (show RGl _ _ _ _ _ _ _ _ (_ :: _) _ _; first | refine RGl.rdA ?_ | refine RGl.rdX (fun e hk => by (try dsimp only [bndR, ensR, oksR, fcutR, List.append_nil, List.nil_append, List.cons_append, List.append_assoc] at hk ⊢); exact readB) ?_) | (show RGl _ _ _ _ _ _ _ _ (⟨_, .buildSlice _ _ _, _, _, _, _⟩ :: _) _ _; refine RGl.litA ?_) | (show RGl _ _ _ _ _ _ _ _ (⟨_, .call ⟨.builtin .append, _, _⟩, _, _, _, _⟩ :: _) _ _; refine RGl.appA ?_) | (refine RGl.fin (fun e hk => ?_); (try dsimp only [bndA, ensAR, oksA, List.append_nil, List.nil_append, List.cons_append, List.append_assoc] at hk ⊢); (repeat (obtain ⟨hk1, hk⟩ := hk))) | fail))
          | ((show WPc _ _ _ _ _ _ (.cond _ _ _) _; first | refine WPc.cT ?_ | refine WPc.cF ?_ | (refine WPc.cS (fun hc => ?_) (fun hc => ?_) <;> (try simp only [decide_eq_true_eq, decide_eq_false_iff_not, Bool.not_eq_true', Bool.not_eq_false', Bool.and_eq_true, Bool.or_eq_true, Bool.and_eq_false_iff, Bool.or_eq_false_iff, Bool.not_true, Bool.not_false, Int.not_lt, Int.not_le] at hc) <;> (try (exfalso; first | omega | exact clash1 hc (by assumption) | exact clash2 hc (by assumption) | exact hc trivial | exact hc (by assumption) | exact absurd hc (by assumption))))))
          | ((show WPl _ _ _ _ _ _ _ (⟨_, .call ⟨.builtin .append, _, _⟩, _, _, _, _⟩ :: _) _; refine WPl.app fun v hv => ?_))
          | ((show WPl _ _ _ _ _ _ _ (⟨_, .store _ (.tmp 50) _, _, _, _, _⟩ :: _) _; first | refine WPl.stEB (b := 60) ?_ | refine WPl.stRB (b := 60) ?_))
          | ((show WPl _ _ _ _ _ _ _ (⟨some 41, .binOp .add _ _ _ _, _, _, _, _⟩ :: _) _; refine WPl.rdX (ReadR.bin rfl rfl (BinR.addT hsize (by simp only [kmin]; omega) (by simp only [kmax]; omega))) ?_))
          | ((show WPl _ _ _ _ _ _ _ (⟨some 49, .binOp .rem _ _ _ _, _, _, _, _⟩ :: _) _; refine WPl.rdX (ReadR.bin rfl rfl BinR.rem4) ?_))
          | ((show WPl _ _ _ _ _ _ _ (⟨_, .makeSlice _ _ _, _, _, _, _⟩ :: _) _; refine WPl.mk fun v hv => ?_))
          | ((show WPl _ _ _ _ _ _ _ (_ :: _) _; first | refine WPl.rd ?_ | refine WPl.sk ?_ | refine WPl.rdB ?_))
          | ((show WPl _ _ _ _ _ _ _ (⟨_, .alloc _, _, _, _, _⟩ :: _) _; refine WPl.nw fun g => ?_))
          | ((show WPl _ _ _ _ _ _ _ (⟨_, .box _ _, _, _, _, _⟩ :: _) _; refine WPl.nw fun g => ?_))
          | ((show WPl _ _ _ _ _ _ _ (⟨_, .store _ _ _, _, _, _, _⟩ :: _) _; first | refine WPl.st1 ?_ | refine WPl.stA ?_ | refine WPl.stEB ?_ | refine WPl.stRB ?_))
          | ((show WPl _ _ _ _ _ _ _ (_ :: _) _; refine WPl.spl (fun hc => ?_) (fun hc => ?_) <;> (try simp only [decide_eq_true_eq, decide_eq_false_iff_not, Bool.not_eq_true', Bool.not_eq_false', Bool.and_eq_true, Bool.or_eq_true, Bool.and_eq_false_iff, Bool.or_eq_false_iff, Bool.not_true, Bool.not_false, Int.not_lt, Int.not_le] at hc) <;> (try (exfalso; first | omega | exact clash1 hc (by assumption) | exact clash2 hc (by assumption) | exact hc trivial | exact hc (by assumption) | exact absurd hc (by assumption)))))
          | fail)
        rw [block_set, ← hq]
        exact WPq.rnd (v, i + 1, acc ++ (60 :: UInt8.ofNat q :: List.replicate (6 + 8 * q) 0)) ⟨by show i + 1 ≤ _; omega, hv, by dsimp only; rw [List.append_assoc]; exact hacc, by simp; omega⟩ (by show _ - (i + 1) < _; omega)
    · have hie : i = (seg l1 0 12).length := by omega
      rw [hie, List.drop_length, show chain h.proto [] = [] from rfl, List.append_nil] at hacc
      have hDe : nbs [] ++ acc ++ l2.take 60 = D := by rw [hacc, hD, nbs_nil, List.nil_append]
      have hal2 : acc.length ≤ 400 := by omega
      rw [← hh17] at hw17
      obtain ⟨e0, he0⟩ : ∃ e, e = xwerr h17 D.length := ⟨_, rfl⟩
      obtain ⟨L0, hL0⟩ : ∃ L, L = xwL h17 D := ⟨_, rfl⟩
      rw [← he0, ← hL0, hh17] at hw17
      have hw : ∀ v, Triple Try.prog 35 #[ag (hdc ⟨h.six, 17, h.pos, h.src, h.dst, h.part, h.hops⟩), v] [rb v (nbs [] ++ acc ++ l2.take 60)] (RW L0 e0) := fun v => by rw [hDe]; exact hw17 v
      clear hw17
      by_cases he : e0 = 0
      · subst he
        have he1 : xwerr h17 D.length = 0 := he0.symm
        rw [xwL_zero he1] at hL0
        have hLl := hL1 he1
        rw [← hL0] at hLl
        have hrd1 := hrd1 he1
        rw [← hL0] at hrd1
        clear hrd hL1
        by_cases hz0 : (seg l1 0 12) = []
        · have hz0l : (seg l1 0 12).length = 0 := by rw [hz0]; rfl
          rw [if_pos hz0] at hrd1
          have hLs : (L0.set 6 h.proto).length = L0.length := List.length_set ..
          have hLe : L0.set 6 h.proto = L0.set 6 h.proto := rfl
          have hr : ∀ v, Triple Try.prog 36 #[v] [rb v (L0.set 6 h.proto)] (RVal (.tuple #[ag (hdc ⟨true, h.proto, ((40 + acc.length : Nat) : Int), h.src, h.dst, false, h.hops⟩), .int .i64 0])) := fun v => by
            have := xread_t v (L0.set 6 h.proto) (by simp only [List.length_set]; omega)
            simp only [sVal] at this
            rw [hLe, (hrd1.1 (by omega)).1, (hrd1.1 (by omega)).2, ← hLe, hh17] at this
            rw [hacc]; exact this
          clear hrd1 hL0 hh17 hLe
          have hpos : ((40 + acc.length : Nat) : Int) = 40 + (acc.length : Int) := by omega
          repeat' (first
            | refine WPl.nil ?_
            | refine WPq.then ?_
            | refine WPq.thenR ?_
            | refine WPq.thenE ?_
            | refine WPq.blockN ?_
            | refine WPq.blockR ?_
            | refine WPq.blockE ?_
            | refine WPq.blockO rfl ?_
            | refine WPc.seq ?_
            | refine WPc.block ?_
            | refine WPc.ret ?_
            | refine WPc.exit ?_
            | refine WPc.skip ?_
            | refine WPc.region ?_
            | ((show WPc _ _ _ _ _ _ (.region 17 _ true) _; refine WPc.drawn [([], [66, 67, 68, 69, 70]), ([], [65, 67, 69]), ([], [65, 66, 69]), ([1, 2], [65, 66, 67, 69]), ([], [65, 66, 67, 68]), ([1, 2, 3, 4], [65, 66, 67, 68, 69]), ([0, 1, 2, 3, 4, 5], [65, 66, 67, 68, 69, 70]), ([0, 1, 2, 3, 4, 5, 6], [65, 66, 67, 68, 69, 70, 71]), ([0, 1, 2, 3, 4, 5, 6, 7], [64, 65, 66, 67, 68, 69, 70, 71, 73]), ([0, 1, 2, 3, 4, 5, 6, 7], [11, 64, 65, 66, 67, 68, 69, 70, 71, 72]), ([0, 1, 2, 3, 4, 5, 6, 7, 8], [64, 65, 66, 67, 68, 69, 70, 71, 72, 73]), ([0, 1, 2, 3, 4, 5, 6, 7, 8, 9, 10], [11, 64, 65, 66, 67, 68, 69, 70, 71, 72, 73])] [(1, 3), (3, 5)] (Γx := []) (by exact takesA) (by repeat' (first | exact own_nil | refine own_cons (by first | exact bx_own | exact rowN_own | exact rfl) ?_ | fail)) (by kernel_rfl) (by kernel_rfl) ?_; dsimp only [prev0, List.length_nil, List.length_cons]))
            | ((show RGl _ _ _ _ _ _ _ _ _ _ _; first | (show RGl _ _ _ _ _ _ _ _ (⟨some 71, .call ⟨.value _, _, _⟩, _, _, _, _⟩ :: _) _ _; refine RGl.row2 (fun e hk => by (try dsimp only [bndR, ensR, oksR, fcutR, List.append_nil, List.nil_append, List.cons_append, List.append_assoc] at hk ⊢); refine OpT.call (hw _) evsA provsA (by kernel_rfl)) ?_) | (show RGl _ _ _ _ _ _ _ _ (⟨some 90, .call ⟨.value _, _, _⟩, _, _, _, _⟩ :: _) _ _; refine RGl.vl (fun e hk => by (try dsimp only [bndR, ensR, oksR, fcutR, List.append_nil, List.nil_append, List.cons_append, List.append_assoc] at hk ⊢); refine OpT.call (hr _) evsA provsA (by kernel_rfl)) ?_) | (show RGl _ _ _ _ _ _ _ _ (⟨some 135, .call ⟨.value _, _, _⟩, _, _, _, _⟩ :: _) _ _; refine RGl.vl (fun e hk => by (try dsimp only [bndR, ensR, oksR, fcutR, List.append_nil, List.nil_append, List.cons_append, List.append_assoc] at hk ⊢); refine OpT.call (hlv) evsA provsA (by kernel_rfl)) ?_) | (show RGl _ _ _ _ _ _ _ _ (⟨some 107, .binOp .eql _ _ _ _, _, _, _, _⟩ :: _) _ _; refine RGl.rdX (fun e hk => by (try dsimp only [bndR, ensR, oksR, fcutR, List.append_nil, List.nil_append, List.cons_append, List.append_assoc] at hk ⊢); exact ReadR.binE rfl rfl BinR.eql (congrArg Value.bool (decide_eq_true rfl))) ?_) | (show RGl _ _ _ _ _ _ _ _ (⟨some 112, .binOp .eql _ _ _ _, _, _, _, _⟩ :: _) _ _; refine RGl.rdX (fun e hk => by (try dsimp only [bndR, ensR, oksR, fcutR, List.append_nil, List.nil_append, List.cons_append, List.append_assoc] at hk ⊢); exact ReadR.binE rfl rfl BinR.eql (congrArg Value.bool (decide_eq_true rfl))) ?_) | (show RGl _ _ _ _ _ _ _ _ (⟨some 120, .binOp .eql _ _ _ _, _, _, _, _⟩ :: _) _ _; refine RGl.rdX (fun e hk => by (try dsimp only [bndR, ensR, oksR, fcutR, List.append_nil, List.nil_append, List.cons_append, List.append_assoc] at hk ⊢); exact ReadR.binE rfl rfl BinR.eql (congrArg Value.bool (decide_eq_true hpos))) ?_) | (show RGl _ _ _ _ _ _ _ _ (⟨some 127, .binOp .eql _ _ _ _, _, _, _, _⟩ :: _) _ _; refine RGl.rdX (fun e hk => by (try dsimp only [bndR, ensR, oksR, fcutR, List.append_nil, List.nil_append, List.cons_append, List.append_assoc] at hk ⊢); exact ReadR.binE rfl rfl (BinR.eqlA eqcA) (congrArg Value.bool (adEq (a := h.src) (b := h.src) rfl))) ?_) | (show RGl _ _ _ _ _ _ _ _ (_ :: _) _ _; first | refine RGl.rdA ?_ | refine RGl.rdX (fun e hk => by (try dsimp only [bndR, ensR, oksR, fcutR, List.append_nil, List.nil_append, List.cons_append, List.append_assoc] at hk ⊢); exact readB) ?_) | (show RGl _ _ _ _ _ _ _ _ (⟨_, .buildSlice _ _ _, _, _, _, _⟩ :: _) _ _; refine RGl.litA ?_) | (show RGl _ _ _ _ _ _ _ _ (⟨_, .call ⟨.builtin .append, _, _⟩, _, _, _, _⟩ :: _) _ _; refine RGl.appA ?_) | (refine RGl.fin (fun e hk => ?_); (try dsimp only [bndA, ensAR, oksA, List.append_nil, List.nil_append, List.cons_append, List.append_assoc] at hk ⊢); (repeat (obtain ⟨hk1, hk⟩ := hk))) | fail))
            | ((show WPc _ _ _ _ _ _ (.cond _ _ _) _; first | refine WPc.cT ?_ | refine WPc.cF ?_ | (refine WPc.cS (fun hc => ?_) (fun hc => ?_) <;> (try simp only [decide_eq_true_eq, decide_eq_false_iff_not, Bool.not_eq_true', Bool.not_eq_false', Bool.and_eq_true, Bool.or_eq_true, Bool.and_eq_false_iff, Bool.or_eq_false_iff, Bool.not_true, Bool.not_false, Int.not_lt, Int.not_le] at hc) <;> (try (exfalso; first | omega | exact clash1 hc (by assumption) | exact clash2 hc (by assumption) | exact hc trivial | exact hc (by assumption) | exact absurd hc (by assumption))))))
            | ((show WPl _ _ _ _ _ _ _ (⟨_, .store _ (.tmp 87) _, _, _, _, _⟩ :: _) _; first | refine WPl.stEB (b := 60) ?_ | refine WPl.stRB (b := 60) ?_))
            | ((show WPl _ _ _ _ _ _ _ (⟨some 71, .call ⟨.value _, _, _⟩, _, _, _, _⟩ :: _) _; refine WPl.cR2 (hw _) fun v hv => ?_))
            | ((show WPl _ _ _ _ _ _ _ (⟨some 90, .call ⟨.value _, _, _⟩, _, _, _, _⟩ :: _) _; refine WPl.cV (hr _) ?_))
            | ((show WPl _ _ _ _ _ _ _ (⟨some 135, .call ⟨.value _, _, _⟩, _, _, _, _⟩ :: _) _; refine WPl.cV (hlv) ?_))
            | ((show WPl _ _ _ _ _ _ _ (⟨some 107, .binOp .eql _ _ _ _, _, _, _, _⟩ :: _) _; refine WPl.rdX (ReadR.binE rfl rfl BinR.eql (congrArg Value.bool (decide_eq_true rfl))) ?_))
            | ((show WPl _ _ _ _ _ _ _ (⟨some 112, .binOp .eql _ _ _ _, _, _, _, _⟩ :: _) _; refine WPl.rdX (ReadR.binE rfl rfl BinR.eql (congrArg Value.bool (decide_eq_true rfl))) ?_))
            | ((show WPl _ _ _ _ _ _ _ (⟨some 120, .binOp .eql _ _ _ _, _, _, _, _⟩ :: _) _; refine WPl.rdX (ReadR.binE rfl rfl BinR.eql (congrArg Value.bool (decide_eq_true hpos))) ?_))
            | ((show WPl _ _ _ _ _ _ _ (⟨some 127, .binOp .eql _ _ _ _, _, _, _, _⟩ :: _) _; refine WPl.rdX (ReadR.binE rfl rfl (BinR.eqlA eqcA) (congrArg Value.bool (adEq (a := h.src) (b := h.src) rfl))) ?_))
            | ((show WPl _ _ _ _ _ _ _ (⟨_, .makeSlice _ _ _, _, _, _, _⟩ :: _) _; refine WPl.mk fun v hv => ?_))
            | ((show WPl _ _ _ _ _ _ _ (_ :: _) _; first | refine WPl.rd ?_ | refine WPl.sk ?_ | refine WPl.rdB ?_))
            | ((show WPl _ _ _ _ _ _ _ (⟨_, .alloc _, _, _, _, _⟩ :: _) _; refine WPl.nw fun g => ?_))
            | ((show WPl _ _ _ _ _ _ _ (⟨_, .box _ _, _, _, _, _⟩ :: _) _; refine WPl.nw fun g => ?_))
            | ((show WPl _ _ _ _ _ _ _ (⟨_, .store _ _ _, _, _, _, _⟩ :: _) _; first | refine WPl.st1 ?_ | refine WPl.stA ?_ | refine WPl.stEB ?_ | refine WPl.stRB ?_))
            | ((show WPl _ _ _ _ _ _ _ (_ :: _) _; refine WPl.spl (fun hc => ?_) (fun hc => ?_) <;> (try simp only [decide_eq_true_eq, decide_eq_false_iff_not, Bool.not_eq_true', Bool.not_eq_false', Bool.and_eq_true, Bool.or_eq_true, Bool.and_eq_false_iff, Bool.or_eq_false_iff, Bool.not_true, Bool.not_false, Int.not_lt, Int.not_le] at hc) <;> (try (exfalso; first | omega | exact clash1 hc (by assumption) | exact clash2 hc (by assumption) | exact hc trivial | exact hc (by assumption) | exact absurd hc (by assumption)))))
            | fail)
          all_goals try (first
            | exact WPq.dV
            | exact WPq.dR
            | exact WPq.dR2
            | exact WPq.dH
            | exact WPq.dBH
            | exact WPq.dT)
        · have hz0l : 0 < (seg l1 0 12).length := List.length_pos_iff.2 hz0
          rw [if_neg hz0] at hrd1
          have hLs : (L0.set 6 h.proto).length = L0.length := List.length_set ..
          have hLe : (L0.set 6 h.proto).set 6 60 = L0.set 6 60 := List.set_set ..
          by_cases h8 : (seg l1 0 12).length ≤ 8
          · skip
            have hr : ∀ v, Triple Try.prog 36 #[v] [rb v ((L0.set 6 h.proto).set 6 60)] (RVal (.tuple #[ag (hdc ⟨true, h.proto, ((40 + acc.length : Nat) : Int), h.src, h.dst, false, h.hops⟩), .int .i64 0])) := fun v => by
              have := xread_t v ((L0.set 6 h.proto).set 6 60) (by simp only [List.length_set]; omega)
              simp only [sVal] at this
              rw [hLe, (hrd1.1 (by omega)).1, (hrd1.1 (by omega)).2, ← hLe, hh17] at this
              rw [hacc]; exact this
            clear hrd1 hL0 hh17 hLe
            have hpos : ((40 + acc.length : Nat) : Int) = 40 + (acc.length : Int) := by omega
            repeat' (first
              | refine WPl.nil ?_
              | refine WPq.then ?_
              | refine WPq.thenR ?_
              | refine WPq.thenE ?_
              | refine WPq.blockN ?_
              | refine WPq.blockR ?_
              | refine WPq.blockE ?_
              | refine WPq.blockO rfl ?_
              | refine WPc.seq ?_
              | refine WPc.block ?_
              | refine WPc.ret ?_
              | refine WPc.exit ?_
              | refine WPc.skip ?_
              | refine WPc.region ?_
              | ((show WPc _ _ _ _ _ _ (.region 17 _ true) _; refine WPc.drawn [([], [66, 67, 68, 69, 70]), ([], [65, 67, 69]), ([], [65, 66, 69]), ([1, 2], [65, 66, 67, 69]), ([], [65, 66, 67, 68]), ([1, 2, 3, 4], [65, 66, 67, 68, 69]), ([0, 1, 2, 3, 4, 5], [65, 66, 67, 68, 69, 70]), ([0, 1, 2, 3, 4, 5, 6], [65, 66, 67, 68, 69, 70, 71]), ([0, 1, 2, 3, 4, 5, 6, 7], [64, 65, 66, 67, 68, 69, 70, 71, 73]), ([0, 1, 2, 3, 4, 5, 6, 7], [11, 64, 65, 66, 67, 68, 69, 70, 71, 72]), ([0, 1, 2, 3, 4, 5, 6, 7, 8], [64, 65, 66, 67, 68, 69, 70, 71, 72, 73]), ([0, 1, 2, 3, 4, 5, 6, 7, 8, 9, 10], [11, 64, 65, 66, 67, 68, 69, 70, 71, 72, 73])] [(1, 3), (3, 5)] (Γx := []) (by exact takesA) (by repeat' (first | exact own_nil | refine own_cons (by first | exact bx_own | exact rowN_own | exact rfl) ?_ | fail)) (by kernel_rfl) (by kernel_rfl) ?_; dsimp only [prev0, List.length_nil, List.length_cons]))
              | ((show RGl _ _ _ _ _ _ _ _ _ _ _; first | (show RGl _ _ _ _ _ _ _ _ (⟨some 71, .call ⟨.value _, _, _⟩, _, _, _, _⟩ :: _) _ _; refine RGl.row2 (fun e hk => by (try dsimp only [bndR, ensR, oksR, fcutR, List.append_nil, List.nil_append, List.cons_append, List.append_assoc] at hk ⊢); refine OpT.call (hw _) evsA provsA (by kernel_rfl)) ?_) | (show RGl _ _ _ _ _ _ _ _ (⟨some 90, .call ⟨.value _, _, _⟩, _, _, _, _⟩ :: _) _ _; refine RGl.vl (fun e hk => by (try dsimp only [bndR, ensR, oksR, fcutR, List.append_nil, List.nil_append, List.cons_append, List.append_assoc] at hk ⊢); refine OpT.call (hr _) evsA provsA (by kernel_rfl)) ?_) | (show RGl _ _ _ _ _ _ _ _ (⟨some 135, .call ⟨.value _, _, _⟩, _, _, _, _⟩ :: _) _ _; refine RGl.vl (fun e hk => by (try dsimp only [bndR, ensR, oksR, fcutR, List.append_nil, List.nil_append, List.cons_append, List.append_assoc] at hk ⊢); refine OpT.call (hlv) evsA provsA (by kernel_rfl)) ?_) | (show RGl _ _ _ _ _ _ _ _ (⟨some 107, .binOp .eql _ _ _ _, _, _, _, _⟩ :: _) _ _; refine RGl.rdX (fun e hk => by (try dsimp only [bndR, ensR, oksR, fcutR, List.append_nil, List.nil_append, List.cons_append, List.append_assoc] at hk ⊢); exact ReadR.binE rfl rfl BinR.eql (congrArg Value.bool (decide_eq_true rfl))) ?_) | (show RGl _ _ _ _ _ _ _ _ (⟨some 112, .binOp .eql _ _ _ _, _, _, _, _⟩ :: _) _ _; refine RGl.rdX (fun e hk => by (try dsimp only [bndR, ensR, oksR, fcutR, List.append_nil, List.nil_append, List.cons_append, List.append_assoc] at hk ⊢); exact ReadR.binE rfl rfl BinR.eql (congrArg Value.bool (decide_eq_true rfl))) ?_) | (show RGl _ _ _ _ _ _ _ _ (⟨some 120, .binOp .eql _ _ _ _, _, _, _, _⟩ :: _) _ _; refine RGl.rdX (fun e hk => by (try dsimp only [bndR, ensR, oksR, fcutR, List.append_nil, List.nil_append, List.cons_append, List.append_assoc] at hk ⊢); exact ReadR.binE rfl rfl BinR.eql (congrArg Value.bool (decide_eq_true hpos))) ?_) | (show RGl _ _ _ _ _ _ _ _ (⟨some 127, .binOp .eql _ _ _ _, _, _, _, _⟩ :: _) _ _; refine RGl.rdX (fun e hk => by (try dsimp only [bndR, ensR, oksR, fcutR, List.append_nil, List.nil_append, List.cons_append, List.append_assoc] at hk ⊢); exact ReadR.binE rfl rfl (BinR.eqlA eqcA) (congrArg Value.bool (adEq (a := h.src) (b := h.src) rfl))) ?_) | (show RGl _ _ _ _ _ _ _ _ (_ :: _) _ _; first | refine RGl.rdA ?_ | refine RGl.rdX (fun e hk => by (try dsimp only [bndR, ensR, oksR, fcutR, List.append_nil, List.nil_append, List.cons_append, List.append_assoc] at hk ⊢); exact readB) ?_) | (show RGl _ _ _ _ _ _ _ _ (⟨_, .buildSlice _ _ _, _, _, _, _⟩ :: _) _ _; refine RGl.litA ?_) | (show RGl _ _ _ _ _ _ _ _ (⟨_, .call ⟨.builtin .append, _, _⟩, _, _, _, _⟩ :: _) _ _; refine RGl.appA ?_) | (refine RGl.fin (fun e hk => ?_); (try dsimp only [bndA, ensAR, oksA, List.append_nil, List.nil_append, List.cons_append, List.append_assoc] at hk ⊢); (repeat (obtain ⟨hk1, hk⟩ := hk))) | fail))
              | ((show WPc _ _ _ _ _ _ (.cond _ _ _) _; first | refine WPc.cT ?_ | refine WPc.cF ?_ | (refine WPc.cS (fun hc => ?_) (fun hc => ?_) <;> (try simp only [decide_eq_true_eq, decide_eq_false_iff_not, Bool.not_eq_true', Bool.not_eq_false', Bool.and_eq_true, Bool.or_eq_true, Bool.and_eq_false_iff, Bool.or_eq_false_iff, Bool.not_true, Bool.not_false, Int.not_lt, Int.not_le] at hc) <;> (try (exfalso; first | omega | exact clash1 hc (by assumption) | exact clash2 hc (by assumption) | exact hc trivial | exact hc (by assumption) | exact absurd hc (by assumption))))))
              | ((show WPl _ _ _ _ _ _ _ (⟨_, .store _ (.tmp 87) _, _, _, _, _⟩ :: _) _; first | refine WPl.stEB (b := 60) ?_ | refine WPl.stRB (b := 60) ?_))
              | ((show WPl _ _ _ _ _ _ _ (⟨some 71, .call ⟨.value _, _, _⟩, _, _, _, _⟩ :: _) _; refine WPl.cR2 (hw _) fun v hv => ?_))
              | ((show WPl _ _ _ _ _ _ _ (⟨some 90, .call ⟨.value _, _, _⟩, _, _, _, _⟩ :: _) _; refine WPl.cV (hr _) ?_))
              | ((show WPl _ _ _ _ _ _ _ (⟨some 135, .call ⟨.value _, _, _⟩, _, _, _, _⟩ :: _) _; refine WPl.cV (hlv) ?_))
              | ((show WPl _ _ _ _ _ _ _ (⟨some 107, .binOp .eql _ _ _ _, _, _, _, _⟩ :: _) _; refine WPl.rdX (ReadR.binE rfl rfl BinR.eql (congrArg Value.bool (decide_eq_true rfl))) ?_))
              | ((show WPl _ _ _ _ _ _ _ (⟨some 112, .binOp .eql _ _ _ _, _, _, _, _⟩ :: _) _; refine WPl.rdX (ReadR.binE rfl rfl BinR.eql (congrArg Value.bool (decide_eq_true rfl))) ?_))
              | ((show WPl _ _ _ _ _ _ _ (⟨some 120, .binOp .eql _ _ _ _, _, _, _, _⟩ :: _) _; refine WPl.rdX (ReadR.binE rfl rfl BinR.eql (congrArg Value.bool (decide_eq_true hpos))) ?_))
              | ((show WPl _ _ _ _ _ _ _ (⟨some 127, .binOp .eql _ _ _ _, _, _, _, _⟩ :: _) _; refine WPl.rdX (ReadR.binE rfl rfl (BinR.eqlA eqcA) (congrArg Value.bool (adEq (a := h.src) (b := h.src) rfl))) ?_))
              | ((show WPl _ _ _ _ _ _ _ (⟨_, .makeSlice _ _ _, _, _, _, _⟩ :: _) _; refine WPl.mk fun v hv => ?_))
              | ((show WPl _ _ _ _ _ _ _ (_ :: _) _; first | refine WPl.rd ?_ | refine WPl.sk ?_ | refine WPl.rdB ?_))
              | ((show WPl _ _ _ _ _ _ _ (⟨_, .alloc _, _, _, _, _⟩ :: _) _; refine WPl.nw fun g => ?_))
              | ((show WPl _ _ _ _ _ _ _ (⟨_, .box _ _, _, _, _, _⟩ :: _) _; refine WPl.nw fun g => ?_))
              | ((show WPl _ _ _ _ _ _ _ (⟨_, .store _ _ _, _, _, _, _⟩ :: _) _; first | refine WPl.st1 ?_ | refine WPl.stA ?_ | refine WPl.stEB ?_ | refine WPl.stRB ?_))
              | ((show WPl _ _ _ _ _ _ _ (_ :: _) _; refine WPl.spl (fun hc => ?_) (fun hc => ?_) <;> (try simp only [decide_eq_true_eq, decide_eq_false_iff_not, Bool.not_eq_true', Bool.not_eq_false', Bool.and_eq_true, Bool.or_eq_true, Bool.and_eq_false_iff, Bool.or_eq_false_iff, Bool.not_true, Bool.not_false, Int.not_lt, Int.not_le] at hc) <;> (try (exfalso; first | omega | exact clash1 hc (by assumption) | exact clash2 hc (by assumption) | exact hc trivial | exact hc (by assumption) | exact absurd hc (by assumption)))))
              | fail)
            all_goals try (first
              | exact WPq.dV
              | exact WPq.dR
              | exact WPq.dR2
              | exact WPq.dH
              | exact WPq.dBH
              | exact WPq.dT)
          · skip
            have hr : ∀ v, Triple Try.prog 36 #[v] [rb v ((L0.set 6 h.proto).set 6 60)] (RVal (.tuple #[ag (hdc Hd.none), .int .i64 10])) := fun v => by
              have := xread_t v ((L0.set 6 h.proto).set 6 60) (by simp only [List.length_set]; omega)
              simp only [sVal] at this
              rwa [hLe, (hrd1.2 (by omega)).1, (hrd1.2 (by omega)).2, ← hLe] at this
            clear hrd1 hL0 hh17 hLe
            repeat' (first
              | refine WPl.nil ?_
              | refine WPq.then ?_
              | refine WPq.thenR ?_
              | refine WPq.thenE ?_
              | refine WPq.blockN ?_
              | refine WPq.blockR ?_
              | refine WPq.blockE ?_
              | refine WPq.blockO rfl ?_
              | refine WPc.seq ?_
              | refine WPc.block ?_
              | refine WPc.ret ?_
              | refine WPc.exit ?_
              | refine WPc.skip ?_
              | refine WPc.region ?_
              | ((show WPc _ _ _ _ _ _ (.region 17 _ true) _; refine WPc.drawn [([], [66, 67, 68, 69, 70]), ([], [65, 67, 69]), ([], [65, 66, 69]), ([1, 2], [65, 66, 67, 69]), ([], [65, 66, 67, 68]), ([1, 2, 3, 4], [65, 66, 67, 68, 69]), ([0, 1, 2, 3, 4, 5], [65, 66, 67, 68, 69, 70]), ([0, 1, 2, 3, 4, 5, 6], [65, 66, 67, 68, 69, 70, 71]), ([0, 1, 2, 3, 4, 5, 6, 7], [64, 65, 66, 67, 68, 69, 70, 71, 73]), ([0, 1, 2, 3, 4, 5, 6, 7], [11, 64, 65, 66, 67, 68, 69, 70, 71, 72]), ([0, 1, 2, 3, 4, 5, 6, 7, 8], [64, 65, 66, 67, 68, 69, 70, 71, 72, 73]), ([0, 1, 2, 3, 4, 5, 6, 7, 8, 9, 10], [11, 64, 65, 66, 67, 68, 69, 70, 71, 72, 73])] [(1, 3), (3, 5)] (Γx := []) (by exact takesA) (by repeat' (first | exact own_nil | refine own_cons (by first | exact bx_own | exact rowN_own | exact rfl) ?_ | fail)) (by kernel_rfl) (by kernel_rfl) ?_; dsimp only [prev0, List.length_nil, List.length_cons]))
              | ((show RGl _ _ _ _ _ _ _ _ _ _ _; first | (show RGl _ _ _ _ _ _ _ _ (⟨some 71, .call ⟨.value _, _, _⟩, _, _, _, _⟩ :: _) _ _; refine RGl.row2 (fun e hk => by (try dsimp only [bndR, ensR, oksR, fcutR, List.append_nil, List.nil_append, List.cons_append, List.append_assoc] at hk ⊢); refine OpT.call (hw _) evsA provsA (by kernel_rfl)) ?_) | (show RGl _ _ _ _ _ _ _ _ (⟨some 90, .call ⟨.value _, _, _⟩, _, _, _, _⟩ :: _) _ _; refine RGl.vl (fun e hk => by (try dsimp only [bndR, ensR, oksR, fcutR, List.append_nil, List.nil_append, List.cons_append, List.append_assoc] at hk ⊢); refine OpT.call (hr _) evsA provsA (by kernel_rfl)) ?_) | (show RGl _ _ _ _ _ _ _ _ (⟨some 104, .call ⟨.value _, _, _⟩, _, _, _, _⟩ :: _) _ _; refine RGl.vl (fun e hk => by (try dsimp only [bndR, ensR, oksR, fcutR, List.append_nil, List.nil_append, List.cons_append, List.append_assoc] at hk ⊢); refine OpT.call (hlv) evsA provsA (by kernel_rfl)) ?_) | (show RGl _ _ _ _ _ _ _ _ (⟨some 97, .binOp .eql _ _ _ _, _, _, _, _⟩ :: _) _ _; refine RGl.rdX (fun e hk => by (try dsimp only [bndR, ensR, oksR, fcutR, List.append_nil, List.nil_append, List.cons_append, List.append_assoc] at hk ⊢); exact ReadR.binE rfl rfl BinR.eql (congrArg Value.bool (decide_eq_true rfl))) ?_) | (show RGl _ _ _ _ _ _ _ _ (⟨some 101, .binOp .eql _ _ _ _, _, _, _, _⟩ :: _) _ _; refine RGl.rdX (fun e hk => by (try dsimp only [bndR, ensR, oksR, fcutR, List.append_nil, List.nil_append, List.cons_append, List.append_assoc] at hk ⊢); exact ReadR.binE rfl rfl (BinR.eqlA eqcA) (congrArg Value.bool (hdEq (a := Hd.none) (b := Hd.none) rfl))) ?_) | (show RGl _ _ _ _ _ _ _ _ (_ :: _) _ _; first | refine RGl.rdA ?_ | refine RGl.rdX (fun e hk => by (try dsimp only [bndR, ensR, oksR, fcutR, List.append_nil, List.nil_append, List.cons_append, List.append_assoc] at hk ⊢); exact readB) ?_) | (show RGl _ _ _ _ _ _ _ _ (⟨_, .buildSlice _ _ _, _, _, _, _⟩ :: _) _ _; refine RGl.litA ?_) | (show RGl _ _ _ _ _ _ _ _ (⟨_, .call ⟨.builtin .append, _, _⟩, _, _, _, _⟩ :: _) _ _; refine RGl.appA ?_) | (refine RGl.fin (fun e hk => ?_); (try dsimp only [bndA, ensAR, oksA, List.append_nil, List.nil_append, List.cons_append, List.append_assoc] at hk ⊢); (repeat (obtain ⟨hk1, hk⟩ := hk))) | fail))
              | ((show WPc _ _ _ _ _ _ (.cond _ _ _) _; first | refine WPc.cT ?_ | refine WPc.cF ?_ | (refine WPc.cS (fun hc => ?_) (fun hc => ?_) <;> (try simp only [decide_eq_true_eq, decide_eq_false_iff_not, Bool.not_eq_true', Bool.not_eq_false', Bool.and_eq_true, Bool.or_eq_true, Bool.and_eq_false_iff, Bool.or_eq_false_iff, Bool.not_true, Bool.not_false, Int.not_lt, Int.not_le] at hc) <;> (try (exfalso; first | omega | exact clash1 hc (by assumption) | exact clash2 hc (by assumption) | exact hc trivial | exact hc (by assumption) | exact absurd hc (by assumption))))))
              | ((show WPl _ _ _ _ _ _ _ (⟨_, .store _ (.tmp 87) _, _, _, _, _⟩ :: _) _; first | refine WPl.stEB (b := 60) ?_ | refine WPl.stRB (b := 60) ?_))
              | ((show WPl _ _ _ _ _ _ _ (⟨some 71, .call ⟨.value _, _, _⟩, _, _, _, _⟩ :: _) _; refine WPl.cR2 (hw _) fun v hv => ?_))
              | ((show WPl _ _ _ _ _ _ _ (⟨some 90, .call ⟨.value _, _, _⟩, _, _, _, _⟩ :: _) _; refine WPl.cV (hr _) ?_))
              | ((show WPl _ _ _ _ _ _ _ (⟨some 104, .call ⟨.value _, _, _⟩, _, _, _, _⟩ :: _) _; refine WPl.cV (hlv) ?_))
              | ((show WPl _ _ _ _ _ _ _ (⟨some 97, .binOp .eql _ _ _ _, _, _, _, _⟩ :: _) _; refine WPl.rdX (ReadR.binE rfl rfl BinR.eql (congrArg Value.bool (decide_eq_true rfl))) ?_))
              | ((show WPl _ _ _ _ _ _ _ (⟨some 101, .binOp .eql _ _ _ _, _, _, _, _⟩ :: _) _; refine WPl.rdX (ReadR.binE rfl rfl (BinR.eqlA eqcA) (congrArg Value.bool (hdEq (a := Hd.none) (b := Hd.none) rfl))) ?_))
              | ((show WPl _ _ _ _ _ _ _ (⟨_, .makeSlice _ _ _, _, _, _, _⟩ :: _) _; refine WPl.mk fun v hv => ?_))
              | ((show WPl _ _ _ _ _ _ _ (_ :: _) _; first | refine WPl.rd ?_ | refine WPl.sk ?_ | refine WPl.rdB ?_))
              | ((show WPl _ _ _ _ _ _ _ (⟨_, .alloc _, _, _, _, _⟩ :: _) _; refine WPl.nw fun g => ?_))
              | ((show WPl _ _ _ _ _ _ _ (⟨_, .box _ _, _, _, _, _⟩ :: _) _; refine WPl.nw fun g => ?_))
              | ((show WPl _ _ _ _ _ _ _ (⟨_, .store _ _ _, _, _, _, _⟩ :: _) _; first | refine WPl.st1 ?_ | refine WPl.stA ?_ | refine WPl.stEB ?_ | refine WPl.stRB ?_))
              | ((show WPl _ _ _ _ _ _ _ (_ :: _) _; refine WPl.spl (fun hc => ?_) (fun hc => ?_) <;> (try simp only [decide_eq_true_eq, decide_eq_false_iff_not, Bool.not_eq_true', Bool.not_eq_false', Bool.and_eq_true, Bool.or_eq_true, Bool.and_eq_false_iff, Bool.or_eq_false_iff, Bool.not_true, Bool.not_false, Int.not_lt, Int.not_le] at hc) <;> (try (exfalso; first | omega | exact clash1 hc (by assumption) | exact clash2 hc (by assumption) | exact hc trivial | exact hc (by assumption) | exact absurd hc (by assumption)))))
              | fail)
            all_goals try (first
              | exact WPq.dV
              | exact WPq.dR
              | exact WPq.dR2
              | exact WPq.dH
              | exact WPq.dBH
              | exact WPq.dT)
      · skip
        repeat' (first
          | refine WPl.nil ?_
          | refine WPq.then ?_
          | refine WPq.thenR ?_
          | refine WPq.thenE ?_
          | refine WPq.blockN ?_
          | refine WPq.blockR ?_
          | refine WPq.blockE ?_
          | refine WPq.blockO rfl ?_
          | refine WPc.seq ?_
          | refine WPc.block ?_
          | refine WPc.ret ?_
          | refine WPc.exit ?_
          | refine WPc.skip ?_
          | refine WPc.region ?_
          | ((show WPc _ _ _ _ _ _ (.region 17 _ true) _; refine WPc.drawn [([], [66, 67, 68, 69, 70]), ([], [65, 67, 69]), ([], [65, 66, 69]), ([1, 2], [65, 66, 67, 69]), ([], [65, 66, 67, 68]), ([1, 2, 3, 4], [65, 66, 67, 68, 69]), ([0, 1, 2, 3, 4, 5], [65, 66, 67, 68, 69, 70]), ([0, 1, 2, 3, 4, 5, 6], [65, 66, 67, 68, 69, 70, 71]), ([0, 1, 2, 3, 4, 5, 6, 7], [64, 65, 66, 67, 68, 69, 70, 71, 73]), ([0, 1, 2, 3, 4, 5, 6, 7], [11, 64, 65, 66, 67, 68, 69, 70, 71, 72]), ([0, 1, 2, 3, 4, 5, 6, 7, 8], [64, 65, 66, 67, 68, 69, 70, 71, 72, 73]), ([0, 1, 2, 3, 4, 5, 6, 7, 8, 9, 10], [11, 64, 65, 66, 67, 68, 69, 70, 71, 72, 73])] [(1, 3), (3, 5)] (Γx := []) (by exact takesA) (by repeat' (first | exact own_nil | refine own_cons (by first | exact bx_own | exact rowN_own | exact rfl) ?_ | fail)) (by kernel_rfl) (by kernel_rfl) ?_; dsimp only [prev0, List.length_nil, List.length_cons]))
          | ((show RGl _ _ _ _ _ _ _ _ _ _ _; first | (show RGl _ _ _ _ _ _ _ _ (⟨some 71, .call ⟨.value _, _, _⟩, _, _, _, _⟩ :: _) _ _; refine RGl.row2 (fun e hk => by (try dsimp only [bndR, ensR, oksR, fcutR, List.append_nil, List.nil_append, List.cons_append, List.append_assoc] at hk ⊢); refine OpT.call (hw _) evsA provsA (by kernel_rfl)) ?_) | (show RGl _ _ _ _ _ _ _ _ (⟨some 76, .call ⟨.value _, _, _⟩, _, _, _, _⟩ :: _) _ _; refine RGl.vl (fun e hk => by (try dsimp only [bndR, ensR, oksR, fcutR, List.append_nil, List.nil_append, List.cons_append, List.append_assoc] at hk ⊢); refine OpT.call (hlv) evsA provsA (by kernel_rfl)) ?_) | (show RGl _ _ _ _ _ _ _ _ (_ :: _) _ _; first | refine RGl.rdA ?_ | refine RGl.rdX (fun e hk => by (try dsimp only [bndR, ensR, oksR, fcutR, List.append_nil, List.nil_append, List.cons_append, List.append_assoc] at hk ⊢); exact readB) ?_) | (show RGl _ _ _ _ _ _ _ _ (⟨_, .buildSlice _ _ _, _, _, _, _⟩ :: _) _ _; refine RGl.litA ?_) | (show RGl _ _ _ _ _ _ _ _ (⟨_, .call ⟨.builtin .append, _, _⟩, _, _, _, _⟩ :: _) _ _; refine RGl.appA ?_) | (refine RGl.fin (fun e hk => ?_); (try dsimp only [bndA, ensAR, oksA, List.append_nil, List.nil_append, List.cons_append, List.append_assoc] at hk ⊢); (repeat (obtain ⟨hk1, hk⟩ := hk))) | fail))
          | ((show WPc _ _ _ _ _ _ (.cond _ _ _) _; first | refine WPc.cT ?_ | refine WPc.cF ?_ | (refine WPc.cS (fun hc => ?_) (fun hc => ?_) <;> (try simp only [decide_eq_true_eq, decide_eq_false_iff_not, Bool.not_eq_true', Bool.not_eq_false', Bool.and_eq_true, Bool.or_eq_true, Bool.and_eq_false_iff, Bool.or_eq_false_iff, Bool.not_true, Bool.not_false, Int.not_lt, Int.not_le] at hc) <;> (try (exfalso; first | omega | exact clash1 hc (by assumption) | exact clash2 hc (by assumption) | exact hc trivial | exact hc (by assumption) | exact absurd hc (by assumption))))))
          | ((show WPl _ _ _ _ _ _ _ (⟨some 71, .call ⟨.value _, _, _⟩, _, _, _, _⟩ :: _) _; refine WPl.cR2 (hw _) fun v hv => ?_))
          | ((show WPl _ _ _ _ _ _ _ (⟨some 76, .call ⟨.value _, _, _⟩, _, _, _, _⟩ :: _) _; refine WPl.cV (hlv) ?_))
          | ((show WPl _ _ _ _ _ _ _ (⟨_, .makeSlice _ _ _, _, _, _, _⟩ :: _) _; refine WPl.mk fun v hv => ?_))
          | ((show WPl _ _ _ _ _ _ _ (_ :: _) _; first | refine WPl.rd ?_ | refine WPl.sk ?_ | refine WPl.rdB ?_))
          | ((show WPl _ _ _ _ _ _ _ (⟨_, .alloc _, _, _, _, _⟩ :: _) _; refine WPl.nw fun g => ?_))
          | ((show WPl _ _ _ _ _ _ _ (⟨_, .box _ _, _, _, _, _⟩ :: _) _; refine WPl.nw fun g => ?_))
          | ((show WPl _ _ _ _ _ _ _ (⟨_, .store _ _ _, _, _, _, _⟩ :: _) _; first | refine WPl.st1 ?_ | refine WPl.stA ?_ | refine WPl.stEB ?_ | refine WPl.stRB ?_))
          | ((show WPl _ _ _ _ _ _ _ (_ :: _) _; refine WPl.spl (fun hc => ?_) (fun hc => ?_) <;> (try simp only [decide_eq_true_eq, decide_eq_false_iff_not, Bool.not_eq_true', Bool.not_eq_false', Bool.and_eq_true, Bool.or_eq_true, Bool.and_eq_false_iff, Bool.or_eq_false_iff, Bool.not_true, Bool.not_false, Int.not_lt, Int.not_le] at hc) <;> (try (exfalso; first | omega | exact clash1 hc (by assumption) | exact clash2 hc (by assumption) | exact hc trivial | exact hc (by assumption) | exact absurd hc (by assumption)))))
          | fail)
        all_goals try (first
          | exact WPq.dV
          | exact WPq.dR
          | exact WPq.dR2
          | exact WPq.dH
          | exact WPq.dBH
          | exact WPq.dT)
theorem ipsixPassed_t (h : Hd) (v1 v2 : Value) (l1 l2 : List UInt8) : Triple Try.prog 7 #[ag (hdc h), v1, v2] [rb v1 l1, rb v2 l2] (RVal (.bool true)) := by
  by_cases hz : l1.length ≤ 12
  · exact ipsixPassed_a h v1 v2 l1 l2 hz
  · exact ipsixPassed_b h v1 v2 l1 l2 (by omega)
end Go.Proofs.Yteofjhjhaaafjaa
