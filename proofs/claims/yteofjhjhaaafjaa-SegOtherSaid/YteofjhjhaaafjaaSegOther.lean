/- The statement SegOther: it returns true. -/
import Derived.Test.YteofjhjhaaafjaaSegL
namespace Go.Proofs.Yteofjhjhaaafjaa
open Go.RowKit
set_option linter.unusedSimpArgs false
set_option linter.unusedVariables false
set_option maxRecDepth 20000
set_option maxHeartbeats 400000
attribute [local irreducible] WPc WPl WPq ReadR OpT BinR HasS bx rdN rowN Take Takes Prov Triple ResF BuildP Done ag Int.decLt Int.decLe Int.instDecidableEq

theorem seg_other {h : Hd} {s : Sg} {d : List UInt8} (he : swE h s d.length = 0) (hs1 : s.src < 65536) (hs2 : s.dst < 65536) (hz : s.zero = false) (c : UInt8) (h' : Hd) (h1 : h'.six = h.six) (h2 : h'.proto = h.proto) (h3 : h'.src = h.src)
    (h4 : h'.dst.six = h.dst.six) (h5 : h'.dst.b = h.dst.b.set 15 c) : (c = h.dst.b.getD 15 0 ∧ sgE h' (swL h s d) = 0) ∨ (¬ c = h.dst.b.getD 15 0 ∧ sgE h' (swL h s d) = 5) := by
  obtain ⟨n, hn, hn2, hc, hE, hp⟩ := swL_read he hs1 hs2 hz
  have l1 := h.src.len
  have l2 := h.dst.len
  have key : ∃ k m, k < (psu h (swL h s d).length).length ∧ m = (psu h (swL h s d).length).getD k 0 ∧ psu h' (swL h s d).length = (psu h (swL h s d).length).set k c ∧ m = h.dst.b.getD 15 0 := by
    have hb : h'.dst.bytes = (if h.dst.six then h.dst.b.set 15 c else seg (h.dst.b.set 15 c) 12 4) := by unfold Adr.bytes; rw [h4, h5]
    have hd : ∃ j, j < h.dst.bytes.length ∧ h'.dst.bytes = h.dst.bytes.set j c ∧ h.dst.bytes.getD j 0 = h.dst.b.getD 15 0 := by
      cases h6 : h.dst.six with
      | true =>
        rw [h6, if_pos rfl] at hb
        have : h.dst.bytes = h.dst.b := by unfold Adr.bytes; rw [h6, if_pos rfl]
        exact ⟨15, by rw [this]; omega, by rw [hb, this], by rw [this]⟩
      | false =>
        rw [h6, if_neg (by decide)] at hb
        have : h.dst.bytes = seg h.dst.b 12 4 := by unfold Adr.bytes; rw [h6, if_neg (by decide)]
        refine ⟨3, by rw [this, seg_len]; omega, ?_, ?_⟩
        · rw [hb, this]; unfold seg; rw [List.drop_set, if_neg (by omega), List.take_set]
        · rw [this]; simp [seg, List.getD_eq_getElem?_getD, List.getElem?_take, List.getElem?_drop]
    obtain ⟨j, hj1, hj2, hj3⟩ := hd
    refine ⟨h.src.bytes.length + j, _, ?_, rfl, ?_, ?_⟩
    · unfold psu; split <;> simp <;> omega
    · unfold psu
      rw [h1, h2, h3, hj2]
      cases h.six with
      | true => simp only [if_true, List.flatten_cons, List.flatten_nil, List.append_nil, List.append_assoc]; rw [← set_app, List.set_append_left _ _ hj1]
      | false => simp only [Bool.false_eq_true, if_false, List.flatten_cons, List.flatten_nil, List.append_nil, List.append_assoc]; rw [← set_app, List.set_append_left _ _ hj1]
    · rw [← hj3]
      unfold psu
      have hlt : h.src.bytes.length + j < (h.src.bytes ++ h.dst.bytes).length := by simp; omega
      cases h.six with
      | true => simp only [if_true, List.flatten_cons, List.flatten_nil, List.append_nil, List.append_assoc]; rw [getD_app, List.getD_eq_getElem?_getD, List.getElem?_append_left hj1, ← List.getD_eq_getElem?_getD]
      | false => simp only [Bool.false_eq_true, if_false, List.flatten_cons, List.flatten_nil, List.append_nil, List.append_assoc]; rw [getD_app, List.getD_eq_getElem?_getD, List.getElem?_append_left hj1, ← List.getD_eq_getElem?_getD]
  obtain ⟨k, m, hk, hm, hps, hm2⟩ := key
  have hE := hE h' h2
  by_cases hcc : c = h.dst.b.getD 15 0
  · refine .inl ⟨hcc, ?_⟩
    have hse : psu h' (swL h s d).length = psu h (swL h s d).length := by
      rw [hps, hcc, ← hm2, hm]
      apply List.ext_getElem (by simp)
      intro i i1 i2
      rw [List.getElem_set]
      split
      · rename_i e; subst e; rw [List.getD_eq_getElem?_getD, List.getElem?_eq_getElem i2]; rfl
      · rfl
    have hg : sgood h' (swL h s d) = true := by unfold sgood; rw [hse]; exact decide_eq_true hc
    unfold sgE
    rw [hE, hg, if_pos rfl, if_pos rfl, hp]; rfl
  · refine .inr ⟨hcc, ?_⟩
    have hg : sgood h' (swL h s d) = false := by
      unfold sgood
      rw [hps, ← List.set_append_left _ _ hk]
      exact decide_eq_false (csum_set (by rw [List.length_append]; omega) hc (by rw [List.getD_eq_getElem?_getD, List.getElem?_append_left hk, ← List.getD_eq_getElem?_getD, ← hm, hm2]; exact hcc))
    unfold sgE
    rw [hE, hg]; simp
attribute [local irreducible] swL sgR sgE swE
theorem segOther_t (h : Hd) (s : Sg) (by_ : UInt8) (hs1 : s.src < 65536) (hs2 : s.dst < 65536) : Triple Try.prog 14 #[ag (hdc h), ag (sgc s), .int .u8 ((by_.toNat : Nat) : Int)] [] (RVal (.bool true)) := by
  have l1 := h.src.len
  have l2 := h.dst.len
  obtain ⟨z, hz⟩ : ∃ z : Sg, z = ⟨s.src, s.dst, s.flags, s.sumAt, false, s.data⟩ := ⟨_, rfl⟩
  have hzz : z.zero = false := by rw [hz]
  have hz1 : z.src < 65536 := by rw [hz]; exact hs1
  have hz2 : z.dst < 65536 := by rw [hz]; exact hs2
  have h1 := fun v => swrite_t h z v [1, 2, 3] (by decide) hz1 hz2
  have h3 := lives15_t
  by_cases he : swE h z ([1, 2, 3] : List UInt8).length = 0
  · obtain ⟨n, hn, hn2, _, _, _⟩ := swL_read he hz1 hz2 hzz
    have hso := seg_other he hz1 hz2 hzz (h.dst.b.getD 15 0 + by_) ⟨h.six, h.proto, h.pos, h.src, ⟨h.dst.six, h.dst.b.set 15 (h.dst.b.getD 15 0 + by_), by rw [List.length_set]; exact l2⟩, h.part, h.hops⟩ rfl rfl rfl rfl rfl
    have h2 := fun v => sread_t ⟨h.six, h.proto, h.pos, h.src, ⟨h.dst.six, h.dst.b.set 15 (h.dst.b.getD 15 0 + by_), by rw [List.length_set]; exact l2⟩, h.part, h.hops⟩ v (swL h z [1, 2, 3]) (by rw [hn]; simp; omega)
    simp only [gVal] at h2
    obtain ⟨c, hc⟩ : ∃ c, c = sgE ⟨h.six, h.proto, h.pos, h.src, ⟨h.dst.six, h.dst.b.set 15 (h.dst.b.getD 15 0 + by_), by rw [List.length_set]; exact l2⟩, h.part, h.hops⟩ (swL h z [1, 2, 3]) := ⟨_, rfl⟩
    obtain ⟨X, hX⟩ : ∃ X, X = sgR ⟨h.six, h.proto, h.pos, h.src, ⟨h.dst.six, h.dst.b.set 15 (h.dst.b.getD 15 0 + by_), by rw [List.length_set]; exact l2⟩, h.part, h.hops⟩ (swL h z [1, 2, 3]) := ⟨_, rfl⟩
    rw [← hc] at hso
    rw [← hX, ← hc] at h2
    obtain ⟨L, hL⟩ : ∃ L, L = swL h z [1, 2, 3] := ⟨_, rfl⟩
    rw [← hL] at h2
    rw [he, ← hL, hz] at h1
    rw [u8_add_eq] at hso
    clear hX hc hL he hn hz
    have hl3 : (h.dst.b.set 15 (h.dst.b.getD 15 0 + by_)).length = 16 := by rw [List.length_set]; exact l2
    rcases hso with ⟨hb, rfl⟩ | ⟨hb, rfl⟩
    · skip
      refine Triple.enter Try.func14 rfl Try.ntmps14 rfl (fun W => ?_)
      dsimp only [argsF, Nat.reduceAdd]
      repeat' (first
        | refine WPl.nil ?_
        | refine WPq.then ?_
        | refine WPq.thenR ?_
        | refine WPq.thenE ?_
        | refine WPq.blockN ?_
        | refine WPq.blockR ?_
        | refine WPq.blockE ?_
        | refine WPq.blockO rfl ?_
        | refine WPc.seq ?_
        | refine WPc.block ?_
        | refine WPc.ret ?_
        | refine WPc.exit ?_
        | refine WPc.skip ?_
        | refine WPc.region ?_
        | ((show WPc _ _ _ _ _ _ (.cond _ _ _) _; first | refine WPc.cT ?_ | refine WPc.cF ?_ | (refine WPc.cS (fun hc => ?_) (fun hc => ?_) <;> (try simp only [decide_eq_true_eq, decide_eq_false_iff_not, Bool.not_eq_true', Bool.not_eq_false', Bool.and_eq_true, Bool.or_eq_true, Bool.and_eq_false_iff, Bool.or_eq_false_iff, Bool.not_true, Bool.not_false, Int.not_lt, Int.not_le] at hc) <;> (try (exfalso; first | omega | exact clash1 hc (by assumption) | exact clash2 hc (by assumption) | exact hc trivial | exact hc (by assumption) | exact absurd hc (by assumption))))))
        | ((show WPl _ _ _ _ _ _ _ (⟨_, .buildSlice _ _ _, _, _, _, _⟩ :: _) _; refine WPl.lit fun v hv => ?_))
        | ((show WPl _ _ _ _ _ _ _ (⟨some 16, .call ⟨.value _, _, _⟩, _, _, _, _⟩ :: _) _; refine WPl.cR2 (h1 _) fun v hv => ?_))
        | ((show WPl _ _ _ _ _ _ _ (⟨some 21, .call ⟨.value _, _, _⟩, _, _, _, _⟩ :: _) _; refine WPl.cV (h3) ?_))
        | ((show WPl _ _ _ _ _ _ _ (⟨some 51, .call ⟨.value _, _, _⟩, _, _, _, _⟩ :: _) _; refine WPl.cV (h3) ?_))
        | ((show WPl _ _ _ _ _ _ _ (⟨some 34, .call ⟨.value _, _, _⟩, _, _, _, _⟩ :: _) _; refine WPl.cV (h2 _) ?_))
        | ((show WPl _ _ _ _ _ _ _ (⟨some 27, .binOp .add _ _ _ _, _, _, _, _⟩ :: _) _; refine WPl.rdX (ReadR.bin rfl rfl BinR.addB) ?_))
        | ((show WPl _ _ _ _ _ _ _ (⟨some 38, .binOp .eql _ _ _ _, _, _, _, _⟩ :: _) _; refine WPl.rdX (ReadR.binE rfl rfl BinR.eql (congrArg Value.bool (decide_eq_true rfl))) ?_))
        | ((show WPl _ _ _ _ _ _ _ (⟨some 40, .binOp .eql _ _ _ _, _, _, _, _⟩ :: _) _; refine WPl.rdX (ReadR.binE rfl rfl BinR.eql (congrArg Value.bool (decide_eq_true hb))) ?_))
        | ((show WPl _ _ _ _ _ _ _ (⟨some 41, .binOp .eql _ _ _ _, _, _, _, _⟩ :: _) _; refine WPl.rdX (ReadR.binE rfl rfl (BinR.eqlB (by kernel_rfl)) (congrArg Value.bool (a₁ := (true == true)) rfl)) ?_))
        | ((show WPl _ _ _ _ _ _ _ (⟨some 44, .binOp .eql _ _ _ _, _, _, _, _⟩ :: _) _; refine WPl.rdX (ReadR.binE rfl rfl BinR.eql (congrArg Value.bool (decide_eq_true rfl))) ?_))
        | ((show WPl _ _ _ _ _ _ _ (_ :: _) _; first | refine WPl.rd ?_ | refine WPl.sk ?_ | refine WPl.rdB ?_))
        | ((show WPl _ _ _ _ _ _ _ (⟨_, .alloc _, _, _, _, _⟩ :: _) _; refine WPl.nw fun g => ?_))
        | ((show WPl _ _ _ _ _ _ _ (⟨_, .box _ _, _, _, _, _⟩ :: _) _; refine WPl.nw fun g => ?_))
        | ((show WPl _ _ _ _ _ _ _ (⟨_, .store _ _ _, _, _, _, _⟩ :: _) _; first | refine WPl.st1 ?_ | refine WPl.stA ?_ | refine WPl.stEB ?_ | refine WPl.stRB ?_))
        | ((show WPl _ _ _ _ _ _ _ (_ :: _) _; refine WPl.spl (fun hc => ?_) (fun hc => ?_) <;> (try simp only [decide_eq_true_eq, decide_eq_false_iff_not, Bool.not_eq_true', Bool.not_eq_false', Bool.and_eq_true, Bool.or_eq_true, Bool.and_eq_false_iff, Bool.or_eq_false_iff, Bool.not_true, Bool.not_false, Int.not_lt, Int.not_le] at hc) <;> (try (exfalso; first | omega | exact clash1 hc (by assumption) | exact clash2 hc (by assumption) | exact hc trivial | exact hc (by assumption) | exact absurd hc (by assumption)))))
        | fail)
      all_goals try (first
        | exact WPq.dV
        | exact WPq.dR
        | exact WPq.dR2
        | exact WPq.dH
        | exact WPq.dBH
        | exact WPq.dT)
    · skip
      refine Triple.enter Try.func14 rfl Try.ntmps14 rfl (fun W => ?_)
      dsimp only [argsF, Nat.reduceAdd]
      repeat' (first
        | refine WPl.nil ?_
        | refine WPq.then ?_
        | refine WPq.thenR ?_
        | refine WPq.thenE ?_
        | refine WPq.blockN ?_
        | refine WPq.blockR ?_
        | refine WPq.blockE ?_
        | refine WPq.blockO rfl ?_
        | refine WPc.seq ?_
        | refine WPc.block ?_
        | refine WPc.ret ?_
        | refine WPc.exit ?_
        | refine WPc.skip ?_
        | refine WPc.region ?_
        | ((show WPc _ _ _ _ _ _ (.cond _ _ _) _; first | refine WPc.cT ?_ | refine WPc.cF ?_ | (refine WPc.cS (fun hc => ?_) (fun hc => ?_) <;> (try simp only [decide_eq_true_eq, decide_eq_false_iff_not, Bool.not_eq_true', Bool.not_eq_false', Bool.and_eq_true, Bool.or_eq_true, Bool.and_eq_false_iff, Bool.or_eq_false_iff, Bool.not_true, Bool.not_false, Int.not_lt, Int.not_le] at hc) <;> (try (exfalso; first | omega | exact clash1 hc (by assumption) | exact clash2 hc (by assumption) | exact hc trivial | exact hc (by assumption) | exact absurd hc (by assumption))))))
        | ((show WPl _ _ _ _ _ _ _ (⟨_, .buildSlice _ _ _, _, _, _, _⟩ :: _) _; refine WPl.lit fun v hv => ?_))
        | ((show WPl _ _ _ _ _ _ _ (⟨some 16, .call ⟨.value _, _, _⟩, _, _, _, _⟩ :: _) _; refine WPl.cR2 (h1 _) fun v hv => ?_))
        | ((show WPl _ _ _ _ _ _ _ (⟨some 21, .call ⟨.value _, _, _⟩, _, _, _, _⟩ :: _) _; refine WPl.cV (h3) ?_))
        | ((show WPl _ _ _ _ _ _ _ (⟨some 51, .call ⟨.value _, _, _⟩, _, _, _, _⟩ :: _) _; refine WPl.cV (h3) ?_))
        | ((show WPl _ _ _ _ _ _ _ (⟨some 34, .call ⟨.value _, _, _⟩, _, _, _, _⟩ :: _) _; refine WPl.cV (h2 _) ?_))
        | ((show WPl _ _ _ _ _ _ _ (⟨some 27, .binOp .add _ _ _ _, _, _, _, _⟩ :: _) _; refine WPl.rdX (ReadR.bin rfl rfl BinR.addB) ?_))
        | ((show WPl _ _ _ _ _ _ _ (⟨some 38, .binOp .eql _ _ _ _, _, _, _, _⟩ :: _) _; refine WPl.rdX (ReadR.binE rfl rfl BinR.eql (congrArg Value.bool (decide_eq_false (by omega)))) ?_))
        | ((show WPl _ _ _ _ _ _ _ (⟨some 40, .binOp .eql _ _ _ _, _, _, _, _⟩ :: _) _; refine WPl.rdX (ReadR.binE rfl rfl BinR.eql (congrArg Value.bool (decide_eq_false hb))) ?_))
        | ((show WPl _ _ _ _ _ _ _ (⟨some 41, .binOp .eql _ _ _ _, _, _, _, _⟩ :: _) _; refine WPl.rdX (ReadR.binE rfl rfl (BinR.eqlB (by kernel_rfl)) (congrArg Value.bool (a₁ := (false == false)) rfl)) ?_))
        | ((show WPl _ _ _ _ _ _ _ (⟨some 44, .binOp .eql _ _ _ _, _, _, _, _⟩ :: _) _; refine WPl.rdX (ReadR.binE rfl rfl BinR.eql (congrArg Value.bool (decide_eq_false (by omega)))) ?_))
        | ((show WPl _ _ _ _ _ _ _ (⟨some 47, .binOp .eql _ _ _ _, _, _, _, _⟩ :: _) _; refine WPl.rdX (ReadR.binE rfl rfl BinR.eql (congrArg Value.bool (decide_eq_true rfl))) ?_))
        | ((show WPl _ _ _ _ _ _ _ (_ :: _) _; first | refine WPl.rd ?_ | refine WPl.sk ?_ | refine WPl.rdB ?_))
        | ((show WPl _ _ _ _ _ _ _ (⟨_, .alloc _, _, _, _, _⟩ :: _) _; refine WPl.nw fun g => ?_))
        | ((show WPl _ _ _ _ _ _ _ (⟨_, .box _ _, _, _, _, _⟩ :: _) _; refine WPl.nw fun g => ?_))
        | ((show WPl _ _ _ _ _ _ _ (⟨_, .store _ _ _, _, _, _, _⟩ :: _) _; first | refine WPl.st1 ?_ | refine WPl.stA ?_ | refine WPl.stEB ?_ | refine WPl.stRB ?_))
        | ((show WPl _ _ _ _ _ _ _ (_ :: _) _; refine WPl.spl (fun hc => ?_) (fun hc => ?_) <;> (try simp only [decide_eq_true_eq, decide_eq_false_iff_not, Bool.not_eq_true', Bool.not_eq_false', Bool.and_eq_true, Bool.or_eq_true, Bool.and_eq_false_iff, Bool.or_eq_false_iff, Bool.not_true, Bool.not_false, Int.not_lt, Int.not_le] at hc) <;> (try (exfalso; first | omega | exact clash1 hc (by assumption) | exact clash2 hc (by assumption) | exact hc trivial | exact hc (by assumption) | exact absurd hc (by assumption)))))
        | fail)
      all_goals try (first
        | exact WPq.dV
        | exact WPq.dR
        | exact WPq.dR2
        | exact WPq.dH
        | exact WPq.dBH
        | exact WPq.dT)
  · obtain ⟨L, hL⟩ : ∃ L, L = swL h z [1, 2, 3] := ⟨_, rfl⟩
    obtain ⟨c, hc⟩ : ∃ c, c = swE h z ([1, 2, 3] : List UInt8).length := ⟨_, rfl⟩
    rw [← hL, ← hc, hz] at h1
    rw [← hc] at he
    refine Triple.enter Try.func14 rfl Try.ntmps14 rfl (fun W => ?_)
    dsimp only [argsF, Nat.reduceAdd]
    repeat' (first
      | refine WPl.nil ?_
      | refine WPq.then ?_
      | refine WPq.thenR ?_
      | refine WPq.thenE ?_
      | refine WPq.blockN ?_
      | refine WPq.blockR ?_
      | refine WPq.blockE ?_
      | refine WPq.blockO rfl ?_
      | refine WPc.seq ?_
      | refine WPc.block ?_
      | refine WPc.ret ?_
      | refine WPc.exit ?_
      | refine WPc.skip ?_
      | refine WPc.region ?_
      | ((show WPc _ _ _ _ _ _ (.cond _ _ _) _; first | refine WPc.cT ?_ | refine WPc.cF ?_ | (refine WPc.cS (fun hc => ?_) (fun hc => ?_) <;> (try simp only [decide_eq_true_eq, decide_eq_false_iff_not, Bool.not_eq_true', Bool.not_eq_false', Bool.and_eq_true, Bool.or_eq_true, Bool.and_eq_false_iff, Bool.or_eq_false_iff, Bool.not_true, Bool.not_false, Int.not_lt, Int.not_le] at hc) <;> (try (exfalso; first | omega | exact clash1 hc (by assumption) | exact clash2 hc (by assumption) | exact hc trivial | exact hc (by assumption) | exact absurd hc (by assumption))))))
      | ((show WPl _ _ _ _ _ _ _ (⟨_, .buildSlice _ _ _, _, _, _, _⟩ :: _) _; refine WPl.lit fun v hv => ?_))
      | ((show WPl _ _ _ _ _ _ _ (⟨some 16, .call ⟨.value _, _, _⟩, _, _, _, _⟩ :: _) _; refine WPl.cR2 (h1 _) fun v hv => ?_))
      | ((show WPl _ _ _ _ _ _ _ (⟨some 21, .call ⟨.value _, _, _⟩, _, _, _, _⟩ :: _) _; refine WPl.cV (h3) ?_))
      | ((show WPl _ _ _ _ _ _ _ (_ :: _) _; first | refine WPl.rd ?_ | refine WPl.sk ?_ | refine WPl.rdB ?_))
      | ((show WPl _ _ _ _ _ _ _ (⟨_, .alloc _, _, _, _, _⟩ :: _) _; refine WPl.nw fun g => ?_))
      | ((show WPl _ _ _ _ _ _ _ (⟨_, .box _ _, _, _, _, _⟩ :: _) _; refine WPl.nw fun g => ?_))
      | ((show WPl _ _ _ _ _ _ _ (⟨_, .store _ _ _, _, _, _, _⟩ :: _) _; first | refine WPl.st1 ?_ | refine WPl.stA ?_ | refine WPl.stEB ?_ | refine WPl.stRB ?_))
      | ((show WPl _ _ _ _ _ _ _ (_ :: _) _; refine WPl.spl (fun hc => ?_) (fun hc => ?_) <;> (try simp only [decide_eq_true_eq, decide_eq_false_iff_not, Bool.not_eq_true', Bool.not_eq_false', Bool.and_eq_true, Bool.or_eq_true, Bool.and_eq_false_iff, Bool.or_eq_false_iff, Bool.not_true, Bool.not_false, Int.not_lt, Int.not_le] at hc) <;> (try (exfalso; first | omega | exact clash1 hc (by assumption) | exact clash2 hc (by assumption) | exact hc trivial | exact hc (by assumption) | exact absurd hc (by assumption)))))
      | fail)
    all_goals try (first
      | exact WPq.dV
      | exact WPq.dR
      | exact WPq.dR2
      | exact WPq.dH
      | exact WPq.dBH
      | exact WPq.dT)
end Go.Proofs.Yteofjhjhaaafjaa
