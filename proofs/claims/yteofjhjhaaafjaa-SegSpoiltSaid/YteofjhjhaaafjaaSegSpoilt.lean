/- The statement SegSpoilt: it returns true. -/
import Derived.Test.YteofjhjhaaafjaaSegL
namespace Go.Proofs.Yteofjhjhaaafjaa
open Go.RowKit
set_option linter.unusedSimpArgs false
set_option linter.unusedVariables false
set_option maxRecDepth 20000
set_option maxHeartbeats 400000
attribute [local irreducible] WPc WPl WPq ReadR OpT BinR HasS bx rdN rowN Take Takes Prov Triple ResF BuildP Done ag Int.decLt Int.decLe Int.instDecidableEq
attribute [local irreducible] swL sgR sgE swE

theorem BinR.remE {P : Program} {T : TypeId} {k : IntKind} {a b c : Int} (h : a % b = c) (h0 : 0 ≤ a) (hb : 0 < b) (h2 : 0 ≤ c) : BinR P .rem T (.int k a) (.int k b) (.int k c) := h ▸ BinR.remK h0 hb
theorem segSpoilt_t (h : Hd) (s : Sg) (sp : List UInt8) (hs1 : s.src < 65536) (hs2 : s.dst < 65536) (hsp : sp.length = 3) : Triple Try.prog 13 #[ag (hdc h), ag (sgc s), ag [(3, u8s sp)]] [] (RVal (.bool true)) := by
  have l1 := h.src.len
  have l2 := h.dst.len
  have hsz : sp.length = 3 := hsp
  obtain ⟨z, hz⟩ : ∃ z : Sg, z = ⟨s.src, s.dst, s.flags, s.sumAt, false, s.data⟩ := ⟨_, rfl⟩
  have hzz : z.zero = false := by rw [hz]
  have hz1 : z.src < 65536 := by rw [hz]; exact hs1
  have hz2 : z.dst < 65536 := by rw [hz]; exact hs2
  have h1 := fun v => swrite_t h z v [1, 2, 3, 4, 5] (by decide) hz1 hz2
  have h3 := lives15_t
  by_cases he : swE h z ([1, 2, 3, 4, 5] : List UInt8).length = 0
  · obtain ⟨n, hn, hn2, _, _, _⟩ := swL_read he hz1 hz2 hzz
    have hsl := fun k hk c => seg_spoilt (k := k) he hz1 hz2 hzz hk c
    obtain ⟨L, hL⟩ : ∃ L, L = swL h z [1, 2, 3, 4, 5] := ⟨_, rfl⟩
    rw [← hL] at hn
    simp only [← hL] at hsl
    have hn : L.length = n + 5 := hn
    rw [he, ← hL, hz] at h1
    have hb0 := (sp.getD 0 0).toNat_lt
    obtain ⟨k, hk⟩ : ∃ k, k = (sp.getD 0 0).toNat % L.length := ⟨_, rfl⟩
    have hkl : k < L.length := by rw [hk]; exact Nat.mod_lt _ (by omega)
    have hki : (((sp.getD 0 0).toNat : Nat) : Int) % (L.length : Int) = (k : Int) := by rw [hk]; exact (Int.natCast_emod _ L.length).symm
    have hq := hsl k hkl (L.getD k 0 + sp.getD 1 0)
    rw [u8_add_eq] at hq
    have h2 := fun v => sread_t h v (L.set k (L.getD k 0 + sp.getD 1 0)) (by rw [List.length_set]; omega)
    simp only [gVal] at h2
    obtain ⟨X, hX⟩ : ∃ X, X = sgR h (L.set k (L.getD k 0 + sp.getD 1 0)) := ⟨_, rfl⟩
    obtain ⟨c, hc⟩ : ∃ c, c = sgE h (L.set k (L.getD k 0 + sp.getD 1 0)) := ⟨_, rfl⟩
    rw [← hX, ← hc] at h2 hq
    clear hsl hX hc hk hL he
    by_cases h0 : (((sp.getD 1 0).toNat : Nat) : Int) = 0
    · have hq2 : (decide (c = 0) == true) = true := by rw [decide_eq_true (hq.2 (.inl h0))]; rfl
      clear hq hz
      refine Triple.enter Try.func13 rfl Try.ntmps13 rfl (fun W => ?_)
      dsimp only [argsF, Nat.reduceAdd]
      repeat' (first
        | refine WPl.nil ?_
        | refine WPq.then ?_
        | refine WPq.thenR ?_
        | refine WPq.thenE ?_
        | refine WPq.blockN ?_
        | refine WPq.blockR ?_
        | refine WPq.blockE ?_
        | refine WPq.blockO rfl ?_
        | refine WPc.seq ?_
        | refine WPc.block ?_
        | refine WPc.ret ?_
        | refine WPc.exit ?_
        | refine WPc.skip ?_
        | refine WPc.region ?_
        | ((show WPc _ _ _ _ _ _ (.region 9 _ true) _; refine WPc.drawn [([11], [34, 35, 36, 37, 38, 39, 40, 41]), ([11], [33, 35, 36, 37, 38, 39, 40, 41]), ([11], [33, 34, 36, 39, 40]), ([11], [33, 34, 35, 39, 40]), ([2, 3, 11], [33, 34, 35, 36, 39, 40]), ([2, 3, 4, 11], [33, 34, 35, 36, 37, 39, 40]), ([11], [33, 34, 35, 36, 37, 38]), ([6, 11], [33, 34, 35, 36, 37, 38, 39]), ([2, 3, 4, 5, 6, 7, 11], [33, 34, 35, 36, 37, 38, 39, 40]), ([0, 1, 2, 3, 4, 5, 6, 7, 8, 11], [33, 34, 35, 36, 37, 38, 39, 40, 41]), ([0, 1, 2, 3, 4, 5, 6, 7, 8, 9, 11], [33, 34, 35, 36, 37, 38, 39, 40, 41, 42])] [(11, 10), (11, 0), (11, 1), (11, 2), (11, 3), (11, 4), (11, 5), (11, 6), (11, 7), (11, 8), (11, 9)] (Γx := [ob v L]) (by exact takesA) (by repeat' (first | exact own_nil | refine own_cons (by first | exact bx_own | exact rowN_own | exact rfl) ?_ | fail)) (by kernel_rfl) (by kernel_rfl) ?_; dsimp only [prev0, List.length_nil, List.length_cons]))
        | ((show RGl _ _ _ _ _ _ _ _ _ _ _; first | (show RGl _ _ _ _ _ _ _ _ (⟨some 17, .call ⟨.value _, _, _⟩, _, _, _, _⟩ :: _) _ _; refine RGl.row2 (fun e hk => by (try dsimp only [bndR, ensR, oksR, fcutR, List.append_nil, List.nil_append, List.cons_append, List.append_assoc] at hk ⊢); refine OpT.call (h1 _) evsA provsA (by kernel_rfl)) ?_) | (show RGl _ _ _ _ _ _ _ _ (⟨some 22, .call ⟨.value _, _, _⟩, _, _, _, _⟩ :: _) _ _; refine RGl.vl (fun e hk => by (try dsimp only [bndR, ensR, oksR, fcutR, List.append_nil, List.nil_append, List.cons_append, List.append_assoc] at hk ⊢); refine OpT.call (h3) evsA provsA (by kernel_rfl)) ?_) | (show RGl _ _ _ _ _ _ _ _ (⟨some 60, .call ⟨.value _, _, _⟩, _, _, _, _⟩ :: _) _ _; refine RGl.vl (fun e hk => by (try dsimp only [bndR, ensR, oksR, fcutR, List.append_nil, List.nil_append, List.cons_append, List.append_assoc] at hk ⊢); refine OpT.call (h3) evsA provsA (by kernel_rfl)) ?_) | (show RGl _ _ _ _ _ _ _ _ (⟨some 46, .call ⟨.value _, _, _⟩, _, _, _, _⟩ :: _) _ _; refine RGl.vl (fun e hk => by (try dsimp only [bndR, ensR, oksR, fcutR, List.append_nil, List.nil_append, List.cons_append, List.append_assoc] at hk ⊢); refine OpT.call (h2 _) evsA provsA (by kernel_rfl)) ?_) | (show RGl _ _ _ _ _ _ _ _ (⟨some 32, .binOp .rem _ _ _ _, _, _, _, _⟩ :: _) _ _; refine RGl.rdX (fun e hk => by (try dsimp only [bndR, ensR, oksR, fcutR, List.append_nil, List.nil_append, List.cons_append, List.append_assoc] at hk ⊢); exact ReadR.bin rfl rfl (BinR.remE hki (by omega) (by omega) (by omega))) ?_) | (show RGl _ _ _ _ _ _ _ _ (⟨some 41, .binOp .add _ _ _ _, _, _, _, _⟩ :: _) _ _; refine RGl.rdX (fun e hk => by (try dsimp only [bndR, ensR, oksR, fcutR, List.append_nil, List.nil_append, List.cons_append, List.append_assoc] at hk ⊢); exact ReadR.bin rfl rfl BinR.addB) ?_) | (show RGl _ _ _ _ _ _ _ _ (⟨some 58, .binOp .eql _ _ _ _, _, _, _, _⟩ :: _) _ _; refine RGl.rdX (fun e hk => by (try dsimp only [bndR, ensR, oksR, fcutR, List.append_nil, List.nil_append, List.cons_append, List.append_assoc] at hk ⊢); exact ReadR.binE rfl rfl (BinR.eqlB (by kernel_rfl)) (congrArg Value.bool hq2)) ?_) | (show RGl _ _ _ _ _ _ _ _ (_ :: _) _ _; first | refine RGl.rdA ?_ | refine RGl.rdX (fun e hk => by (try dsimp only [bndR, ensR, oksR, fcutR, List.append_nil, List.nil_append, List.cons_append, List.append_assoc] at hk ⊢); exact readB) ?_) | (show RGl _ _ _ _ _ _ _ _ (⟨_, .store _ _ _, _, _, _, _⟩ :: _) _ _; refine RGl.stA ?_) | (refine RGl.fin (fun e hk => ?_); (try dsimp only [bndA, ensAR, oksA, List.append_nil, List.nil_append, List.cons_append, List.append_assoc] at hk ⊢); (repeat (obtain ⟨hk1, hk⟩ := hk))) | fail))
        | ((show WPc _ _ _ _ _ _ (.cond _ _ _) _; first | refine WPc.cT ?_ | refine WPc.cF ?_ | (refine WPc.cS (fun hc => ?_) (fun hc => ?_) <;> (try simp only [decide_eq_true_eq, decide_eq_false_iff_not, Bool.not_eq_true', Bool.not_eq_false', Bool.and_eq_true, Bool.or_eq_true, Bool.and_eq_false_iff, Bool.or_eq_false_iff, Bool.not_true, Bool.not_false, Int.not_lt, Int.not_le] at hc) <;> (try (exfalso; first | omega | exact clash1 hc (by assumption) | exact clash2 hc (by assumption) | exact hc trivial | exact hc (by assumption) | exact absurd hc (by assumption))))))
        | ((show WPl _ _ _ _ _ _ _ (⟨_, .buildSlice _ _ _, _, _, _, _⟩ :: _) _; refine WPl.lit fun v hv => ?_))
        | ((show WPl _ _ _ _ _ _ _ (⟨some 17, .call ⟨.value _, _, _⟩, _, _, _, _⟩ :: _) _; refine WPl.cR2 (h1 _) fun v hv => ?_))
        | ((show WPl _ _ _ _ _ _ _ (⟨some 22, .call ⟨.value _, _, _⟩, _, _, _, _⟩ :: _) _; refine WPl.cV (h3) ?_))
        | ((show WPl _ _ _ _ _ _ _ (⟨some 60, .call ⟨.value _, _, _⟩, _, _, _, _⟩ :: _) _; refine WPl.cV (h3) ?_))
        | ((show WPl _ _ _ _ _ _ _ (⟨some 46, .call ⟨.value _, _, _⟩, _, _, _, _⟩ :: _) _; refine WPl.cV (h2 _) ?_))
        | ((show WPl _ _ _ _ _ _ _ (⟨some 32, .binOp .rem _ _ _ _, _, _, _, _⟩ :: _) _; refine WPl.rdX (ReadR.bin rfl rfl (BinR.remE hki (by omega) (by omega) (by omega))) ?_))
        | ((show WPl _ _ _ _ _ _ _ (⟨some 41, .binOp .add _ _ _ _, _, _, _, _⟩ :: _) _; refine WPl.rdX (ReadR.bin rfl rfl BinR.addB) ?_))
        | ((show WPl _ _ _ _ _ _ _ (⟨some 58, .binOp .eql _ _ _ _, _, _, _, _⟩ :: _) _; refine WPl.rdX (ReadR.binE rfl rfl (BinR.eqlB (by kernel_rfl)) (congrArg Value.bool hq2)) ?_))
        | ((show WPl _ _ _ _ _ _ _ (_ :: _) _; first | refine WPl.rd ?_ | refine WPl.sk ?_ | refine WPl.rdB ?_))
        | ((show WPl _ _ _ _ _ _ _ (⟨_, .alloc _, _, _, _, _⟩ :: _) _; refine WPl.nw fun g => ?_))
        | ((show WPl _ _ _ _ _ _ _ (⟨_, .box _ _, _, _, _, _⟩ :: _) _; refine WPl.nw fun g => ?_))
        | ((show WPl _ _ _ _ _ _ _ (⟨_, .store _ _ _, _, _, _, _⟩ :: _) _; first | refine WPl.st1 ?_ | refine WPl.stA ?_ | refine WPl.stEB ?_ | refine WPl.stRB ?_))
        | ((show WPl _ _ _ _ _ _ _ (_ :: _) _; refine WPl.spl (fun hc => ?_) (fun hc => ?_) <;> (try simp only [decide_eq_true_eq, decide_eq_false_iff_not, Bool.not_eq_true', Bool.not_eq_false', Bool.and_eq_true, Bool.or_eq_true, Bool.and_eq_false_iff, Bool.or_eq_false_iff, Bool.not_true, Bool.not_false, Int.not_lt, Int.not_le] at hc) <;> (try (exfalso; first | omega | exact clash1 hc (by assumption) | exact clash2 hc (by assumption) | exact hc trivial | exact hc (by assumption) | exact absurd hc (by assumption)))))
        | fail)
      all_goals try (first
        | exact WPq.dV
        | exact WPq.dR
        | exact WPq.dR2
        | exact WPq.dH
        | exact WPq.dBH
        | exact WPq.dT)
    · have hq2 : (decide (c = 0) == X.zero) = true := by
        rw [beq_iff_eq, Bool.eq_iff_iff, decide_eq_true_eq, hq]
        exact ⟨fun h => h.resolve_left h0, .inr⟩
      clear hq hz
      refine Triple.enter Try.func13 rfl Try.ntmps13 rfl (fun W => ?_)
      dsimp only [argsF, Nat.reduceAdd]
      repeat' (first
        | refine WPl.nil ?_
        | refine WPq.then ?_
        | refine WPq.thenR ?_
        | refine WPq.thenE ?_
        | refine WPq.blockN ?_
        | refine WPq.blockR ?_
        | refine WPq.blockE ?_
        | refine WPq.blockO rfl ?_
        | refine WPc.seq ?_
        | refine WPc.block ?_
        | refine WPc.ret ?_
        | refine WPc.exit ?_
        | refine WPc.skip ?_
        | refine WPc.region ?_
        | ((show WPc _ _ _ _ _ _ (.region 9 _ true) _; refine WPc.drawn [([11], [34, 35, 36, 37, 38, 39, 40, 41]), ([11], [33, 35, 36, 37, 38, 39, 40, 41]), ([11], [33, 34, 36, 39, 40]), ([11], [33, 34, 35, 39, 40]), ([2, 3, 11], [33, 34, 35, 36, 39, 40]), ([2, 3, 4, 11], [33, 34, 35, 36, 37, 39, 40]), ([11], [33, 34, 35, 36, 37, 38]), ([6, 11], [33, 34, 35, 36, 37, 38, 39]), ([2, 3, 4, 5, 6, 7, 11], [33, 34, 35, 36, 37, 38, 39, 40]), ([0, 1, 2, 3, 4, 5, 6, 7, 8, 11], [33, 34, 35, 36, 37, 38, 39, 40, 41]), ([0, 1, 2, 3, 4, 5, 6, 7, 8, 9, 11], [33, 34, 35, 36, 37, 38, 39, 40, 41, 42])] [(11, 10), (11, 0), (11, 1), (11, 2), (11, 3), (11, 4), (11, 5), (11, 6), (11, 7), (11, 8), (11, 9)] (Γx := [ob v L]) (by exact takesA) (by repeat' (first | exact own_nil | refine own_cons (by first | exact bx_own | exact rowN_own | exact rfl) ?_ | fail)) (by kernel_rfl) (by kernel_rfl) ?_; dsimp only [prev0, List.length_nil, List.length_cons]))
        | ((show RGl _ _ _ _ _ _ _ _ _ _ _; first | (show RGl _ _ _ _ _ _ _ _ (⟨some 17, .call ⟨.value _, _, _⟩, _, _, _, _⟩ :: _) _ _; refine RGl.row2 (fun e hk => by (try dsimp only [bndR, ensR, oksR, fcutR, List.append_nil, List.nil_append, List.cons_append, List.append_assoc] at hk ⊢); refine OpT.call (h1 _) evsA provsA (by kernel_rfl)) ?_) | (show RGl _ _ _ _ _ _ _ _ (⟨some 22, .call ⟨.value _, _, _⟩, _, _, _, _⟩ :: _) _ _; refine RGl.vl (fun e hk => by (try dsimp only [bndR, ensR, oksR, fcutR, List.append_nil, List.nil_append, List.cons_append, List.append_assoc] at hk ⊢); refine OpT.call (h3) evsA provsA (by kernel_rfl)) ?_) | (show RGl _ _ _ _ _ _ _ _ (⟨some 60, .call ⟨.value _, _, _⟩, _, _, _, _⟩ :: _) _ _; refine RGl.vl (fun e hk => by (try dsimp only [bndR, ensR, oksR, fcutR, List.append_nil, List.nil_append, List.cons_append, List.append_assoc] at hk ⊢); refine OpT.call (h3) evsA provsA (by kernel_rfl)) ?_) | (show RGl _ _ _ _ _ _ _ _ (⟨some 46, .call ⟨.value _, _, _⟩, _, _, _, _⟩ :: _) _ _; refine RGl.vl (fun e hk => by (try dsimp only [bndR, ensR, oksR, fcutR, List.append_nil, List.nil_append, List.cons_append, List.append_assoc] at hk ⊢); refine OpT.call (h2 _) evsA provsA (by kernel_rfl)) ?_) | (show RGl _ _ _ _ _ _ _ _ (⟨some 32, .binOp .rem _ _ _ _, _, _, _, _⟩ :: _) _ _; refine RGl.rdX (fun e hk => by (try dsimp only [bndR, ensR, oksR, fcutR, List.append_nil, List.nil_append, List.cons_append, List.append_assoc] at hk ⊢); exact ReadR.bin rfl rfl (BinR.remE hki (by omega) (by omega) (by omega))) ?_) | (show RGl _ _ _ _ _ _ _ _ (⟨some 41, .binOp .add _ _ _ _, _, _, _, _⟩ :: _) _ _; refine RGl.rdX (fun e hk => by (try dsimp only [bndR, ensR, oksR, fcutR, List.append_nil, List.nil_append, List.cons_append, List.append_assoc] at hk ⊢); exact ReadR.bin rfl rfl BinR.addB) ?_) | (show RGl _ _ _ _ _ _ _ _ (⟨some 58, .binOp .eql _ _ _ _, _, _, _, _⟩ :: _) _ _; refine RGl.rdX (fun e hk => by (try dsimp only [bndR, ensR, oksR, fcutR, List.append_nil, List.nil_append, List.cons_append, List.append_assoc] at hk ⊢); exact ReadR.binE rfl rfl (BinR.eqlB (by kernel_rfl)) (congrArg Value.bool hq2)) ?_) | (show RGl _ _ _ _ _ _ _ _ (_ :: _) _ _; first | refine RGl.rdA ?_ | refine RGl.rdX (fun e hk => by (try dsimp only [bndR, ensR, oksR, fcutR, List.append_nil, List.nil_append, List.cons_append, List.append_assoc] at hk ⊢); exact readB) ?_) | (show RGl _ _ _ _ _ _ _ _ (⟨_, .store _ _ _, _, _, _, _⟩ :: _) _ _; refine RGl.stA ?_) | (refine RGl.fin (fun e hk => ?_); (try dsimp only [bndA, ensAR, oksA, List.append_nil, List.nil_append, List.cons_append, List.append_assoc] at hk ⊢); (repeat (obtain ⟨hk1, hk⟩ := hk))) | fail))
        | ((show WPc _ _ _ _ _ _ (.cond _ _ _) _; first | refine WPc.cT ?_ | refine WPc.cF ?_ | (refine WPc.cS (fun hc => ?_) (fun hc => ?_) <;> (try simp only [decide_eq_true_eq, decide_eq_false_iff_not, Bool.not_eq_true', Bool.not_eq_false', Bool.and_eq_true, Bool.or_eq_true, Bool.and_eq_false_iff, Bool.or_eq_false_iff, Bool.not_true, Bool.not_false, Int.not_lt, Int.not_le] at hc) <;> (try (exfalso; first | omega | exact clash1 hc (by assumption) | exact clash2 hc (by assumption) | exact hc trivial | exact hc (by assumption) | exact absurd hc (by assumption))))))
        | ((show WPl _ _ _ _ _ _ _ (⟨_, .buildSlice _ _ _, _, _, _, _⟩ :: _) _; refine WPl.lit fun v hv => ?_))
        | ((show WPl _ _ _ _ _ _ _ (⟨some 17, .call ⟨.value _, _, _⟩, _, _, _, _⟩ :: _) _; refine WPl.cR2 (h1 _) fun v hv => ?_))
        | ((show WPl _ _ _ _ _ _ _ (⟨some 22, .call ⟨.value _, _, _⟩, _, _, _, _⟩ :: _) _; refine WPl.cV (h3) ?_))
        | ((show WPl _ _ _ _ _ _ _ (⟨some 60, .call ⟨.value _, _, _⟩, _, _, _, _⟩ :: _) _; refine WPl.cV (h3) ?_))
        | ((show WPl _ _ _ _ _ _ _ (⟨some 46, .call ⟨.value _, _, _⟩, _, _, _, _⟩ :: _) _; refine WPl.cV (h2 _) ?_))
        | ((show WPl _ _ _ _ _ _ _ (⟨some 32, .binOp .rem _ _ _ _, _, _, _, _⟩ :: _) _; refine WPl.rdX (ReadR.bin rfl rfl (BinR.remE hki (by omega) (by omega) (by omega))) ?_))
        | ((show WPl _ _ _ _ _ _ _ (⟨some 41, .binOp .add _ _ _ _, _, _, _, _⟩ :: _) _; refine WPl.rdX (ReadR.bin rfl rfl BinR.addB) ?_))
        | ((show WPl _ _ _ _ _ _ _ (⟨some 58, .binOp .eql _ _ _ _, _, _, _, _⟩ :: _) _; refine WPl.rdX (ReadR.binE rfl rfl (BinR.eqlB (by kernel_rfl)) (congrArg Value.bool hq2)) ?_))
        | ((show WPl _ _ _ _ _ _ _ (_ :: _) _; first | refine WPl.rd ?_ | refine WPl.sk ?_ | refine WPl.rdB ?_))
        | ((show WPl _ _ _ _ _ _ _ (⟨_, .alloc _, _, _, _, _⟩ :: _) _; refine WPl.nw fun g => ?_))
        | ((show WPl _ _ _ _ _ _ _ (⟨_, .box _ _, _, _, _, _⟩ :: _) _; refine WPl.nw fun g => ?_))
        | ((show WPl _ _ _ _ _ _ _ (⟨_, .store _ _ _, _, _, _, _⟩ :: _) _; first | refine WPl.st1 ?_ | refine WPl.stA ?_ | refine WPl.stEB ?_ | refine WPl.stRB ?_))
        | ((show WPl _ _ _ _ _ _ _ (_ :: _) _; refine WPl.spl (fun hc => ?_) (fun hc => ?_) <;> (try simp only [decide_eq_true_eq, decide_eq_false_iff_not, Bool.not_eq_true', Bool.not_eq_false', Bool.and_eq_true, Bool.or_eq_true, Bool.and_eq_false_iff, Bool.or_eq_false_iff, Bool.not_true, Bool.not_false, Int.not_lt, Int.not_le] at hc) <;> (try (exfalso; first | omega | exact clash1 hc (by assumption) | exact clash2 hc (by assumption) | exact hc trivial | exact hc (by assumption) | exact absurd hc (by assumption)))))
        | fail)
      all_goals try (first
        | exact WPq.dV
        | exact WPq.dR
        | exact WPq.dR2
        | exact WPq.dH
        | exact WPq.dBH
        | exact WPq.dT)
  · obtain ⟨L, hL⟩ : ∃ L, L = swL h z [1, 2, 3, 4, 5] := ⟨_, rfl⟩
    obtain ⟨c, hc⟩ : ∃ c, c = swE h z ([1, 2, 3, 4, 5] : List UInt8).length := ⟨_, rfl⟩
    rw [← hL, ← hc, hz] at h1
    rw [← hc] at he
    refine Triple.enter Try.func13 rfl Try.ntmps13 rfl (fun W => ?_)
    dsimp only [argsF, Nat.reduceAdd]
    repeat' (first
      | refine WPl.nil ?_
      | refine WPq.then ?_
      | refine WPq.thenR ?_
      | refine WPq.thenE ?_
      | refine WPq.blockN ?_
      | refine WPq.blockR ?_
      | refine WPq.blockE ?_
      | refine WPq.blockO rfl ?_
      | refine WPc.seq ?_
      | refine WPc.block ?_
      | refine WPc.ret ?_
      | refine WPc.exit ?_
      | refine WPc.skip ?_
      | refine WPc.region ?_
      | ((show WPc _ _ _ _ _ _ (.region 9 _ true) _; refine WPc.drawn [([], [34, 35, 36, 37, 38, 39, 40, 41]), ([], [33, 35, 36, 37, 38, 39, 40, 41]), ([], [33, 34, 36, 39, 40]), ([], [33, 34, 35, 39, 40]), ([2, 3], [33, 34, 35, 36, 39, 40]), ([2, 3, 4], [33, 34, 35, 36, 37, 39, 40]), ([], [33, 34, 35, 36, 37, 38]), ([6], [33, 34, 35, 36, 37, 38, 39]), ([2, 3, 4, 5, 6, 7], [33, 34, 35, 36, 37, 38, 39, 40]), ([0, 1, 2, 3, 4, 5, 6, 7, 8], [33, 34, 35, 36, 37, 38, 39, 40, 41]), ([0, 1, 2, 3, 4, 5, 6, 7, 8, 9], [33, 34, 35, 36, 37, 38, 39, 40, 41, 42])] [] (Γx := []) (by exact takesA) (by repeat' (first | exact own_nil | refine own_cons (by first | exact bx_own | exact rowN_own | exact rfl) ?_ | fail)) (by kernel_rfl) (by kernel_rfl) ?_; dsimp only [prev0, List.length_nil, List.length_cons]))
      | ((show RGl _ _ _ _ _ _ _ _ _ _ _; first | (show RGl _ _ _ _ _ _ _ _ (⟨some 17, .call ⟨.value _, _, _⟩, _, _, _, _⟩ :: _) _ _; refine RGl.row2 (fun e hk => by (try dsimp only [bndR, ensR, oksR, fcutR, List.append_nil, List.nil_append, List.cons_append, List.append_assoc] at hk ⊢); refine OpT.call (h1 _) evsA provsA (by kernel_rfl)) ?_) | (show RGl _ _ _ _ _ _ _ _ (⟨some 22, .call ⟨.value _, _, _⟩, _, _, _, _⟩ :: _) _ _; refine RGl.vl (fun e hk => by (try dsimp only [bndR, ensR, oksR, fcutR, List.append_nil, List.nil_append, List.cons_append, List.append_assoc] at hk ⊢); refine OpT.call (h3) evsA provsA (by kernel_rfl)) ?_) | (show RGl _ _ _ _ _ _ _ _ (_ :: _) _ _; first | refine RGl.rdA ?_ | refine RGl.rdX (fun e hk => by (try dsimp only [bndR, ensR, oksR, fcutR, List.append_nil, List.nil_append, List.cons_append, List.append_assoc] at hk ⊢); exact readB) ?_) | (show RGl _ _ _ _ _ _ _ _ (⟨_, .store _ _ _, _, _, _, _⟩ :: _) _ _; refine RGl.stA ?_) | (refine RGl.fin (fun e hk => ?_); (try dsimp only [bndA, ensAR, oksA, List.append_nil, List.nil_append, List.cons_append, List.append_assoc] at hk ⊢); (repeat (obtain ⟨hk1, hk⟩ := hk))) | fail))
      | ((show WPc _ _ _ _ _ _ (.cond _ _ _) _; first | refine WPc.cT ?_ | refine WPc.cF ?_ | (refine WPc.cS (fun hc => ?_) (fun hc => ?_) <;> (try simp only [decide_eq_true_eq, decide_eq_false_iff_not, Bool.not_eq_true', Bool.not_eq_false', Bool.and_eq_true, Bool.or_eq_true, Bool.and_eq_false_iff, Bool.or_eq_false_iff, Bool.not_true, Bool.not_false, Int.not_lt, Int.not_le] at hc) <;> (try (exfalso; first | omega | exact clash1 hc (by assumption) | exact clash2 hc (by assumption) | exact hc trivial | exact hc (by assumption) | exact absurd hc (by assumption))))))
      | ((show WPl _ _ _ _ _ _ _ (⟨_, .buildSlice _ _ _, _, _, _, _⟩ :: _) _; refine WPl.lit fun v hv => ?_))
      | ((show WPl _ _ _ _ _ _ _ (⟨some 17, .call ⟨.value _, _, _⟩, _, _, _, _⟩ :: _) _; refine WPl.cR2 (h1 _) fun v hv => ?_))
      | ((show WPl _ _ _ _ _ _ _ (⟨some 22, .call ⟨.value _, _, _⟩, _, _, _, _⟩ :: _) _; refine WPl.cV (h3) ?_))
      | ((show WPl _ _ _ _ _ _ _ (_ :: _) _; first | refine WPl.rd ?_ | refine WPl.sk ?_ | refine WPl.rdB ?_))
      | ((show WPl _ _ _ _ _ _ _ (⟨_, .alloc _, _, _, _, _⟩ :: _) _; refine WPl.nw fun g => ?_))
      | ((show WPl _ _ _ _ _ _ _ (⟨_, .box _ _, _, _, _, _⟩ :: _) _; refine WPl.nw fun g => ?_))
      | ((show WPl _ _ _ _ _ _ _ (⟨_, .store _ _ _, _, _, _, _⟩ :: _) _; first | refine WPl.st1 ?_ | refine WPl.stA ?_ | refine WPl.stEB ?_ | refine WPl.stRB ?_))
      | ((show WPl _ _ _ _ _ _ _ (_ :: _) _; refine WPl.spl (fun hc => ?_) (fun hc => ?_) <;> (try simp only [decide_eq_true_eq, decide_eq_false_iff_not, Bool.not_eq_true', Bool.not_eq_false', Bool.and_eq_true, Bool.or_eq_true, Bool.and_eq_false_iff, Bool.or_eq_false_iff, Bool.not_true, Bool.not_false, Int.not_lt, Int.not_le] at hc) <;> (try (exfalso; first | omega | exact clash1 hc (by assumption) | exact clash2 hc (by assumption) | exact hc trivial | exact hc (by assumption) | exact absurd hc (by assumption)))))
      | fail)
    all_goals try (first
      | exact WPq.dV
      | exact WPq.dR
      | exact WPq.dR2
      | exact WPq.dH
      | exact WPq.dBH
      | exact WPq.dT)
end Go.Proofs.Yteofjhjhaaafjaa
