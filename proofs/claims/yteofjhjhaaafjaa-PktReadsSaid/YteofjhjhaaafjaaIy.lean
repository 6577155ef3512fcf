/- Reference of layer 14 (ipsix): reading heads: contracts. -/
import Derived.Test.YteofjhjhaaafjaaIv
import Derived.Test.YteofjhjhaaafjaaIg
namespace Go.Proofs.Yteofjhjhaaafjaa
open Go.RowKit
set_option linter.unusedSimpArgs false
set_option linter.unusedVariables false
set_option maxRecDepth 20000
set_option maxHeartbeats 1000000
attribute [local irreducible] WPc WPl WPq ReadR OpT BinR HasS bx rdN rowN Take Takes Prov Triple ResF BuildP Done ag Int.decLt Int.decLe Int.instDecidableEq

theorem r14of_t (v : Value) (l : List UInt8) (h : l.length = 16) : Triple Try.prog 123 #[v] [rb v l] (RVal (ag (adc (ofA l)))) := by
  rw [show ofA l = ⟨true, l, h⟩ by unfold ofA; rw [dif_pos h]; rfl]
  refine Triple.enter Try.func123 rfl Try.ntmps123 rfl (fun W => ?_)
  dsimp only [argsF, Nat.reduceAdd]
  repeat' (first
    | refine WPl.nil ?_
    | refine WPq.then ?_
    | refine WPq.thenR ?_
    | refine WPq.thenE ?_
    | refine WPq.blockN ?_
    | refine WPq.blockR ?_
    | refine WPq.blockE ?_
    | refine WPq.blockO rfl ?_
    | refine WPc.seq ?_
    | refine WPc.block ?_
    | refine WPc.ret ?_
    | refine WPc.exit ?_
    | refine WPc.skip ?_
    | refine WPc.region ?_
    | ((show WPc _ _ _ _ _ _ (.cond _ _ _) _; first | refine WPc.cT ?_ | refine WPc.cF ?_))
    | ((first | (show WPl _ _ _ _ _ _ _ (⟨some 3, .alloc _, _, _, _, _⟩ :: _) _; refine WPl.nw fun g => ?_) | (show WPl _ _ _ _ _ _ _ (⟨some 3, .box _ _, _, _, _, _⟩ :: _) _; refine WPl.nw fun g => ?_)))
    | ((first | (show WPl _ _ _ _ _ _ _ (⟨some 2, .alloc _, _, _, _, _⟩ :: _) _; refine WPl.nw fun gr => ?_) | (show WPl _ _ _ _ _ _ _ (⟨some 2, .box _ _, _, _, _, _⟩ :: _) _; refine WPl.nw fun gr => ?_)))
    | ((show WPl _ _ _ _ _ _ _ (_ :: _) _; first | refine WPl.rd ?_ | refine WPl.sk ?_ | refine WPl.rdB ?_))
    | ((show WPl _ _ _ _ _ _ _ (⟨_, .alloc _, _, _, _, _⟩ :: _) _; refine WPl.nw fun g => ?_))
    | ((show WPl _ _ _ _ _ _ _ (⟨_, .store _ _ _, _, _, _, _⟩ :: _) _; first | refine WPl.st1 ?_ | refine WPl.stA ?_ | refine WPl.stEB ?_ | refine WPl.stRB ?_))
    | fail)
  first | refine WPc.loop (σ := Nat × List UInt8) (fun p => p.1 ≤ 16 ∧ p.2 = over (List.replicate 16 0) 0 (seg l 0 p.1)) (fun p => [bx g 24 [(1, [.bool true]), (16, u8s p.2)], bx gr 24 [(1, [.bool false]), (16, u8s (List.replicate 16 0))], rb v l]) (fun p => [(0, v), (2, .pointer (some ⟨gr, 0, none⟩)), (3, .pointer (some ⟨g, 0, none⟩)), (4, .int .i64 p.1)]) (fun p => 16 - p.1) ((0, List.replicate 16 0)) ?_ takesA frsA (fun st km hx hk => ?_)
  · exact ⟨by omega, by simp [seg, over]⟩
  obtain ⟨i, c⟩ := st
  dsimp only at hx hk ⊢
  obtain ⟨hi, hc0⟩ := hx
  have hcl : c.length = 16 := by rw [hc0, over_length] <;> simp [seg_len]; omega
  by_cases hlt : i < 16
  · skip
    repeat' (first
      | refine WPl.nil ?_
      | refine WPq.then ?_
      | refine WPq.thenR ?_
      | refine WPq.thenE ?_
      | refine WPq.blockN ?_
      | refine WPq.blockR ?_
      | refine WPq.blockE ?_
      | refine WPq.blockO rfl ?_
      | refine WPc.seq ?_
      | refine WPc.block ?_
      | refine WPc.ret ?_
      | refine WPc.exit ?_
      | refine WPc.skip ?_
      | refine WPc.region ?_
      | ((show WPc _ _ _ _ _ _ (.cond _ _ _) _; first | refine WPc.cT ?_ | refine WPc.cF ?_ | (refine WPc.cS (fun hc => ?_) (fun hc => ?_) <;> (try simp only [decide_eq_true_eq, decide_eq_false_iff_not, Bool.not_eq_true', Bool.not_eq_false', Bool.and_eq_true, Bool.or_eq_true, Bool.and_eq_false_iff, Bool.or_eq_false_iff, Bool.not_true, Bool.not_false, Int.not_lt, Int.not_le] at hc) <;> (try (exfalso; first | omega | exact clash1 hc (by assumption) | exact clash2 hc (by assumption) | exact hc trivial | exact hc (by assumption) | exact absurd hc (by assumption))))))
      | ((show WPl _ _ _ _ _ _ _ (_ :: _) _; first | refine WPl.rd ?_ | refine WPl.sk ?_ | refine WPl.rdB ?_))
      | ((show WPl _ _ _ _ _ _ _ (⟨_, .alloc _, _, _, _, _⟩ :: _) _; refine WPl.nw fun g => ?_))
      | ((show WPl _ _ _ _ _ _ _ (⟨_, .store _ _ _, _, _, _, _⟩ :: _) _; first | refine WPl.st1 ?_ | refine WPl.stA ?_ | refine WPl.stEB ?_ | refine WPl.stRB ?_))
      | ((show WPl _ _ _ _ _ _ _ (_ :: _) _; refine WPl.spl (fun hc => ?_) (fun hc => ?_) <;> (try simp only [decide_eq_true_eq, decide_eq_false_iff_not, Bool.not_eq_true', Bool.not_eq_false', Bool.and_eq_true, Bool.or_eq_true, Bool.and_eq_false_iff, Bool.or_eq_false_iff, Bool.not_true, Bool.not_false, Int.not_lt, Int.not_le] at hc) <;> (try (exfalso; first | omega | exact clash1 hc (by assumption) | exact clash2 hc (by assumption) | exact hc trivial | exact hc (by assumption) | exact absurd hc (by assumption)))))
      | fail)
    exact WPq.rnd (i + 1, c.set i (l.getD i 0)) ⟨by show i + 1 ≤ 16; omega, by
      show _ = over _ _ (seg l 0 (i + 1))
      have e := seg_snoc (l := l) (k := 0) (n := i) (by omega)
      have hs : (seg l 0 i).length = i := seg_length (by omega)
      rw [e, over_snoc _ _ _ _ (by simp; omega), ← hc0, hs, Nat.zero_add]⟩ (by show 16 - (i + 1) < km; omega)
  · obtain rfl : i = 16 := by omega
    have hcl2 : c = l := by
      rw [hc0, seg, List.drop_zero, List.take_of_length_le (by omega)]
      unfold over
      rw [List.take_zero, List.nil_append, List.drop_of_length_le (by simp; omega), List.append_nil]
    subst hcl2
    repeat' (first
      | refine WPl.nil ?_
      | refine WPq.then ?_
      | refine WPq.thenR ?_
      | refine WPq.thenE ?_
      | refine WPq.blockN ?_
      | refine WPq.blockR ?_
      | refine WPq.blockE ?_
      | refine WPq.blockO rfl ?_
      | refine WPc.seq ?_
      | refine WPc.block ?_
      | refine WPc.ret ?_
      | refine WPc.exit ?_
      | refine WPc.skip ?_
      | refine WPc.region ?_
      | ((show WPc _ _ _ _ _ _ (.cond _ _ _) _; first | refine WPc.cT ?_ | refine WPc.cF ?_ | (refine WPc.cS (fun hc => ?_) (fun hc => ?_) <;> (try simp only [decide_eq_true_eq, decide_eq_false_iff_not, Bool.not_eq_true', Bool.not_eq_false', Bool.and_eq_true, Bool.or_eq_true, Bool.and_eq_false_iff, Bool.or_eq_false_iff, Bool.not_true, Bool.not_false, Int.not_lt, Int.not_le] at hc) <;> (try (exfalso; first | omega | exact clash1 hc (by assumption) | exact clash2 hc (by assumption) | exact hc trivial | exact hc (by assumption) | exact absurd hc (by assumption))))))
      | ((show WPl _ _ _ _ _ _ _ (_ :: _) _; first | refine WPl.rd ?_ | refine WPl.sk ?_ | refine WPl.rdB ?_))
      | ((show WPl _ _ _ _ _ _ _ (⟨_, .alloc _, _, _, _, _⟩ :: _) _; refine WPl.nw fun g => ?_))
      | ((show WPl _ _ _ _ _ _ _ (⟨_, .store _ _ _, _, _, _, _⟩ :: _) _; first | refine WPl.st1 ?_ | refine WPl.stA ?_ | refine WPl.stEB ?_ | refine WPl.stRB ?_))
      | ((show WPl _ _ _ _ _ _ _ (_ :: _) _; refine WPl.spl (fun hc => ?_) (fun hc => ?_) <;> (try simp only [decide_eq_true_eq, decide_eq_false_iff_not, Bool.not_eq_true', Bool.not_eq_false', Bool.and_eq_true, Bool.or_eq_true, Bool.and_eq_false_iff, Bool.or_eq_false_iff, Bool.not_true, Bool.not_false, Int.not_lt, Int.not_le] at hc) <;> (try (exfalso; first | omega | exact clash1 hc (by assumption) | exact clash2 hc (by assumption) | exact hc trivial | exact hc (by assumption) | exact absurd hc (by assumption)))))
      | fail)
    all_goals try (first
      | exact WPq.dV
      | exact WPq.dR
      | exact WPq.dR2
      | exact WPq.dH
      | exact WPq.dBH
      | exact WPq.dT)
theorem seg_rest (b : List UInt8) (p k : Nat) : (seg b p (b.length - p)).getD k 0 = b.getD (p + k) 0 := by
  unfold seg
  rw [List.take_of_length_le (by rw [List.length_drop]; omega), getD_drop]
theorem xsize_b (b : List UInt8) (s : XS) : xsize b s = if s.proto.toNat = 44 then 8 else 8 + 8 * byteN b (s.pos + 1) := by
  unfold xsize byteN; rw [seg_rest]
theorem xbad_b (b : List UInt8) (s : XS) : xbad b s = (decide (b.length - s.pos < 8) || decide (b.length - s.pos < xsize b s)) := by
  unfold xbad; rw [rest_len]
def xK (b : List UInt8) (p : Nat) : Nat := 256 * byteN b (p + 2) + byteN b (p + 3)
theorem xpart_b (b : List UInt8) (s : XS) (h : 8 ≤ b.length - s.pos) (h44 : s.proto.toNat = 44) : xpart b s = (s.part || decide (¬ xK b s.pos / 8 = 0 ∨ xK b s.pos % 2 = 1)) := by
  unfold xpart
  rw [if_pos h44, val_seg2 (by rw [rest_len]; omega)]
  unfold byteN
  rw [seg_rest, seg_rest]
  have h1 := (b.getD (s.pos + 2) 0).toNat_lt
  have h2 := (b.getD (s.pos + (2 + 1)) 0).toNat_lt
  have e := and_fff9 (n := 256 * (b.getD (s.pos + 2) 0).toNat + (b.getD (s.pos + (2 + 1)) 0).toNat) (by omega)
  congr 1
  rw [Bool.eq_iff_iff]
  simp only [Bool.not_eq_true', decide_eq_false_iff_not, decide_eq_true_eq]
  unfold xK byteN
  rw [show s.pos + 3 = s.pos + (2 + 1) by omega]
  omega
theorem xnext_b (b : List UInt8) (s : XS) : xnext b s = ⟨b.getD s.pos 0, s.pos + xsize b s, xpart b s⟩ := by
  unfold xnext; rw [seg_rest, Nat.add_zero]
attribute [local irreducible] xall xsize xpart xnext ofA
abbrev hcx (b : List UInt8) (s : XS) : Ch := [(1, [.bool true]), (1, [.int .u8 ((s.proto.toNat : Nat) : Int)]), (1, [.int .i64 (s.pos : Int)]), (1, [.bool (ofA (seg b 8 16)).six]), (16, u8s (ofA (seg b 8 16)).b), (1, [.bool (ofA (seg b 24 16)).six]), (16, u8s (ofA (seg b 24 16)).b), (1, [.bool s.part]), (1, [.int .u8 (((b.getD 7 0).toNat : Nat) : Int)])]
theorem sVal_ok {b : List UInt8} {s : XS} (he : xerr0 b = 0) (h : xall b 8 (xs0 b) = (0, s)) : sVal b = .tuple #[ag (hcx b s), .int .i64 0] := by
  unfold sVal xread xerr
  rw [if_pos he, h]
  dsimp only
  rw [if_pos rfl]
  rfl
theorem sVal_no {b : List UInt8} {s : XS} {c : Int} (he : xerr0 b = 0) (hc : ¬ c = 0) (h : xall b 8 (xs0 b) = (c, s)) : sVal b = .tuple #[ag (hdc Hd.none), .int .i64 c] := by
  unfold sVal xread xerr
  rw [if_pos he, h, if_neg hc]
theorem rx_t (v : Value) (b : List UInt8) (hl : b.length ≤ 100000) : Triple Try.prog 93 #[v] [rb v b] (RVal (sVal b)) := by
  have hb0 := byteN_lt b 0
  have hb7 := byteN_lt b 7
  have hv1 := val2_lt (l := b) (k := 4)
  have u0 : byteN b 0 = (b.getD 0 0).toNat := rfl
  have u7 : byteN b 7 = (b.getD 7 0).toNat := rfl
  by_cases he : xerr0 b = 0
  · obtain ⟨h1, h2, h3, h4, h5⟩ := xerr0_zero he
    have ha1 := (ofA (seg b 8 16)).len
    have ha2 := (ofA (seg b 24 16)).len
    refine Triple.enter Try.func93 rfl Try.ntmps93 rfl (fun W => ?_)
    dsimp only [argsF, Nat.reduceAdd]
    repeat' (first
      | refine WPl.nil ?_
      | refine WPq.then ?_
      | refine WPq.thenR ?_
      | refine WPq.thenE ?_
      | refine WPq.blockN ?_
      | refine WPq.blockR ?_
      | refine WPq.blockE ?_
      | refine WPq.blockO rfl ?_
      | refine WPc.seq ?_
      | refine WPc.block ?_
      | refine WPc.ret ?_
      | refine WPc.exit ?_
      | refine WPc.skip ?_
      | refine WPc.region ?_
      | ((show WPc _ _ _ _ _ _ (.region 15 _ true) _; refine WPc.drawn [([], [6, 47, 48, 49, 50, 51, 52, 53, 54, 55]), ([0], [6, 44, 47, 48, 49, 50, 51, 52, 53, 54, 55]), ([0, 1], [6, 44, 45, 47, 48, 49, 50, 51, 52, 53, 54, 55]), ([], [6, 44, 45, 46, 50, 51, 53, 54, 55]), ([3], [6, 44, 45, 46, 47, 50, 51, 53, 54, 55]), ([3, 4], [6, 44, 45, 46, 47, 48, 50, 51, 53, 54, 55]), ([], [6, 44, 45, 46, 47, 48, 49, 53, 54, 55]), ([6], [6, 44, 45, 46, 47, 48, 49, 50, 53, 54, 55]), ([3, 4, 5, 6, 7], [6, 44, 45, 46, 47, 48, 49, 50, 51, 53, 54, 55]), ([], [6, 44, 45, 46, 47, 48, 49, 50, 51, 52]), ([9], [6, 44, 45, 46, 47, 48, 49, 50, 51, 52, 53]), ([9, 10], [6, 44, 45, 46, 47, 48, 49, 50, 51, 52, 53, 54]), ([0, 1, 2, 3, 4, 5, 6, 7, 8, 9, 10, 11], [6, 44, 45, 46, 47, 48, 49, 50, 51, 52, 53, 54, 55]), ([], [44, 45, 46, 47, 48, 49, 50, 51, 52, 53, 54, 55, 56]), ([0, 1, 2, 3, 4, 5, 6, 7, 8, 9, 10, 11, 12, 13], [6, 44, 45, 46, 47, 48, 49, 50, 51, 52, 53, 54, 55, 56])] [(13, 14)] (Γx := []) (by exact takesA) (by repeat' (first | exact own_nil | refine own_cons (by first | exact bx_own | exact rowN_own | exact rfl) ?_ | fail)) (by kernel_rfl) (by kernel_rfl) ?_; dsimp only [prev0, List.length_nil, List.length_cons]))
      | ((show WPc _ _ _ _ _ _ (.region 30 _ true) _; refine WPc.drawn [([], [97, 98, 99, 104, 105, 106, 107, 108, 109, 110]), ([], [96, 104, 105, 106, 107, 108, 109, 110]), ([1], [96, 97, 104, 105, 106, 107, 108, 109, 110]), ([1, 2], [96, 97, 98, 104, 105, 106, 107, 108, 109, 110]), ([0, 1, 2, 3], [96, 97, 98, 99, 104, 105, 106, 107, 108, 109, 110]), ([0, 1, 2, 3, 4], [96, 97, 98, 99, 100, 104, 105, 106, 107, 108, 109, 110]), ([0, 1, 2, 3, 4, 5], [96, 97, 98, 99, 100, 101, 104, 105, 106, 107, 108, 109, 110]), ([0, 1, 2, 3, 4, 5, 6], [96, 97, 98, 99, 100, 101, 102, 104, 105, 106, 107, 108, 109, 110]), ([], [96, 97, 98, 99, 100, 101, 102, 103, 105, 106, 107]), ([], [96, 97, 98, 99, 100, 101, 102, 103, 104]), ([9], [96, 97, 98, 99, 100, 101, 102, 103, 104, 105]), ([9, 10], [96, 97, 98, 99, 100, 101, 102, 103, 104, 105, 106]), ([8, 9, 10, 11], [96, 97, 98, 99, 100, 101, 102, 103, 104, 105, 106, 107]), ([8, 9, 10, 11, 12], [96, 97, 98, 99, 100, 101, 102, 103, 104, 105, 106, 107, 108]), ([8, 9, 10, 11, 12, 13], [96, 97, 98, 99, 100, 101, 102, 103, 104, 105, 106, 107, 108, 109]), ([0, 1, 2, 3, 4, 5, 6, 7, 8, 9, 10, 11, 12, 13, 14], [96, 97, 98, 99, 100, 101, 102, 103, 104, 105, 106, 107, 108, 109, 110]), ([0, 1, 2, 3, 4, 5, 6, 7, 8, 9, 10, 11, 12, 13, 14, 15], [96, 97, 98, 99, 100, 101, 102, 103, 104, 105, 106, 107, 108, 109, 110, 111])] [] (Γx := []) (by exact takesA) (by repeat' (first | exact own_nil | refine own_cons (by first | exact bx_own | exact rowN_own | exact rfl) ?_ | fail)) (by kernel_rfl) (by kernel_rfl) ?_; dsimp only [prev0, List.length_nil, List.length_cons]))
      | ((show WPc _ _ _ _ _ _ (.region 34 _ true) _; refine WPc.drawn [([], [134, 135, 138, 139, 140, 141]), ([], [133, 138, 139, 140, 141]), ([1], [133, 134, 138, 139, 140, 141]), ([0, 1, 2], [133, 134, 135, 138, 139, 140, 141]), ([0, 1, 2, 3], [133, 134, 135, 136, 138, 139, 140, 141]), ([], [133, 134, 135, 136, 137, 140]), ([5], [133, 134, 135, 136, 137, 138, 140]), ([], [133, 134, 135, 136, 137, 138, 139, 142]), ([5, 6, 7], [133, 134, 135, 136, 137, 138, 139, 140, 142]), ([0, 1, 2, 3, 4, 5, 6], [133, 134, 135, 136, 137, 138, 139, 140, 141]), ([0, 1, 2, 3, 4, 5, 6, 9], [133, 134, 135, 136, 137, 138, 139, 140, 141, 142]), ([0, 1, 2, 3, 4, 5, 6, 7, 8, 9, 10], [133, 134, 135, 136, 137, 138, 139, 140, 141, 142]), ([0, 1, 2, 3, 4, 5, 6, 7, 8, 9, 10, 11], [133, 134, 135, 136, 137, 138, 139, 140, 141, 142, 143])] [] (Γx := []) (by exact takesA) (by repeat' (first | exact own_nil | refine own_cons (by first | exact bx_own | exact rowN_own | exact rfl) ?_ | fail)) (by kernel_rfl) (by kernel_rfl) ?_; dsimp only [prev0, List.length_nil, List.length_cons]))
      | ((show RGl _ _ _ _ _ _ _ _ _ _ _; first | (show RGl _ _ _ _ _ _ _ _ (⟨some 26, .call ⟨.value _, _, _⟩, _, _, _, _⟩ :: _) _ _; refine RGl.vl (fun e hk => by (try dsimp only [bndR, ensR, oksR, fcutR, List.append_nil, List.nil_append, List.cons_append, List.append_assoc] at hk ⊢); refine OpT.call (rget_t v b 4 2 (by omega) (by omega) (by omega)) evsA provsA (by kernel_rfl)) ?_) | (show RGl _ _ _ _ _ _ _ _ (⟨some 49, .call ⟨.value _, _, _⟩, _, _, _, _⟩ :: _) _ _; refine RGl.vl (fun e hk => by (try dsimp only [bndR, ensR, oksR, fcutR, List.append_nil, List.nil_append, List.cons_append, List.append_assoc] at hk ⊢); refine OpT.call (r14of_t (subv 1 v 8 16) (seg b 8 16) (seg_length (by omega))) evsA provsA (by kernel_rfl)) ?_) | (show RGl _ _ _ _ _ _ _ _ (⟨some 52, .call ⟨.value _, _, _⟩, _, _, _, _⟩ :: _) _ _; refine RGl.vl (fun e hk => by (try dsimp only [bndR, ensR, oksR, fcutR, List.append_nil, List.nil_append, List.cons_append, List.append_assoc] at hk ⊢); refine OpT.call (r14of_t (subv 1 v 24 16) (seg b 24 16) (seg_length (by omega))) evsA provsA (by kernel_rfl)) ?_) | (show RGl _ _ _ _ _ _ _ _ (⟨some 13, .binOp .gtr _ _ _ _, _, _, _, _⟩ :: _) _ _; refine RGl.rdX (fun e hk => by (try dsimp only [bndR, ensR, oksR, fcutR, List.append_nil, List.nil_append, List.cons_append, List.append_assoc] at hk ⊢); exact ReadR.binE rfl rfl BinR.gtr (congrArg Value.bool (decide_eq_false (by omega)))) ?_) | (show RGl _ _ _ _ _ _ _ _ (⟨some 17, .binOp .lss _ _ _ _, _, _, _, _⟩ :: _) _ _; refine RGl.rdX (fun e hk => by (try dsimp only [bndR, ensR, oksR, fcutR, List.append_nil, List.nil_append, List.cons_append, List.append_assoc] at hk ⊢); exact ReadR.binE rfl rfl BinR.lss (congrArg Value.bool (decide_eq_false (by omega)))) ?_) | (show RGl _ _ _ _ _ _ _ _ (⟨some 23, .binOp .neq _ _ _ _, _, _, _, _⟩ :: _) _ _; refine RGl.rdX (fun e hk => by (try dsimp only [bndR, ensR, oksR, fcutR, List.append_nil, List.nil_append, List.cons_append, List.append_assoc] at hk ⊢); exact ReadR.binE rfl rfl BinR.neq (congrArg Value.bool (show (!decide _) = false by rw [decide_eq_true (by omega)]; rfl))) ?_) | (show RGl _ _ _ _ _ _ _ _ (⟨some 32, .binOp .gtr _ _ _ _, _, _, _, _⟩ :: _) _ _; refine RGl.rdX (fun e hk => by (try dsimp only [bndR, ensR, oksR, fcutR, List.append_nil, List.nil_append, List.cons_append, List.append_assoc] at hk ⊢); exact ReadR.binE rfl rfl BinR.gtr (congrArg Value.bool (decide_eq_false (by omega)))) ?_) | (show RGl _ _ _ _ _ _ _ _ (⟨some 37, .binOp .lss _ _ _ _, _, _, _, _⟩ :: _) _ _; refine RGl.rdX (fun e hk => by (try dsimp only [bndR, ensR, oksR, fcutR, List.append_nil, List.nil_append, List.cons_append, List.append_assoc] at hk ⊢); exact ReadR.binE rfl rfl BinR.lss (congrArg Value.bool (decide_eq_false (by omega)))) ?_) | (show RGl _ _ _ _ _ _ _ _ (⟨some 42, .binOp .eql _ _ _ _, _, _, _, _⟩ :: _) _ _; refine RGl.rdX (fun e hk => by (try dsimp only [bndR, ensR, oksR, fcutR, List.append_nil, List.nil_append, List.cons_append, List.append_assoc] at hk ⊢); exact ReadR.binE rfl rfl BinR.eql (congrArg Value.bool (decide_eq_false (by omega)))) ?_) | (show RGl _ _ _ _ _ _ _ _ (_ :: _) _ _; first | refine RGl.rdA ?_ | refine RGl.rdX (fun e hk => by (try dsimp only [bndR, ensR, oksR, fcutR, List.append_nil, List.nil_append, List.cons_append, List.append_assoc] at hk ⊢); exact readB) ?_) | (show RGl _ _ _ _ _ _ _ _ (⟨_, .alloc _, _, _, _, _⟩ :: _) _ _; refine RGl.nwA ?_) | (show RGl _ _ _ _ _ _ _ _ (⟨_, .store _ _ _, _, _, _, _⟩ :: _) _ _; refine RGl.stA ?_) | (refine RGl.fin (fun e hk => ?_); (try dsimp only [bndA, ensAR, oksA, List.append_nil, List.nil_append, List.cons_append, List.append_assoc] at hk ⊢); (repeat (obtain ⟨hk1, hk⟩ := hk))) | fail))
      | ((show WPc _ _ _ _ _ _ (.cond _ _ _) _; first | refine WPc.cT ?_ | refine WPc.cF ?_))
      | ((first | (show WPl _ _ _ _ _ _ _ (⟨some 2, .alloc _, _, _, _, _⟩ :: _) _; refine WPl.nw fun gr => ?_) | (show WPl _ _ _ _ _ _ _ (⟨some 2, .box _ _, _, _, _, _⟩ :: _) _; refine WPl.nw fun gr => ?_)))
      | ((first | (show WPl _ _ _ _ _ _ _ (⟨some 4, .alloc _, _, _, _, _⟩ :: _) _; refine WPl.nw fun gz => ?_) | (show WPl _ _ _ _ _ _ _ (⟨some 4, .box _ _, _, _, _, _⟩ :: _) _; refine WPl.nw fun gz => ?_)))
      | ((first | (show WPl _ _ _ _ _ _ _ (⟨some 6, .alloc _, _, _, _, _⟩ :: _) _; refine WPl.nw fun gh => ?_) | (show WPl _ _ _ _ _ _ _ (⟨some 6, .box _ _, _, _, _, _⟩ :: _) _; refine WPl.nw fun gh => ?_)))
      | ((show WPl _ _ _ _ _ _ _ (⟨some 26, .call ⟨.value _, _, _⟩, _, _, _, _⟩ :: _) _; refine WPl.cV (rget_t v b 4 2 (by omega) (by omega) (by omega)) ?_))
      | ((show WPl _ _ _ _ _ _ _ (⟨some 49, .call ⟨.value _, _, _⟩, _, _, _, _⟩ :: _) _; refine WPl.cV (r14of_t (subv 1 v 8 16) (seg b 8 16) (seg_length (by omega))) ?_))
      | ((show WPl _ _ _ _ _ _ _ (⟨some 52, .call ⟨.value _, _, _⟩, _, _, _, _⟩ :: _) _; refine WPl.cV (r14of_t (subv 1 v 24 16) (seg b 24 16) (seg_length (by omega))) ?_))
      | ((show WPl _ _ _ _ _ _ _ (⟨some 13, .binOp .gtr _ _ _ _, _, _, _, _⟩ :: _) _; refine WPl.rdX (ReadR.binE rfl rfl BinR.gtr (congrArg Value.bool (decide_eq_false (by omega)))) ?_))
      | ((show WPl _ _ _ _ _ _ _ (⟨some 17, .binOp .lss _ _ _ _, _, _, _, _⟩ :: _) _; refine WPl.rdX (ReadR.binE rfl rfl BinR.lss (congrArg Value.bool (decide_eq_false (by omega)))) ?_))
      | ((show WPl _ _ _ _ _ _ _ (⟨some 23, .binOp .neq _ _ _ _, _, _, _, _⟩ :: _) _; refine WPl.rdX (ReadR.binE rfl rfl BinR.neq (congrArg Value.bool (show (!decide _) = false by rw [decide_eq_true (by omega)]; rfl))) ?_))
      | ((show WPl _ _ _ _ _ _ _ (⟨some 32, .binOp .gtr _ _ _ _, _, _, _, _⟩ :: _) _; refine WPl.rdX (ReadR.binE rfl rfl BinR.gtr (congrArg Value.bool (decide_eq_false (by omega)))) ?_))
      | ((show WPl _ _ _ _ _ _ _ (⟨some 37, .binOp .lss _ _ _ _, _, _, _, _⟩ :: _) _; refine WPl.rdX (ReadR.binE rfl rfl BinR.lss (congrArg Value.bool (decide_eq_false (by omega)))) ?_))
      | ((show WPl _ _ _ _ _ _ _ (⟨some 42, .binOp .eql _ _ _ _, _, _, _, _⟩ :: _) _; refine WPl.rdX (ReadR.binE rfl rfl BinR.eql (congrArg Value.bool (decide_eq_false (by omega)))) ?_))
      | ((show WPl _ _ _ _ _ _ _ (_ :: _) _; first | refine WPl.rd ?_ | refine WPl.sk ?_ | refine WPl.rdB ?_))
      | ((show WPl _ _ _ _ _ _ _ (⟨_, .alloc _, _, _, _, _⟩ :: _) _; refine WPl.nw fun g => ?_))
      | ((show WPl _ _ _ _ _ _ _ (⟨_, .store _ _ _, _, _, _, _⟩ :: _) _; first | refine WPl.st1 ?_ | refine WPl.stA ?_ | refine WPl.stEB ?_ | refine WPl.stRB ?_))
      | fail)
    generalize blk (e _).1 = gh
    first | refine WPc.loop (σ := Nat × XS) (fun p => p.1 ≤ 8 ∧ p.2.pos ≤ b.length ∧ xall b 8 (xs0 b) = xall b (8 - p.1) p.2) (fun p => [bx gh 48 (hcx b p.2), bx gz 48 (hdc Hd.none), bx gr 48 (hdc Hd.none), rb v b]) (fun p => [(0, v), (2, .pointer (some ⟨gr, 0, none⟩)), (4, .pointer (some ⟨gz, 0, none⟩)), (6, .pointer (some ⟨gh, 0, none⟩)), (7, .int .i64 p.1)]) (fun p => 8 - p.1) ((0, xs0 b)) ?_ takesA frsA (fun st km hx hk => ?_)
    · exact ⟨Nat.zero_le _, h2, rfl⟩
    obtain ⟨i, s⟩ := st
    dsimp only at hx hk ⊢
    obtain ⟨hi, hs, hxa⟩ := hx
    clear hk1
    have hbt := rbtw_t s.proto
    cases hb : btw s.proto with
    | false =>
      rw [hb] at hbt
      rw [sVal_ok he (hxa.trans (xall_no hb))]
      repeat' (first
        | refine WPl.nil ?_
        | refine WPq.then ?_
        | refine WPq.thenR ?_
        | refine WPq.thenE ?_
        | refine WPq.blockN ?_
        | refine WPq.blockR ?_
        | refine WPq.blockE ?_
        | refine WPq.blockO rfl ?_
        | refine WPc.seq ?_
        | refine WPc.block ?_
        | refine WPc.ret ?_
        | refine WPc.exit ?_
        | refine WPc.skip ?_
        | refine WPc.region ?_
        | ((show WPc _ _ _ _ _ _ (.region 15 _ true) _; refine WPc.drawn [([], [6, 47, 48, 49, 50, 51, 52, 53, 54, 55]), ([0], [6, 44, 47, 48, 49, 50, 51, 52, 53, 54, 55]), ([0, 1], [6, 44, 45, 47, 48, 49, 50, 51, 52, 53, 54, 55]), ([], [6, 44, 45, 46, 50, 51, 53, 54, 55]), ([3], [6, 44, 45, 46, 47, 50, 51, 53, 54, 55]), ([3, 4], [6, 44, 45, 46, 47, 48, 50, 51, 53, 54, 55]), ([], [6, 44, 45, 46, 47, 48, 49, 53, 54, 55]), ([6], [6, 44, 45, 46, 47, 48, 49, 50, 53, 54, 55]), ([3, 4, 5, 6, 7], [6, 44, 45, 46, 47, 48, 49, 50, 51, 53, 54, 55]), ([], [6, 44, 45, 46, 47, 48, 49, 50, 51, 52]), ([9], [6, 44, 45, 46, 47, 48, 49, 50, 51, 52, 53]), ([9, 10], [6, 44, 45, 46, 47, 48, 49, 50, 51, 52, 53, 54]), ([0, 1, 2, 3, 4, 5, 6, 7, 8, 9, 10, 11], [6, 44, 45, 46, 47, 48, 49, 50, 51, 52, 53, 54, 55]), ([], [44, 45, 46, 47, 48, 49, 50, 51, 52, 53, 54, 55, 56]), ([0, 1, 2, 3, 4, 5, 6, 7, 8, 9, 10, 11, 12, 13], [6, 44, 45, 46, 47, 48, 49, 50, 51, 52, 53, 54, 55, 56])] [(13, 14)] (Γx := []) (by exact takesA) (by repeat' (first | exact own_nil | refine own_cons (by first | exact bx_own | exact rowN_own | exact rfl) ?_ | fail)) (by kernel_rfl) (by kernel_rfl) ?_; dsimp only [prev0, List.length_nil, List.length_cons]))
        | ((show WPc _ _ _ _ _ _ (.region 30 _ true) _; refine WPc.drawn [([], [97, 98, 99, 104, 105, 106, 107, 108, 109, 110]), ([], [96, 104, 105, 106, 107, 108, 109, 110]), ([1], [96, 97, 104, 105, 106, 107, 108, 109, 110]), ([1, 2], [96, 97, 98, 104, 105, 106, 107, 108, 109, 110]), ([0, 1, 2, 3], [96, 97, 98, 99, 104, 105, 106, 107, 108, 109, 110]), ([0, 1, 2, 3, 4], [96, 97, 98, 99, 100, 104, 105, 106, 107, 108, 109, 110]), ([0, 1, 2, 3, 4, 5], [96, 97, 98, 99, 100, 101, 104, 105, 106, 107, 108, 109, 110]), ([0, 1, 2, 3, 4, 5, 6], [96, 97, 98, 99, 100, 101, 102, 104, 105, 106, 107, 108, 109, 110]), ([], [96, 97, 98, 99, 100, 101, 102, 103, 105, 106, 107]), ([], [96, 97, 98, 99, 100, 101, 102, 103, 104]), ([9], [96, 97, 98, 99, 100, 101, 102, 103, 104, 105]), ([9, 10], [96, 97, 98, 99, 100, 101, 102, 103, 104, 105, 106]), ([8, 9, 10, 11], [96, 97, 98, 99, 100, 101, 102, 103, 104, 105, 106, 107]), ([8, 9, 10, 11, 12], [96, 97, 98, 99, 100, 101, 102, 103, 104, 105, 106, 107, 108]), ([8, 9, 10, 11, 12, 13], [96, 97, 98, 99, 100, 101, 102, 103, 104, 105, 106, 107, 108, 109]), ([0, 1, 2, 3, 4, 5, 6, 7, 8, 9, 10, 11, 12, 13, 14], [96, 97, 98, 99, 100, 101, 102, 103, 104, 105, 106, 107, 108, 109, 110]), ([0, 1, 2, 3, 4, 5, 6, 7, 8, 9, 10, 11, 12, 13, 14, 15], [96, 97, 98, 99, 100, 101, 102, 103, 104, 105, 106, 107, 108, 109, 110, 111])] [] (Γx := []) (by exact takesA) (by repeat' (first | exact own_nil | refine own_cons (by first | exact bx_own | exact rowN_own | exact rfl) ?_ | fail)) (by kernel_rfl) (by kernel_rfl) ?_; dsimp only [prev0, List.length_nil, List.length_cons]))
        | ((show WPc _ _ _ _ _ _ (.region 34 _ true) _; refine WPc.drawn [([], [134, 135, 138, 139, 140, 141]), ([], [133, 138, 139, 140, 141]), ([1], [133, 134, 138, 139, 140, 141]), ([0, 1, 2], [133, 134, 135, 138, 139, 140, 141]), ([0, 1, 2, 3], [133, 134, 135, 136, 138, 139, 140, 141]), ([], [133, 134, 135, 136, 137, 140]), ([5], [133, 134, 135, 136, 137, 138, 140]), ([], [133, 134, 135, 136, 137, 138, 139, 142]), ([5, 6, 7], [133, 134, 135, 136, 137, 138, 139, 140, 142]), ([0, 1, 2, 3, 4, 5, 6], [133, 134, 135, 136, 137, 138, 139, 140, 141]), ([0, 1, 2, 3, 4, 5, 6, 9], [133, 134, 135, 136, 137, 138, 139, 140, 141, 142]), ([0, 1, 2, 3, 4, 5, 6, 7, 8, 9, 10], [133, 134, 135, 136, 137, 138, 139, 140, 141, 142]), ([0, 1, 2, 3, 4, 5, 6, 7, 8, 9, 10, 11], [133, 134, 135, 136, 137, 138, 139, 140, 141, 142, 143])] [] (Γx := []) (by exact takesA) (by repeat' (first | exact own_nil | refine own_cons (by first | exact bx_own | exact rowN_own | exact rfl) ?_ | fail)) (by kernel_rfl) (by kernel_rfl) ?_; dsimp only [prev0, List.length_nil, List.length_cons]))
        | ((show RGl _ _ _ _ _ _ _ _ _ _ _; first | (show RGl _ _ _ _ _ _ _ _ (⟨some 63, .call ⟨.value _, _, _⟩, _, _, _, _⟩ :: _) _ _; refine RGl.vl (fun e hk => by (try dsimp only [bndR, ensR, oksR, fcutR, List.append_nil, List.nil_append, List.cons_append, List.append_assoc] at hk ⊢); refine OpT.call (hbt) evsA provsA (by kernel_rfl)) ?_) | (show RGl _ _ _ _ _ _ _ _ (_ :: _) _ _; first | refine RGl.rdA ?_ | refine RGl.rdX (fun e hk => by (try dsimp only [bndR, ensR, oksR, fcutR, List.append_nil, List.nil_append, List.cons_append, List.append_assoc] at hk ⊢); exact readB) ?_) | (show RGl _ _ _ _ _ _ _ _ (⟨_, .alloc _, _, _, _, _⟩ :: _) _ _; refine RGl.nwA ?_) | (show RGl _ _ _ _ _ _ _ _ (⟨_, .store _ _ _, _, _, _, _⟩ :: _) _ _; refine RGl.stA ?_) | (refine RGl.fin (fun e hk => ?_); (try dsimp only [bndA, ensAR, oksA, List.append_nil, List.nil_append, List.cons_append, List.append_assoc] at hk ⊢); (repeat (obtain ⟨hk1, hk⟩ := hk))) | fail))
        | ((show WPc _ _ _ _ _ _ (.cond _ _ _) _; first | refine WPc.cT ?_ | refine WPc.cF ?_ | (refine WPc.cS (fun hc => ?_) (fun hc => ?_) <;> (try simp only [decide_eq_true_eq, decide_eq_false_iff_not, Bool.not_eq_true', Bool.not_eq_false', Bool.and_eq_true, Bool.or_eq_true, Bool.and_eq_false_iff, Bool.or_eq_false_iff, Bool.not_true, Bool.not_false, Int.not_lt, Int.not_le] at hc) <;> (try (exfalso; first | omega | exact clash1 hc (by assumption) | exact clash2 hc (by assumption) | exact hc trivial | exact hc (by assumption) | exact absurd hc (by assumption))))))
        | ((show WPl _ _ _ _ _ _ _ (⟨some 63, .call ⟨.value _, _, _⟩, _, _, _, _⟩ :: _) _; refine WPl.cV (hbt) ?_))
        | ((show WPl _ _ _ _ _ _ _ (_ :: _) _; first | refine WPl.rd ?_ | refine WPl.sk ?_ | refine WPl.rdB ?_))
        | ((show WPl _ _ _ _ _ _ _ (⟨_, .alloc _, _, _, _, _⟩ :: _) _; refine WPl.nw fun g => ?_))
        | ((show WPl _ _ _ _ _ _ _ (⟨_, .store _ _ _, _, _, _, _⟩ :: _) _; first | refine WPl.st1 ?_ | refine WPl.stA ?_ | refine WPl.stEB ?_ | refine WPl.stRB ?_))
        | ((show WPl _ _ _ _ _ _ _ (_ :: _) _; refine WPl.spl (fun hc => ?_) (fun hc => ?_) <;> (try simp only [decide_eq_true_eq, decide_eq_false_iff_not, Bool.not_eq_true', Bool.not_eq_false', Bool.and_eq_true, Bool.or_eq_true, Bool.and_eq_false_iff, Bool.or_eq_false_iff, Bool.not_true, Bool.not_false, Int.not_lt, Int.not_le] at hc) <;> (try (exfalso; first | omega | exact clash1 hc (by assumption) | exact clash2 hc (by assumption) | exact hc trivial | exact hc (by assumption) | exact absurd hc (by assumption)))))
        | fail)
      all_goals try (first
        | exact WPq.dV
        | exact WPq.dR
        | exact WPq.dR2
        | exact WPq.dH
        | exact WPq.dBH
        | exact WPq.dT)
    | true =>
      rw [hb] at hbt
      by_cases h8 : i = 8
      · subst h8
        rw [sVal_no he (by omega) (hxa.trans (xall_end hb))]
        repeat' (first
          | refine WPl.nil ?_
          | refine WPq.then ?_
          | refine WPq.thenR ?_
          | refine WPq.thenE ?_
          | refine WPq.blockN ?_
          | refine WPq.blockR ?_
          | refine WPq.blockE ?_
          | refine WPq.blockO rfl ?_
          | refine WPc.seq ?_
          | refine WPc.block ?_
          | refine WPc.ret ?_
          | refine WPc.exit ?_
          | refine WPc.skip ?_
          | refine WPc.region ?_
          | ((show WPc _ _ _ _ _ _ (.region 15 _ true) _; refine WPc.drawn [([], [6, 47, 48, 49, 50, 51, 52, 53, 54, 55]), ([0], [6, 44, 47, 48, 49, 50, 51, 52, 53, 54, 55]), ([0, 1], [6, 44, 45, 47, 48, 49, 50, 51, 52, 53, 54, 55]), ([], [6, 44, 45, 46, 50, 51, 53, 54, 55]), ([3], [6, 44, 45, 46, 47, 50, 51, 53, 54, 55]), ([3, 4], [6, 44, 45, 46, 47, 48, 50, 51, 53, 54, 55]), ([], [6, 44, 45, 46, 47, 48, 49, 53, 54, 55]), ([6], [6, 44, 45, 46, 47, 48, 49, 50, 53, 54, 55]), ([3, 4, 5, 6, 7], [6, 44, 45, 46, 47, 48, 49, 50, 51, 53, 54, 55]), ([], [6, 44, 45, 46, 47, 48, 49, 50, 51, 52]), ([9], [6, 44, 45, 46, 47, 48, 49, 50, 51, 52, 53]), ([9, 10], [6, 44, 45, 46, 47, 48, 49, 50, 51, 52, 53, 54]), ([0, 1, 2, 3, 4, 5, 6, 7, 8, 9, 10, 11], [6, 44, 45, 46, 47, 48, 49, 50, 51, 52, 53, 54, 55]), ([], [44, 45, 46, 47, 48, 49, 50, 51, 52, 53, 54, 55, 56]), ([0, 1, 2, 3, 4, 5, 6, 7, 8, 9, 10, 11, 12, 13], [6, 44, 45, 46, 47, 48, 49, 50, 51, 52, 53, 54, 55, 56])] [(13, 14)] (Γx := []) (by exact takesA) (by repeat' (first | exact own_nil | refine own_cons (by first | exact bx_own | exact rowN_own | exact rfl) ?_ | fail)) (by kernel_rfl) (by kernel_rfl) ?_; dsimp only [prev0, List.length_nil, List.length_cons]))
          | ((show WPc _ _ _ _ _ _ (.region 30 _ true) _; refine WPc.drawn [([], [97, 98, 99, 104, 105, 106, 107, 108, 109, 110]), ([], [96, 104, 105, 106, 107, 108, 109, 110]), ([1], [96, 97, 104, 105, 106, 107, 108, 109, 110]), ([1, 2], [96, 97, 98, 104, 105, 106, 107, 108, 109, 110]), ([0, 1, 2, 3], [96, 97, 98, 99, 104, 105, 106, 107, 108, 109, 110]), ([0, 1, 2, 3, 4], [96, 97, 98, 99, 100, 104, 105, 106, 107, 108, 109, 110]), ([0, 1, 2, 3, 4, 5], [96, 97, 98, 99, 100, 101, 104, 105, 106, 107, 108, 109, 110]), ([0, 1, 2, 3, 4, 5, 6], [96, 97, 98, 99, 100, 101, 102, 104, 105, 106, 107, 108, 109, 110]), ([], [96, 97, 98, 99, 100, 101, 102, 103, 105, 106, 107]), ([], [96, 97, 98, 99, 100, 101, 102, 103, 104]), ([9], [96, 97, 98, 99, 100, 101, 102, 103, 104, 105]), ([9, 10], [96, 97, 98, 99, 100, 101, 102, 103, 104, 105, 106]), ([8, 9, 10, 11], [96, 97, 98, 99, 100, 101, 102, 103, 104, 105, 106, 107]), ([8, 9, 10, 11, 12], [96, 97, 98, 99, 100, 101, 102, 103, 104, 105, 106, 107, 108]), ([8, 9, 10, 11, 12, 13], [96, 97, 98, 99, 100, 101, 102, 103, 104, 105, 106, 107, 108, 109]), ([0, 1, 2, 3, 4, 5, 6, 7, 8, 9, 10, 11, 12, 13, 14], [96, 97, 98, 99, 100, 101, 102, 103, 104, 105, 106, 107, 108, 109, 110]), ([0, 1, 2, 3, 4, 5, 6, 7, 8, 9, 10, 11, 12, 13, 14, 15], [96, 97, 98, 99, 100, 101, 102, 103, 104, 105, 106, 107, 108, 109, 110, 111])] [] (Γx := []) (by exact takesA) (by repeat' (first | exact own_nil | refine own_cons (by first | exact bx_own | exact rowN_own | exact rfl) ?_ | fail)) (by kernel_rfl) (by kernel_rfl) ?_; dsimp only [prev0, List.length_nil, List.length_cons]))
          | ((show WPc _ _ _ _ _ _ (.region 34 _ true) _; refine WPc.drawn [([], [134, 135, 138, 139, 140, 141]), ([], [133, 138, 139, 140, 141]), ([1], [133, 134, 138, 139, 140, 141]), ([0, 1, 2], [133, 134, 135, 138, 139, 140, 141]), ([0, 1, 2, 3], [133, 134, 135, 136, 138, 139, 140, 141]), ([], [133, 134, 135, 136, 137, 140]), ([5], [133, 134, 135, 136, 137, 138, 140]), ([], [133, 134, 135, 136, 137, 138, 139, 142]), ([5, 6, 7], [133, 134, 135, 136, 137, 138, 139, 140, 142]), ([0, 1, 2, 3, 4, 5, 6], [133, 134, 135, 136, 137, 138, 139, 140, 141]), ([0, 1, 2, 3, 4, 5, 6, 9], [133, 134, 135, 136, 137, 138, 139, 140, 141, 142]), ([0, 1, 2, 3, 4, 5, 6, 7, 8, 9, 10], [133, 134, 135, 136, 137, 138, 139, 140, 141, 142]), ([0, 1, 2, 3, 4, 5, 6, 7, 8, 9, 10, 11], [133, 134, 135, 136, 137, 138, 139, 140, 141, 142, 143])] [] (Γx := []) (by exact takesA) (by repeat' (first | exact own_nil | refine own_cons (by first | exact bx_own | exact rowN_own | exact rfl) ?_ | fail)) (by kernel_rfl) (by kernel_rfl) ?_; dsimp only [prev0, List.length_nil, List.length_cons]))
          | ((show RGl _ _ _ _ _ _ _ _ _ _ _; first | (show RGl _ _ _ _ _ _ _ _ (⟨some 63, .call ⟨.value _, _, _⟩, _, _, _, _⟩ :: _) _ _; refine RGl.vl (fun e hk => by (try dsimp only [bndR, ensR, oksR, fcutR, List.append_nil, List.nil_append, List.cons_append, List.append_assoc] at hk ⊢); refine OpT.call (hbt) evsA provsA (by kernel_rfl)) ?_) | (show RGl _ _ _ _ _ _ _ _ (_ :: _) _ _; first | refine RGl.rdA ?_ | refine RGl.rdX (fun e hk => by (try dsimp only [bndR, ensR, oksR, fcutR, List.append_nil, List.nil_append, List.cons_append, List.append_assoc] at hk ⊢); exact readB) ?_) | (show RGl _ _ _ _ _ _ _ _ (⟨_, .alloc _, _, _, _, _⟩ :: _) _ _; refine RGl.nwA ?_) | (show RGl _ _ _ _ _ _ _ _ (⟨_, .store _ _ _, _, _, _, _⟩ :: _) _ _; refine RGl.stA ?_) | (refine RGl.fin (fun e hk => ?_); (try dsimp only [bndA, ensAR, oksA, List.append_nil, List.nil_append, List.cons_append, List.append_assoc] at hk ⊢); (repeat (obtain ⟨hk1, hk⟩ := hk))) | fail))
          | ((show WPc _ _ _ _ _ _ (.cond _ _ _) _; first | refine WPc.cT ?_ | refine WPc.cF ?_ | (refine WPc.cS (fun hc => ?_) (fun hc => ?_) <;> (try simp only [decide_eq_true_eq, decide_eq_false_iff_not, Bool.not_eq_true', Bool.not_eq_false', Bool.and_eq_true, Bool.or_eq_true, Bool.and_eq_false_iff, Bool.or_eq_false_iff, Bool.not_true, Bool.not_false, Int.not_lt, Int.not_le] at hc) <;> (try (exfalso; first | omega | exact clash1 hc (by assumption) | exact clash2 hc (by assumption) | exact hc trivial | exact hc (by assumption) | exact absurd hc (by assumption))))))
          | ((show WPl _ _ _ _ _ _ _ (⟨some 63, .call ⟨.value _, _, _⟩, _, _, _, _⟩ :: _) _; refine WPl.cV (hbt) ?_))
          | ((show WPl _ _ _ _ _ _ _ (_ :: _) _; first | refine WPl.rd ?_ | refine WPl.sk ?_ | refine WPl.rdB ?_))
          | ((show WPl _ _ _ _ _ _ _ (⟨_, .alloc _, _, _, _, _⟩ :: _) _; refine WPl.nw fun g => ?_))
          | ((show WPl _ _ _ _ _ _ _ (⟨_, .store _ _ _, _, _, _, _⟩ :: _) _; first | refine WPl.st1 ?_ | refine WPl.stA ?_ | refine WPl.stEB ?_ | refine WPl.stRB ?_))
          | ((show WPl _ _ _ _ _ _ _ (_ :: _) _; refine WPl.spl (fun hc => ?_) (fun hc => ?_) <;> (try simp only [decide_eq_true_eq, decide_eq_false_iff_not, Bool.not_eq_true', Bool.not_eq_false', Bool.and_eq_true, Bool.or_eq_true, Bool.and_eq_false_iff, Bool.or_eq_false_iff, Bool.not_true, Bool.not_false, Int.not_lt, Int.not_le] at hc) <;> (try (exfalso; first | omega | exact clash1 hc (by assumption) | exact clash2 hc (by assumption) | exact hc trivial | exact hc (by assumption) | exact absurd hc (by assumption)))))
          | fail)
        all_goals try (first
          | exact WPq.dV
          | exact WPq.dR
          | exact WPq.dR2
          | exact WPq.dH
          | exact WPq.dBH
          | exact WPq.dT)
      · obtain ⟨m, hm⟩ : ∃ m, 8 - i = m + 1 := ⟨7 - i, by omega⟩
        by_cases h0 : s.proto.toNat = 0 ∧ m + 1 < 8
        · rw [hm] at hxa
          rw [sVal_no he (by omega) (hxa.trans (xall_form hb h0.1 h0.2))]
          obtain ⟨h00, h01⟩ := h0
          repeat' (first
            | refine WPl.nil ?_
            | refine WPq.then ?_
            | refine WPq.thenR ?_
            | refine WPq.thenE ?_
            | refine WPq.blockN ?_
            | refine WPq.blockR ?_
            | refine WPq.blockE ?_
            | refine WPq.blockO rfl ?_
            | refine WPc.seq ?_
            | refine WPc.block ?_
            | refine WPc.ret ?_
            | refine WPc.exit ?_
            | refine WPc.skip ?_
            | refine WPc.region ?_
            | ((show WPc _ _ _ _ _ _ (.region 15 _ true) _; refine WPc.drawn [([], [6, 47, 48, 49, 50, 51, 52, 53, 54, 55]), ([0], [6, 44, 47, 48, 49, 50, 51, 52, 53, 54, 55]), ([0, 1], [6, 44, 45, 47, 48, 49, 50, 51, 52, 53, 54, 55]), ([], [6, 44, 45, 46, 50, 51, 53, 54, 55]), ([3], [6, 44, 45, 46, 47, 50, 51, 53, 54, 55]), ([3, 4], [6, 44, 45, 46, 47, 48, 50, 51, 53, 54, 55]), ([], [6, 44, 45, 46, 47, 48, 49, 53, 54, 55]), ([6], [6, 44, 45, 46, 47, 48, 49, 50, 53, 54, 55]), ([3, 4, 5, 6, 7], [6, 44, 45, 46, 47, 48, 49, 50, 51, 53, 54, 55]), ([], [6, 44, 45, 46, 47, 48, 49, 50, 51, 52]), ([9], [6, 44, 45, 46, 47, 48, 49, 50, 51, 52, 53]), ([9, 10], [6, 44, 45, 46, 47, 48, 49, 50, 51, 52, 53, 54]), ([0, 1, 2, 3, 4, 5, 6, 7, 8, 9, 10, 11], [6, 44, 45, 46, 47, 48, 49, 50, 51, 52, 53, 54, 55]), ([], [44, 45, 46, 47, 48, 49, 50, 51, 52, 53, 54, 55, 56]), ([0, 1, 2, 3, 4, 5, 6, 7, 8, 9, 10, 11, 12, 13], [6, 44, 45, 46, 47, 48, 49, 50, 51, 52, 53, 54, 55, 56])] [(13, 14)] (Γx := []) (by exact takesA) (by repeat' (first | exact own_nil | refine own_cons (by first | exact bx_own | exact rowN_own | exact rfl) ?_ | fail)) (by kernel_rfl) (by kernel_rfl) ?_; dsimp only [prev0, List.length_nil, List.length_cons]))
            | ((show WPc _ _ _ _ _ _ (.region 30 _ true) _; refine WPc.drawn [([], [97, 98, 99, 104, 105, 106, 107, 108, 109, 110]), ([], [96, 104, 105, 106, 107, 108, 109, 110]), ([1], [96, 97, 104, 105, 106, 107, 108, 109, 110]), ([1, 2], [96, 97, 98, 104, 105, 106, 107, 108, 109, 110]), ([0, 1, 2, 3], [96, 97, 98, 99, 104, 105, 106, 107, 108, 109, 110]), ([0, 1, 2, 3, 4], [96, 97, 98, 99, 100, 104, 105, 106, 107, 108, 109, 110]), ([0, 1, 2, 3, 4, 5], [96, 97, 98, 99, 100, 101, 104, 105, 106, 107, 108, 109, 110]), ([0, 1, 2, 3, 4, 5, 6], [96, 97, 98, 99, 100, 101, 102, 104, 105, 106, 107, 108, 109, 110]), ([], [96, 97, 98, 99, 100, 101, 102, 103, 105, 106, 107]), ([], [96, 97, 98, 99, 100, 101, 102, 103, 104]), ([9], [96, 97, 98, 99, 100, 101, 102, 103, 104, 105]), ([9, 10], [96, 97, 98, 99, 100, 101, 102, 103, 104, 105, 106]), ([8, 9, 10, 11], [96, 97, 98, 99, 100, 101, 102, 103, 104, 105, 106, 107]), ([8, 9, 10, 11, 12], [96, 97, 98, 99, 100, 101, 102, 103, 104, 105, 106, 107, 108]), ([8, 9, 10, 11, 12, 13], [96, 97, 98, 99, 100, 101, 102, 103, 104, 105, 106, 107, 108, 109]), ([0, 1, 2, 3, 4, 5, 6, 7, 8, 9, 10, 11, 12, 13, 14], [96, 97, 98, 99, 100, 101, 102, 103, 104, 105, 106, 107, 108, 109, 110]), ([0, 1, 2, 3, 4, 5, 6, 7, 8, 9, 10, 11, 12, 13, 14, 15], [96, 97, 98, 99, 100, 101, 102, 103, 104, 105, 106, 107, 108, 109, 110, 111])] [] (Γx := []) (by exact takesA) (by repeat' (first | exact own_nil | refine own_cons (by first | exact bx_own | exact rowN_own | exact rfl) ?_ | fail)) (by kernel_rfl) (by kernel_rfl) ?_; dsimp only [prev0, List.length_nil, List.length_cons]))
            | ((show WPc _ _ _ _ _ _ (.region 34 _ true) _; refine WPc.drawn [([], [134, 135, 138, 139, 140, 141]), ([], [133, 138, 139, 140, 141]), ([1], [133, 134, 138, 139, 140, 141]), ([0, 1, 2], [133, 134, 135, 138, 139, 140, 141]), ([0, 1, 2, 3], [133, 134, 135, 136, 138, 139, 140, 141]), ([], [133, 134, 135, 136, 137, 140]), ([5], [133, 134, 135, 136, 137, 138, 140]), ([], [133, 134, 135, 136, 137, 138, 139, 142]), ([5, 6, 7], [133, 134, 135, 136, 137, 138, 139, 140, 142]), ([0, 1, 2, 3, 4, 5, 6], [133, 134, 135, 136, 137, 138, 139, 140, 141]), ([0, 1, 2, 3, 4, 5, 6, 9], [133, 134, 135, 136, 137, 138, 139, 140, 141, 142]), ([0, 1, 2, 3, 4, 5, 6, 7, 8, 9, 10], [133, 134, 135, 136, 137, 138, 139, 140, 141, 142]), ([0, 1, 2, 3, 4, 5, 6, 7, 8, 9, 10, 11], [133, 134, 135, 136, 137, 138, 139, 140, 141, 142, 143])] [] (Γx := []) (by exact takesA) (by repeat' (first | exact own_nil | refine own_cons (by first | exact bx_own | exact rowN_own | exact rfl) ?_ | fail)) (by kernel_rfl) (by kernel_rfl) ?_; dsimp only [prev0, List.length_nil, List.length_cons]))
            | ((show RGl _ _ _ _ _ _ _ _ _ _ _; first | (show RGl _ _ _ _ _ _ _ _ (⟨some 63, .call ⟨.value _, _, _⟩, _, _, _, _⟩ :: _) _ _; refine RGl.vl (fun e hk => by (try dsimp only [bndR, ensR, oksR, fcutR, List.append_nil, List.nil_append, List.cons_append, List.append_assoc] at hk ⊢); refine OpT.call (hbt) evsA provsA (by kernel_rfl)) ?_) | (show RGl _ _ _ _ _ _ _ _ (_ :: _) _ _; first | refine RGl.rdA ?_ | refine RGl.rdX (fun e hk => by (try dsimp only [bndR, ensR, oksR, fcutR, List.append_nil, List.nil_append, List.cons_append, List.append_assoc] at hk ⊢); exact readB) ?_) | (show RGl _ _ _ _ _ _ _ _ (⟨_, .alloc _, _, _, _, _⟩ :: _) _ _; refine RGl.nwA ?_) | (show RGl _ _ _ _ _ _ _ _ (⟨_, .store _ _ _, _, _, _, _⟩ :: _) _ _; refine RGl.stA ?_) | (refine RGl.fin (fun e hk => ?_); (try dsimp only [bndA, ensAR, oksA, List.append_nil, List.nil_append, List.cons_append, List.append_assoc] at hk ⊢); (repeat (obtain ⟨hk1, hk⟩ := hk))) | fail))
            | ((show WPc _ _ _ _ _ _ (.cond _ _ _) _; first | refine WPc.cT ?_ | refine WPc.cF ?_ | (refine WPc.cS (fun hc => ?_) (fun hc => ?_) <;> (try simp only [decide_eq_true_eq, decide_eq_false_iff_not, Bool.not_eq_true', Bool.not_eq_false', Bool.and_eq_true, Bool.or_eq_true, Bool.and_eq_false_iff, Bool.or_eq_false_iff, Bool.not_true, Bool.not_false, Int.not_lt, Int.not_le] at hc) <;> (try (exfalso; first | omega | exact clash1 hc (by assumption) | exact clash2 hc (by assumption) | exact hc trivial | exact hc (by assumption) | exact absurd hc (by assumption))))))
            | ((show WPl _ _ _ _ _ _ _ (⟨some 63, .call ⟨.value _, _, _⟩, _, _, _, _⟩ :: _) _; refine WPl.cV (hbt) ?_))
            | ((show WPl _ _ _ _ _ _ _ (_ :: _) _; first | refine WPl.rd ?_ | refine WPl.sk ?_ | refine WPl.rdB ?_))
            | ((show WPl _ _ _ _ _ _ _ (⟨_, .alloc _, _, _, _, _⟩ :: _) _; refine WPl.nw fun g => ?_))
            | ((show WPl _ _ _ _ _ _ _ (⟨_, .store _ _ _, _, _, _, _⟩ :: _) _; first | refine WPl.st1 ?_ | refine WPl.stA ?_ | refine WPl.stEB ?_ | refine WPl.stRB ?_))
            | ((show WPl _ _ _ _ _ _ _ (_ :: _) _; refine WPl.spl (fun hc => ?_) (fun hc => ?_) <;> (try simp only [decide_eq_true_eq, decide_eq_false_iff_not, Bool.not_eq_true', Bool.not_eq_false', Bool.and_eq_true, Bool.or_eq_true, Bool.and_eq_false_iff, Bool.or_eq_false_iff, Bool.not_true, Bool.not_false, Int.not_lt, Int.not_le] at hc) <;> (try (exfalso; first | omega | exact clash1 hc (by assumption) | exact clash2 hc (by assumption) | exact hc trivial | exact hc (by assumption) | exact absurd hc (by assumption)))))
            | fail)
          all_goals try (first
            | exact WPq.dV
            | exact WPq.dR
            | exact WPq.dR2
            | exact WPq.dH
            | exact WPq.dBH
            | exact WPq.dT)
        · have h0' : ¬ s.proto.toNat = 0 ∨ i = 0 := by omega
          have hsl : b.length - s.pos < 8 ∨ (s.pos + 8 ≤ b.length ∧ s.pos ≤ 2040) := by omega
          have hbb := xbad_b b s
          have hc1 := byteN_lt b (s.pos + 1)
          have hc2 := byteN_lt b (s.pos + 2)
          have hc3 := byteN_lt b (s.pos + 3)
          have hsz : (8 : Int) + 8 * (((b.getD (s.pos + 1) 0).toNat : Nat) : Int) = ((8 + 8 * byteN b (s.pos + 1) : Nat) : Int) := by unfold byteN; omega
          have hK : (((b.getD (s.pos + 2) 0).toNat : Nat) : Int) * 256 + (((b.getD (s.pos + 3) 0).toNat : Nat) : Int) = ((xK b s.pos : Nat) : Int) := by unfold xK byteN; omega
          have hKl : xK b s.pos < 65536 := by unfold xK; omega
          cases hbad : xbad b s with
          | true =>
            rw [hm] at hxa
            rw [sVal_no he (by omega) (hxa.trans (xall_bad hb h0 hbad))]
            rw [hbad] at hbb
            rcases hsl with hsl | ⟨hsl, hsl2⟩
            · skip
              repeat' (first
                | refine WPl.nil ?_
                | refine WPq.then ?_
                | refine WPq.thenR ?_
                | refine WPq.thenE ?_
                | refine WPq.blockN ?_
                | refine WPq.blockR ?_
                | refine WPq.blockE ?_
                | refine WPq.blockO rfl ?_
                | refine WPc.seq ?_
                | refine WPc.block ?_
                | refine WPc.ret ?_
                | refine WPc.exit ?_
                | refine WPc.skip ?_
                | refine WPc.region ?_
                | ((show WPc _ _ _ _ _ _ (.region 15 _ true) _; refine WPc.drawn [([], [6, 47, 48, 49, 50, 51, 52, 53, 54, 55]), ([0], [6, 44, 47, 48, 49, 50, 51, 52, 53, 54, 55]), ([0, 1], [6, 44, 45, 47, 48, 49, 50, 51, 52, 53, 54, 55]), ([], [6, 44, 45, 46, 50, 51, 53, 54, 55]), ([3], [6, 44, 45, 46, 47, 50, 51, 53, 54, 55]), ([3, 4], [6, 44, 45, 46, 47, 48, 50, 51, 53, 54, 55]), ([], [6, 44, 45, 46, 47, 48, 49, 53, 54, 55]), ([6], [6, 44, 45, 46, 47, 48, 49, 50, 53, 54, 55]), ([3, 4, 5, 6, 7], [6, 44, 45, 46, 47, 48, 49, 50, 51, 53, 54, 55]), ([], [6, 44, 45, 46, 47, 48, 49, 50, 51, 52]), ([9], [6, 44, 45, 46, 47, 48, 49, 50, 51, 52, 53]), ([9, 10], [6, 44, 45, 46, 47, 48, 49, 50, 51, 52, 53, 54]), ([0, 1, 2, 3, 4, 5, 6, 7, 8, 9, 10, 11], [6, 44, 45, 46, 47, 48, 49, 50, 51, 52, 53, 54, 55]), ([], [44, 45, 46, 47, 48, 49, 50, 51, 52, 53, 54, 55, 56]), ([0, 1, 2, 3, 4, 5, 6, 7, 8, 9, 10, 11, 12, 13], [6, 44, 45, 46, 47, 48, 49, 50, 51, 52, 53, 54, 55, 56])] [(13, 14)] (Γx := []) (by exact takesA) (by repeat' (first | exact own_nil | refine own_cons (by first | exact bx_own | exact rowN_own | exact rfl) ?_ | fail)) (by kernel_rfl) (by kernel_rfl) ?_; dsimp only [prev0, List.length_nil, List.length_cons]))
                | ((show WPc _ _ _ _ _ _ (.region 30 _ true) _; refine WPc.drawn [([], [97, 98, 99, 104, 105, 106, 107, 108, 109, 110]), ([], [96, 104, 105, 106, 107, 108, 109, 110]), ([1], [96, 97, 104, 105, 106, 107, 108, 109, 110]), ([1, 2], [96, 97, 98, 104, 105, 106, 107, 108, 109, 110]), ([0, 1, 2, 3], [96, 97, 98, 99, 104, 105, 106, 107, 108, 109, 110]), ([0, 1, 2, 3, 4], [96, 97, 98, 99, 100, 104, 105, 106, 107, 108, 109, 110]), ([0, 1, 2, 3, 4, 5], [96, 97, 98, 99, 100, 101, 104, 105, 106, 107, 108, 109, 110]), ([0, 1, 2, 3, 4, 5, 6], [96, 97, 98, 99, 100, 101, 102, 104, 105, 106, 107, 108, 109, 110]), ([], [96, 97, 98, 99, 100, 101, 102, 103, 105, 106, 107]), ([], [96, 97, 98, 99, 100, 101, 102, 103, 104]), ([9], [96, 97, 98, 99, 100, 101, 102, 103, 104, 105]), ([9, 10], [96, 97, 98, 99, 100, 101, 102, 103, 104, 105, 106]), ([8, 9, 10, 11], [96, 97, 98, 99, 100, 101, 102, 103, 104, 105, 106, 107]), ([8, 9, 10, 11, 12], [96, 97, 98, 99, 100, 101, 102, 103, 104, 105, 106, 107, 108]), ([8, 9, 10, 11, 12, 13], [96, 97, 98, 99, 100, 101, 102, 103, 104, 105, 106, 107, 108, 109]), ([0, 1, 2, 3, 4, 5, 6, 7, 8, 9, 10, 11, 12, 13, 14], [96, 97, 98, 99, 100, 101, 102, 103, 104, 105, 106, 107, 108, 109, 110]), ([0, 1, 2, 3, 4, 5, 6, 7, 8, 9, 10, 11, 12, 13, 14, 15], [96, 97, 98, 99, 100, 101, 102, 103, 104, 105, 106, 107, 108, 109, 110, 111])] [] (Γx := []) (by exact takesA) (by repeat' (first | exact own_nil | refine own_cons (by first | exact bx_own | exact rowN_own | exact rfl) ?_ | fail)) (by kernel_rfl) (by kernel_rfl) ?_; dsimp only [prev0, List.length_nil, List.length_cons]))
                | ((show WPc _ _ _ _ _ _ (.region 34 _ true) _; refine WPc.drawn [([], [134, 135, 138, 139, 140, 141]), ([], [133, 138, 139, 140, 141]), ([1], [133, 134, 138, 139, 140, 141]), ([0, 1, 2], [133, 134, 135, 138, 139, 140, 141]), ([0, 1, 2, 3], [133, 134, 135, 136, 138, 139, 140, 141]), ([], [133, 134, 135, 136, 137, 140]), ([5], [133, 134, 135, 136, 137, 138, 140]), ([], [133, 134, 135, 136, 137, 138, 139, 142]), ([5, 6, 7], [133, 134, 135, 136, 137, 138, 139, 140, 142]), ([0, 1, 2, 3, 4, 5, 6], [133, 134, 135, 136, 137, 138, 139, 140, 141]), ([0, 1, 2, 3, 4, 5, 6, 9], [133, 134, 135, 136, 137, 138, 139, 140, 141, 142]), ([0, 1, 2, 3, 4, 5, 6, 7, 8, 9, 10], [133, 134, 135, 136, 137, 138, 139, 140, 141, 142]), ([0, 1, 2, 3, 4, 5, 6, 7, 8, 9, 10, 11], [133, 134, 135, 136, 137, 138, 139, 140, 141, 142, 143])] [] (Γx := []) (by exact takesA) (by repeat' (first | exact own_nil | refine own_cons (by first | exact bx_own | exact rowN_own | exact rfl) ?_ | fail)) (by kernel_rfl) (by kernel_rfl) ?_; dsimp only [prev0, List.length_nil, List.length_cons]))
                | ((show RGl _ _ _ _ _ _ _ _ _ _ _; first | (show RGl _ _ _ _ _ _ _ _ (⟨some 63, .call ⟨.value _, _, _⟩, _, _, _, _⟩ :: _) _ _; refine RGl.vl (fun e hk => by (try dsimp only [bndR, ensR, oksR, fcutR, List.append_nil, List.nil_append, List.cons_append, List.append_assoc] at hk ⊢); refine OpT.call (hbt) evsA provsA (by kernel_rfl)) ?_) | (show RGl _ _ _ _ _ _ _ _ (_ :: _) _ _; first | refine RGl.rdA ?_ | refine RGl.rdX (fun e hk => by (try dsimp only [bndR, ensR, oksR, fcutR, List.append_nil, List.nil_append, List.cons_append, List.append_assoc] at hk ⊢); exact readB) ?_) | (show RGl _ _ _ _ _ _ _ _ (⟨_, .alloc _, _, _, _, _⟩ :: _) _ _; refine RGl.nwA ?_) | (show RGl _ _ _ _ _ _ _ _ (⟨_, .store _ _ _, _, _, _, _⟩ :: _) _ _; refine RGl.stA ?_) | (refine RGl.fin (fun e hk => ?_); (try dsimp only [bndA, ensAR, oksA, List.append_nil, List.nil_append, List.cons_append, List.append_assoc] at hk ⊢); (repeat (obtain ⟨hk1, hk⟩ := hk))) | fail))
                | ((show WPc _ _ _ _ _ _ (.cond _ _ _) _; first | refine WPc.cT ?_ | refine WPc.cF ?_ | (refine WPc.cS (fun hc => ?_) (fun hc => ?_) <;> (try simp only [decide_eq_true_eq, decide_eq_false_iff_not, Bool.not_eq_true', Bool.not_eq_false', Bool.and_eq_true, Bool.or_eq_true, Bool.and_eq_false_iff, Bool.or_eq_false_iff, Bool.not_true, Bool.not_false, Int.not_lt, Int.not_le] at hc) <;> (try (exfalso; first | omega | exact clash1 hc (by assumption) | exact clash2 hc (by assumption) | exact hc trivial | exact hc (by assumption) | exact absurd hc (by assumption))))))
                | ((show WPl _ _ _ _ _ _ _ (⟨some 63, .call ⟨.value _, _, _⟩, _, _, _, _⟩ :: _) _; refine WPl.cV (hbt) ?_))
                | ((show WPl _ _ _ _ _ _ _ (_ :: _) _; first | refine WPl.rd ?_ | refine WPl.sk ?_ | refine WPl.rdB ?_))
                | ((show WPl _ _ _ _ _ _ _ (⟨_, .alloc _, _, _, _, _⟩ :: _) _; refine WPl.nw fun g => ?_))
                | ((show WPl _ _ _ _ _ _ _ (⟨_, .store _ _ _, _, _, _, _⟩ :: _) _; first | refine WPl.st1 ?_ | refine WPl.stA ?_ | refine WPl.stEB ?_ | refine WPl.stRB ?_))
                | ((show WPl _ _ _ _ _ _ _ (_ :: _) _; refine WPl.spl (fun hc => ?_) (fun hc => ?_) <;> (try simp only [decide_eq_true_eq, decide_eq_false_iff_not, Bool.not_eq_true', Bool.not_eq_false', Bool.and_eq_true, Bool.or_eq_true, Bool.and_eq_false_iff, Bool.or_eq_false_iff, Bool.not_true, Bool.not_false, Int.not_lt, Int.not_le] at hc) <;> (try (exfalso; first | omega | exact clash1 hc (by assumption) | exact clash2 hc (by assumption) | exact hc trivial | exact hc (by assumption) | exact absurd hc (by assumption)))))
                | fail)
              all_goals try (first
                | exact WPq.dV
                | exact WPq.dR
                | exact WPq.dR2
                | exact WPq.dH
                | exact WPq.dBH
                | exact WPq.dT)
            · have hxs : b.length - s.pos < xsize b s := by
                have := hbb.symm
                simp only [Bool.or_eq_true, decide_eq_true_eq] at this
                omega
              rw [xsize_b] at hxs
              have h44 : ¬ s.proto.toNat = 44 := by intro h; rw [if_pos h] at hxs; omega
              rw [if_neg h44] at hxs
              repeat' (first
                | refine WPl.nil ?_
                | refine WPq.then ?_
                | refine WPq.thenR ?_
                | refine WPq.thenE ?_
                | refine WPq.blockN ?_
                | refine WPq.blockR ?_
                | refine WPq.blockE ?_
                | refine WPq.blockO rfl ?_
                | refine WPc.seq ?_
                | refine WPc.block ?_
                | refine WPc.ret ?_
                | refine WPc.exit ?_
                | refine WPc.skip ?_
                | refine WPc.region ?_
                | ((show WPc _ _ _ _ _ _ (.region 15 _ true) _; refine WPc.drawn [([], [6, 47, 48, 49, 50, 51, 52, 53, 54, 55]), ([0], [6, 44, 47, 48, 49, 50, 51, 52, 53, 54, 55]), ([0, 1], [6, 44, 45, 47, 48, 49, 50, 51, 52, 53, 54, 55]), ([], [6, 44, 45, 46, 50, 51, 53, 54, 55]), ([3], [6, 44, 45, 46, 47, 50, 51, 53, 54, 55]), ([3, 4], [6, 44, 45, 46, 47, 48, 50, 51, 53, 54, 55]), ([], [6, 44, 45, 46, 47, 48, 49, 53, 54, 55]), ([6], [6, 44, 45, 46, 47, 48, 49, 50, 53, 54, 55]), ([3, 4, 5, 6, 7], [6, 44, 45, 46, 47, 48, 49, 50, 51, 53, 54, 55]), ([], [6, 44, 45, 46, 47, 48, 49, 50, 51, 52]), ([9], [6, 44, 45, 46, 47, 48, 49, 50, 51, 52, 53]), ([9, 10], [6, 44, 45, 46, 47, 48, 49, 50, 51, 52, 53, 54]), ([0, 1, 2, 3, 4, 5, 6, 7, 8, 9, 10, 11], [6, 44, 45, 46, 47, 48, 49, 50, 51, 52, 53, 54, 55]), ([], [44, 45, 46, 47, 48, 49, 50, 51, 52, 53, 54, 55, 56]), ([0, 1, 2, 3, 4, 5, 6, 7, 8, 9, 10, 11, 12, 13], [6, 44, 45, 46, 47, 48, 49, 50, 51, 52, 53, 54, 55, 56])] [(13, 14)] (Γx := []) (by exact takesA) (by repeat' (first | exact own_nil | refine own_cons (by first | exact bx_own | exact rowN_own | exact rfl) ?_ | fail)) (by kernel_rfl) (by kernel_rfl) ?_; dsimp only [prev0, List.length_nil, List.length_cons]))
                | ((show WPc _ _ _ _ _ _ (.region 30 _ true) _; refine WPc.drawn [([], [97, 98, 99, 104, 105, 106, 107, 108, 109, 110]), ([], [96, 104, 105, 106, 107, 108, 109, 110]), ([1], [96, 97, 104, 105, 106, 107, 108, 109, 110]), ([1, 2], [96, 97, 98, 104, 105, 106, 107, 108, 109, 110]), ([0, 1, 2, 3], [96, 97, 98, 99, 104, 105, 106, 107, 108, 109, 110]), ([0, 1, 2, 3, 4], [96, 97, 98, 99, 100, 104, 105, 106, 107, 108, 109, 110]), ([0, 1, 2, 3, 4, 5], [96, 97, 98, 99, 100, 101, 104, 105, 106, 107, 108, 109, 110]), ([0, 1, 2, 3, 4, 5, 6], [96, 97, 98, 99, 100, 101, 102, 104, 105, 106, 107, 108, 109, 110]), ([], [96, 97, 98, 99, 100, 101, 102, 103, 105, 106, 107]), ([], [96, 97, 98, 99, 100, 101, 102, 103, 104]), ([9], [96, 97, 98, 99, 100, 101, 102, 103, 104, 105]), ([9, 10], [96, 97, 98, 99, 100, 101, 102, 103, 104, 105, 106]), ([8, 9, 10, 11], [96, 97, 98, 99, 100, 101, 102, 103, 104, 105, 106, 107]), ([8, 9, 10, 11, 12], [96, 97, 98, 99, 100, 101, 102, 103, 104, 105, 106, 107, 108]), ([8, 9, 10, 11, 12, 13], [96, 97, 98, 99, 100, 101, 102, 103, 104, 105, 106, 107, 108, 109]), ([0, 1, 2, 3, 4, 5, 6, 7, 8, 9, 10, 11, 12, 13, 14], [96, 97, 98, 99, 100, 101, 102, 103, 104, 105, 106, 107, 108, 109, 110]), ([0, 1, 2, 3, 4, 5, 6, 7, 8, 9, 10, 11, 12, 13, 14, 15], [96, 97, 98, 99, 100, 101, 102, 103, 104, 105, 106, 107, 108, 109, 110, 111])] [] (Γx := []) (by exact takesA) (by repeat' (first | exact own_nil | refine own_cons (by first | exact bx_own | exact rowN_own | exact rfl) ?_ | fail)) (by kernel_rfl) (by kernel_rfl) ?_; dsimp only [prev0, List.length_nil, List.length_cons]))
                | ((show WPc _ _ _ _ _ _ (.region 34 _ true) _; refine WPc.drawn [([], [134, 135, 138, 139, 140, 141]), ([], [133, 138, 139, 140, 141]), ([1], [133, 134, 138, 139, 140, 141]), ([0, 1, 2], [133, 134, 135, 138, 139, 140, 141]), ([0, 1, 2, 3], [133, 134, 135, 136, 138, 139, 140, 141]), ([], [133, 134, 135, 136, 137, 140]), ([5], [133, 134, 135, 136, 137, 138, 140]), ([], [133, 134, 135, 136, 137, 138, 139, 142]), ([5, 6, 7], [133, 134, 135, 136, 137, 138, 139, 140, 142]), ([0, 1, 2, 3, 4, 5, 6], [133, 134, 135, 136, 137, 138, 139, 140, 141]), ([0, 1, 2, 3, 4, 5, 6, 9], [133, 134, 135, 136, 137, 138, 139, 140, 141, 142]), ([0, 1, 2, 3, 4, 5, 6, 7, 8, 9, 10], [133, 134, 135, 136, 137, 138, 139, 140, 141, 142]), ([0, 1, 2, 3, 4, 5, 6, 7, 8, 9, 10, 11], [133, 134, 135, 136, 137, 138, 139, 140, 141, 142, 143])] [] (Γx := []) (by exact takesA) (by repeat' (first | exact own_nil | refine own_cons (by first | exact bx_own | exact rowN_own | exact rfl) ?_ | fail)) (by kernel_rfl) (by kernel_rfl) ?_; dsimp only [prev0, List.length_nil, List.length_cons]))
                | ((show RGl _ _ _ _ _ _ _ _ _ _ _; first | (show RGl _ _ _ _ _ _ _ _ (⟨some 63, .call ⟨.value _, _, _⟩, _, _, _, _⟩ :: _) _ _; refine RGl.vl (fun e hk => by (try dsimp only [bndR, ensR, oksR, fcutR, List.append_nil, List.nil_append, List.cons_append, List.append_assoc] at hk ⊢); refine OpT.call (hbt) evsA provsA (by kernel_rfl)) ?_) | (show RGl _ _ _ _ _ _ _ _ (⟨some 92, .binOp .add _ _ _ _, _, _, _, _⟩ :: _) _ _; refine RGl.rdX (fun e hk => by (try dsimp only [bndR, ensR, oksR, fcutR, List.append_nil, List.nil_append, List.cons_append, List.append_assoc] at hk ⊢); exact ReadR.bin rfl rfl (BinR.addT hsz (by simp only [kmin]; omega) (by simp only [kmax]; omega))) ?_) | (show RGl _ _ _ _ _ _ _ _ (_ :: _) _ _; first | refine RGl.rdA ?_ | refine RGl.rdX (fun e hk => by (try dsimp only [bndR, ensR, oksR, fcutR, List.append_nil, List.nil_append, List.cons_append, List.append_assoc] at hk ⊢); exact readB) ?_) | (show RGl _ _ _ _ _ _ _ _ (⟨_, .alloc _, _, _, _, _⟩ :: _) _ _; refine RGl.nwA ?_) | (show RGl _ _ _ _ _ _ _ _ (⟨_, .store _ _ _, _, _, _, _⟩ :: _) _ _; refine RGl.stA ?_) | (refine RGl.fin (fun e hk => ?_); (try dsimp only [bndA, ensAR, oksA, List.append_nil, List.nil_append, List.cons_append, List.append_assoc] at hk ⊢); (repeat (obtain ⟨hk1, hk⟩ := hk))) | fail))
                | ((show WPc _ _ _ _ _ _ (.cond _ _ _) _; first | refine WPc.cT ?_ | refine WPc.cF ?_ | (refine WPc.cS (fun hc => ?_) (fun hc => ?_) <;> (try simp only [decide_eq_true_eq, decide_eq_false_iff_not, Bool.not_eq_true', Bool.not_eq_false', Bool.and_eq_true, Bool.or_eq_true, Bool.and_eq_false_iff, Bool.or_eq_false_iff, Bool.not_true, Bool.not_false, Int.not_lt, Int.not_le] at hc) <;> (try (exfalso; first | omega | exact clash1 hc (by assumption) | exact clash2 hc (by assumption) | exact hc trivial | exact hc (by assumption) | exact absurd hc (by assumption))))))
                | ((show WPl _ _ _ _ _ _ _ (⟨some 63, .call ⟨.value _, _, _⟩, _, _, _, _⟩ :: _) _; refine WPl.cV (hbt) ?_))
                | ((show WPl _ _ _ _ _ _ _ (⟨some 92, .binOp .add _ _ _ _, _, _, _, _⟩ :: _) _; refine WPl.rdX (ReadR.bin rfl rfl (BinR.addT hsz (by simp only [kmin]; omega) (by simp only [kmax]; omega))) ?_))
                | ((show WPl _ _ _ _ _ _ _ (_ :: _) _; first | refine WPl.rd ?_ | refine WPl.sk ?_ | refine WPl.rdB ?_))
                | ((show WPl _ _ _ _ _ _ _ (⟨_, .alloc _, _, _, _, _⟩ :: _) _; refine WPl.nw fun g => ?_))
                | ((show WPl _ _ _ _ _ _ _ (⟨_, .store _ _ _, _, _, _, _⟩ :: _) _; first | refine WPl.st1 ?_ | refine WPl.stA ?_ | refine WPl.stEB ?_ | refine WPl.stRB ?_))
                | ((show WPl _ _ _ _ _ _ _ (_ :: _) _; refine WPl.spl (fun hc => ?_) (fun hc => ?_) <;> (try simp only [decide_eq_true_eq, decide_eq_false_iff_not, Bool.not_eq_true', Bool.not_eq_false', Bool.and_eq_true, Bool.or_eq_true, Bool.and_eq_false_iff, Bool.or_eq_false_iff, Bool.not_true, Bool.not_false, Int.not_lt, Int.not_le] at hc) <;> (try (exfalso; first | omega | exact clash1 hc (by assumption) | exact clash2 hc (by assumption) | exact hc trivial | exact hc (by assumption) | exact absurd hc (by assumption)))))
                | fail)
              all_goals try (first
                | exact WPq.dV
                | exact WPq.dR
                | exact WPq.dR2
                | exact WPq.dH
                | exact WPq.dBH
                | exact WPq.dT)
          | false =>
            rw [hbad] at hbb
            have hbb := hbb.symm
            simp only [Bool.or_eq_false_iff, decide_eq_false_iff_not] at hbb
            obtain ⟨hb8, hbs⟩ := hbb
            have hnx := xnext_b b s
            rw [xsize_b] at hbs hnx
            have hsl2 : s.pos + 8 ≤ b.length := by omega
            have hposn : ((s.pos : Int)).toNat = s.pos := by omega
            by_cases h44 : s.proto.toNat = 44
            · rw [if_pos h44] at hbs hnx
              rw [xpart_b b s (by omega) h44] at hnx
              cases hp : s.part with
              | true =>
                rw [hp, Bool.true_or] at hnx
                repeat' (first
                  | refine WPl.nil ?_
                  | refine WPq.then ?_
                  | refine WPq.thenR ?_
                  | refine WPq.thenE ?_
                  | refine WPq.blockN ?_
                  | refine WPq.blockR ?_
                  | refine WPq.blockE ?_
                  | refine WPq.blockO rfl ?_
                  | refine WPc.seq ?_
                  | refine WPc.block ?_
                  | refine WPc.ret ?_
                  | refine WPc.exit ?_
                  | refine WPc.skip ?_
                  | refine WPc.region ?_
                  | ((show WPc _ _ _ _ _ _ (.region 15 _ true) _; refine WPc.drawn [([], [6, 47, 48, 49, 50, 51, 52, 53, 54, 55]), ([0], [6, 44, 47, 48, 49, 50, 51, 52, 53, 54, 55]), ([0, 1], [6, 44, 45, 47, 48, 49, 50, 51, 52, 53, 54, 55]), ([], [6, 44, 45, 46, 50, 51, 53, 54, 55]), ([3], [6, 44, 45, 46, 47, 50, 51, 53, 54, 55]), ([3, 4], [6, 44, 45, 46, 47, 48, 50, 51, 53, 54, 55]), ([], [6, 44, 45, 46, 47, 48, 49, 53, 54, 55]), ([6], [6, 44, 45, 46, 47, 48, 49, 50, 53, 54, 55]), ([3, 4, 5, 6, 7], [6, 44, 45, 46, 47, 48, 49, 50, 51, 53, 54, 55]), ([], [6, 44, 45, 46, 47, 48, 49, 50, 51, 52]), ([9], [6, 44, 45, 46, 47, 48, 49, 50, 51, 52, 53]), ([9, 10], [6, 44, 45, 46, 47, 48, 49, 50, 51, 52, 53, 54]), ([0, 1, 2, 3, 4, 5, 6, 7, 8, 9, 10, 11], [6, 44, 45, 46, 47, 48, 49, 50, 51, 52, 53, 54, 55]), ([], [44, 45, 46, 47, 48, 49, 50, 51, 52, 53, 54, 55, 56]), ([0, 1, 2, 3, 4, 5, 6, 7, 8, 9, 10, 11, 12, 13], [6, 44, 45, 46, 47, 48, 49, 50, 51, 52, 53, 54, 55, 56])] [(13, 14)] (Γx := []) (by exact takesA) (by repeat' (first | exact own_nil | refine own_cons (by first | exact bx_own | exact rowN_own | exact rfl) ?_ | fail)) (by kernel_rfl) (by kernel_rfl) ?_; dsimp only [prev0, List.length_nil, List.length_cons]))
                  | ((show WPc _ _ _ _ _ _ (.region 30 _ true) _; refine WPc.drawn [([], [97, 98, 99, 104, 105, 106, 107, 108, 109, 110]), ([], [96, 104, 105, 106, 107, 108, 109, 110]), ([1], [96, 97, 104, 105, 106, 107, 108, 109, 110]), ([1, 2], [96, 97, 98, 104, 105, 106, 107, 108, 109, 110]), ([0, 1, 2, 3], [96, 97, 98, 99, 104, 105, 106, 107, 108, 109, 110]), ([0, 1, 2, 3, 4], [96, 97, 98, 99, 100, 104, 105, 106, 107, 108, 109, 110]), ([0, 1, 2, 3, 4, 5], [96, 97, 98, 99, 100, 101, 104, 105, 106, 107, 108, 109, 110]), ([0, 1, 2, 3, 4, 5, 6], [96, 97, 98, 99, 100, 101, 102, 104, 105, 106, 107, 108, 109, 110]), ([], [96, 97, 98, 99, 100, 101, 102, 103, 105, 106, 107]), ([], [96, 97, 98, 99, 100, 101, 102, 103, 104]), ([9], [96, 97, 98, 99, 100, 101, 102, 103, 104, 105]), ([9, 10], [96, 97, 98, 99, 100, 101, 102, 103, 104, 105, 106]), ([8, 9, 10, 11], [96, 97, 98, 99, 100, 101, 102, 103, 104, 105, 106, 107]), ([8, 9, 10, 11, 12], [96, 97, 98, 99, 100, 101, 102, 103, 104, 105, 106, 107, 108]), ([8, 9, 10, 11, 12, 13], [96, 97, 98, 99, 100, 101, 102, 103, 104, 105, 106, 107, 108, 109]), ([0, 1, 2, 3, 4, 5, 6, 7, 8, 9, 10, 11, 12, 13, 14], [96, 97, 98, 99, 100, 101, 102, 103, 104, 105, 106, 107, 108, 109, 110]), ([0, 1, 2, 3, 4, 5, 6, 7, 8, 9, 10, 11, 12, 13, 14, 15], [96, 97, 98, 99, 100, 101, 102, 103, 104, 105, 106, 107, 108, 109, 110, 111])] [] (Γx := []) (by exact takesA) (by repeat' (first | exact own_nil | refine own_cons (by first | exact bx_own | exact rowN_own | exact rfl) ?_ | fail)) (by kernel_rfl) (by kernel_rfl) ?_; dsimp only [prev0, List.length_nil, List.length_cons]))
                  | ((show WPc _ _ _ _ _ _ (.region 34 _ true) _; refine WPc.drawn [([13], [134, 135, 138, 139, 140, 141]), ([13], [133, 138, 139, 140, 141]), ([1, 13], [133, 134, 138, 139, 140, 141]), ([0, 1, 2, 13], [133, 134, 135, 138, 139, 140, 141]), ([0, 1, 2, 3, 13], [133, 134, 135, 136, 138, 139, 140, 141]), ([13], [133, 134, 135, 136, 137, 140]), ([5, 13], [133, 134, 135, 136, 137, 138, 140]), ([13], [133, 134, 135, 136, 137, 138, 139, 142]), ([5, 6, 7, 13], [133, 134, 135, 136, 137, 138, 139, 140, 142]), ([0, 1, 2, 3, 4, 5, 6, 13], [133, 134, 135, 136, 137, 138, 139, 140, 141]), ([0, 1, 2, 3, 4, 5, 6, 9, 13], [133, 134, 135, 136, 137, 138, 139, 140, 141, 142]), ([0, 1, 2, 3, 4, 5, 6, 7, 8, 9, 10, 13], [133, 134, 135, 136, 137, 138, 139, 140, 141, 142]), ([0, 1, 2, 3, 4, 5, 6, 7, 8, 9, 10, 11, 13], [133, 134, 135, 136, 137, 138, 139, 140, 141, 142, 143])] [(13, 10), (10, 12), (13, 0), (13, 1), (13, 2), (13, 3), (13, 4), (13, 5), (13, 6), (13, 9), (10, 11)] (Γx := [bx gh 48 (hcx b ⟨s.proto, s.pos, true⟩)]) (by exact takesA) (by repeat' (first | exact own_nil | refine own_cons (by first | exact bx_own | exact rowN_own | exact rfl) ?_ | fail)) (by kernel_rfl) (by kernel_rfl) ?_; dsimp only [prev0, List.length_nil, List.length_cons]))
                  | ((show RGl _ _ _ _ _ _ _ _ _ _ _; first | (show RGl _ _ _ _ _ _ _ _ (⟨some 63, .call ⟨.value _, _, _⟩, _, _, _, _⟩ :: _) _ _; refine RGl.vl (fun e hk => by (try dsimp only [bndR, ensR, oksR, fcutR, List.append_nil, List.nil_append, List.cons_append, List.append_assoc] at hk ⊢); refine OpT.call (hbt) evsA provsA (by kernel_rfl)) ?_) | (show RGl _ _ _ _ _ _ _ _ (⟨some 92, .binOp .add _ _ _ _, _, _, _, _⟩ :: _) _ _; refine RGl.rdX (fun e hk => by (try dsimp only [bndR, ensR, oksR, fcutR, List.append_nil, List.nil_append, List.cons_append, List.append_assoc] at hk ⊢); exact ReadR.bin rfl rfl (BinR.addT hsz (by simp only [kmin]; omega) (by simp only [kmax]; omega))) ?_) | (show RGl _ _ _ _ _ _ _ _ (⟨some 111, .binOp .add _ _ _ _, _, _, _, _⟩ :: _) _ _; refine RGl.rdX (fun e hk => by (try dsimp only [bndR, ensR, oksR, fcutR, List.append_nil, List.nil_append, List.cons_append, List.append_assoc] at hk ⊢); exact ReadR.bin rfl rfl (BinR.addT hK (by simp only [kmin]; omega) (by simp only [kmax]; omega))) ?_) | (show RGl _ _ _ _ _ _ _ _ (_ :: _) _ _; first | refine RGl.rdA ?_ | refine RGl.rdX (fun e hk => by (try dsimp only [bndR, ensR, oksR, fcutR, List.append_nil, List.nil_append, List.cons_append, List.append_assoc] at hk ⊢); exact readB) ?_) | (show RGl _ _ _ _ _ _ _ _ (⟨_, .alloc _, _, _, _, _⟩ :: _) _ _; refine RGl.nwA ?_) | (show RGl _ _ _ _ _ _ _ _ (⟨_, .store _ _ _, _, _, _, _⟩ :: _) _ _; refine RGl.stA ?_) | (refine RGl.fin (fun e hk => ?_); (try dsimp only [bndA, ensAR, oksA, List.append_nil, List.nil_append, List.cons_append, List.append_assoc] at hk ⊢); (repeat (obtain ⟨hk1, hk⟩ := hk))) | fail))
                  | ((show WPc _ _ _ _ _ _ (.cond _ _ _) _; first | refine WPc.cT ?_ | refine WPc.cF ?_ | (refine WPc.cS (fun hc => ?_) (fun hc => ?_) <;> (try simp only [decide_eq_true_eq, decide_eq_false_iff_not, Bool.not_eq_true', Bool.not_eq_false', Bool.and_eq_true, Bool.or_eq_true, Bool.and_eq_false_iff, Bool.or_eq_false_iff, Bool.not_true, Bool.not_false, Int.not_lt, Int.not_le] at hc) <;> (try (exfalso; first | omega | exact clash1 hc (by assumption) | exact clash2 hc (by assumption) | exact hc trivial | exact hc (by assumption) | exact absurd hc (by assumption))))))
                  | ((show WPl _ _ _ _ _ _ _ (⟨some 63, .call ⟨.value _, _, _⟩, _, _, _, _⟩ :: _) _; refine WPl.cV (hbt) ?_))
                  | ((show WPl _ _ _ _ _ _ _ (⟨some 92, .binOp .add _ _ _ _, _, _, _, _⟩ :: _) _; refine WPl.rdX (ReadR.bin rfl rfl (BinR.addT hsz (by simp only [kmin]; omega) (by simp only [kmax]; omega))) ?_))
                  | ((show WPl _ _ _ _ _ _ _ (⟨some 111, .binOp .add _ _ _ _, _, _, _, _⟩ :: _) _; refine WPl.rdX (ReadR.bin rfl rfl (BinR.addT hK (by simp only [kmin]; omega) (by simp only [kmax]; omega))) ?_))
                  | ((show WPl _ _ _ _ _ _ _ (_ :: _) _; first | refine WPl.rd ?_ | refine WPl.sk ?_ | refine WPl.rdB ?_))
                  | ((show WPl _ _ _ _ _ _ _ (⟨_, .alloc _, _, _, _, _⟩ :: _) _; refine WPl.nw fun g => ?_))
                  | ((show WPl _ _ _ _ _ _ _ (⟨_, .store _ _ _, _, _, _, _⟩ :: _) _; first | refine WPl.st1 ?_ | refine WPl.stA ?_ | refine WPl.stEB ?_ | refine WPl.stRB ?_))
                  | ((show WPl _ _ _ _ _ _ _ (_ :: _) _; refine WPl.spl (fun hc => ?_) (fun hc => ?_) <;> (try simp only [decide_eq_true_eq, decide_eq_false_iff_not, Bool.not_eq_true', Bool.not_eq_false', Bool.and_eq_true, Bool.or_eq_true, Bool.and_eq_false_iff, Bool.or_eq_false_iff, Bool.not_true, Bool.not_false, Int.not_lt, Int.not_le] at hc) <;> (try (exfalso; first | omega | exact clash1 hc (by assumption) | exact clash2 hc (by assumption) | exact hc trivial | exact hc (by assumption) | exact absurd hc (by assumption)))))
                  | fail)
                all_goals exact WPq.rnd (σ := Nat × XS) (i + 1, ⟨b.getD s.pos 0, s.pos + 8, true⟩) ⟨by show i + 1 ≤ 8; omega, by show s.pos + 8 ≤ _; omega, by show _ = xall b (8 - (i + 1)) _; rw [hxa, hm, xall_next hb h0 hbad, hnx, show 8 - (i + 1) = m by omega]⟩ (by show 8 - (i + 1) < _; omega)
              | false =>
                rw [hp, Bool.false_or] at hnx
                by_cases hk8 : xK b s.pos / 8 = 0
                · by_cases hk2 : xK b s.pos % 2 = 1
                  · rw [decide_eq_true (.inr hk2)] at hnx
                    repeat' (first
                      | refine WPl.nil ?_
                      | refine WPq.then ?_
                      | refine WPq.thenR ?_
                      | refine WPq.thenE ?_
                      | refine WPq.blockN ?_
                      | refine WPq.blockR ?_
                      | refine WPq.blockE ?_
                      | refine WPq.blockO rfl ?_
                      | refine WPc.seq ?_
                      | refine WPc.block ?_
                      | refine WPc.ret ?_
                      | refine WPc.exit ?_
                      | refine WPc.skip ?_
                      | refine WPc.region ?_
                      | ((show WPc _ _ _ _ _ _ (.region 15 _ true) _; refine WPc.drawn [([], [6, 47, 48, 49, 50, 51, 52, 53, 54, 55]), ([0], [6, 44, 47, 48, 49, 50, 51, 52, 53, 54, 55]), ([0, 1], [6, 44, 45, 47, 48, 49, 50, 51, 52, 53, 54, 55]), ([], [6, 44, 45, 46, 50, 51, 53, 54, 55]), ([3], [6, 44, 45, 46, 47, 50, 51, 53, 54, 55]), ([3, 4], [6, 44, 45, 46, 47, 48, 50, 51, 53, 54, 55]), ([], [6, 44, 45, 46, 47, 48, 49, 53, 54, 55]), ([6], [6, 44, 45, 46, 47, 48, 49, 50, 53, 54, 55]), ([3, 4, 5, 6, 7], [6, 44, 45, 46, 47, 48, 49, 50, 51, 53, 54, 55]), ([], [6, 44, 45, 46, 47, 48, 49, 50, 51, 52]), ([9], [6, 44, 45, 46, 47, 48, 49, 50, 51, 52, 53]), ([9, 10], [6, 44, 45, 46, 47, 48, 49, 50, 51, 52, 53, 54]), ([0, 1, 2, 3, 4, 5, 6, 7, 8, 9, 10, 11], [6, 44, 45, 46, 47, 48, 49, 50, 51, 52, 53, 54, 55]), ([], [44, 45, 46, 47, 48, 49, 50, 51, 52, 53, 54, 55, 56]), ([0, 1, 2, 3, 4, 5, 6, 7, 8, 9, 10, 11, 12, 13], [6, 44, 45, 46, 47, 48, 49, 50, 51, 52, 53, 54, 55, 56])] [(13, 14)] (Γx := []) (by exact takesA) (by repeat' (first | exact own_nil | refine own_cons (by first | exact bx_own | exact rowN_own | exact rfl) ?_ | fail)) (by kernel_rfl) (by kernel_rfl) ?_; dsimp only [prev0, List.length_nil, List.length_cons]))
                      | ((show WPc _ _ _ _ _ _ (.region 30 _ true) _; refine WPc.drawn [([], [97, 98, 99, 104, 105, 106, 107, 108, 109, 110]), ([], [96, 104, 105, 106, 107, 108, 109, 110]), ([1], [96, 97, 104, 105, 106, 107, 108, 109, 110]), ([1, 2], [96, 97, 98, 104, 105, 106, 107, 108, 109, 110]), ([0, 1, 2, 3], [96, 97, 98, 99, 104, 105, 106, 107, 108, 109, 110]), ([0, 1, 2, 3, 4], [96, 97, 98, 99, 100, 104, 105, 106, 107, 108, 109, 110]), ([0, 1, 2, 3, 4, 5], [96, 97, 98, 99, 100, 101, 104, 105, 106, 107, 108, 109, 110]), ([0, 1, 2, 3, 4, 5, 6], [96, 97, 98, 99, 100, 101, 102, 104, 105, 106, 107, 108, 109, 110]), ([], [96, 97, 98, 99, 100, 101, 102, 103, 105, 106, 107]), ([], [96, 97, 98, 99, 100, 101, 102, 103, 104]), ([9], [96, 97, 98, 99, 100, 101, 102, 103, 104, 105]), ([9, 10], [96, 97, 98, 99, 100, 101, 102, 103, 104, 105, 106]), ([8, 9, 10, 11], [96, 97, 98, 99, 100, 101, 102, 103, 104, 105, 106, 107]), ([8, 9, 10, 11, 12], [96, 97, 98, 99, 100, 101, 102, 103, 104, 105, 106, 107, 108]), ([8, 9, 10, 11, 12, 13], [96, 97, 98, 99, 100, 101, 102, 103, 104, 105, 106, 107, 108, 109]), ([0, 1, 2, 3, 4, 5, 6, 7, 8, 9, 10, 11, 12, 13, 14], [96, 97, 98, 99, 100, 101, 102, 103, 104, 105, 106, 107, 108, 109, 110]), ([0, 1, 2, 3, 4, 5, 6, 7, 8, 9, 10, 11, 12, 13, 14, 15], [96, 97, 98, 99, 100, 101, 102, 103, 104, 105, 106, 107, 108, 109, 110, 111])] [] (Γx := []) (by exact takesA) (by repeat' (first | exact own_nil | refine own_cons (by first | exact bx_own | exact rowN_own | exact rfl) ?_ | fail)) (by kernel_rfl) (by kernel_rfl) ?_; dsimp only [prev0, List.length_nil, List.length_cons]))
                      | ((show WPc _ _ _ _ _ _ (.region 34 _ true) _; refine WPc.drawn [([13], [134, 135, 138, 139, 140, 141]), ([13], [133, 138, 139, 140, 141]), ([1, 13], [133, 134, 138, 139, 140, 141]), ([0, 1, 2, 13], [133, 134, 135, 138, 139, 140, 141]), ([0, 1, 2, 3, 13], [133, 134, 135, 136, 138, 139, 140, 141]), ([13], [133, 134, 135, 136, 137, 140]), ([5, 13], [133, 134, 135, 136, 137, 138, 140]), ([13], [133, 134, 135, 136, 137, 138, 139, 142]), ([5, 6, 7, 13], [133, 134, 135, 136, 137, 138, 139, 140, 142]), ([0, 1, 2, 3, 4, 5, 6, 13], [133, 134, 135, 136, 137, 138, 139, 140, 141]), ([0, 1, 2, 3, 4, 5, 6, 9, 13], [133, 134, 135, 136, 137, 138, 139, 140, 141, 142]), ([0, 1, 2, 3, 4, 5, 6, 7, 8, 9, 10, 13], [133, 134, 135, 136, 137, 138, 139, 140, 141, 142]), ([0, 1, 2, 3, 4, 5, 6, 7, 8, 9, 10, 11, 13], [133, 134, 135, 136, 137, 138, 139, 140, 141, 142, 143])] [(13, 10), (10, 12), (13, 0), (13, 1), (13, 2), (13, 3), (13, 4), (13, 5), (13, 6), (13, 9), (10, 11)] (Γx := [bx gh 48 (hcx b ⟨s.proto, s.pos, true⟩)]) (by exact takesA) (by repeat' (first | exact own_nil | refine own_cons (by first | exact bx_own | exact rowN_own | exact rfl) ?_ | fail)) (by kernel_rfl) (by kernel_rfl) ?_; dsimp only [prev0, List.length_nil, List.length_cons]))
                      | ((show RGl _ _ _ _ _ _ _ _ _ _ _; first | (show RGl _ _ _ _ _ _ _ _ (⟨some 63, .call ⟨.value _, _, _⟩, _, _, _, _⟩ :: _) _ _; refine RGl.vl (fun e hk => by (try dsimp only [bndR, ensR, oksR, fcutR, List.append_nil, List.nil_append, List.cons_append, List.append_assoc] at hk ⊢); refine OpT.call (hbt) evsA provsA (by kernel_rfl)) ?_) | (show RGl _ _ _ _ _ _ _ _ (⟨some 92, .binOp .add _ _ _ _, _, _, _, _⟩ :: _) _ _; refine RGl.rdX (fun e hk => by (try dsimp only [bndR, ensR, oksR, fcutR, List.append_nil, List.nil_append, List.cons_append, List.append_assoc] at hk ⊢); exact ReadR.bin rfl rfl (BinR.addT hsz (by simp only [kmin]; omega) (by simp only [kmax]; omega))) ?_) | (show RGl _ _ _ _ _ _ _ _ (⟨some 111, .binOp .add _ _ _ _, _, _, _, _⟩ :: _) _ _; refine RGl.rdX (fun e hk => by (try dsimp only [bndR, ensR, oksR, fcutR, List.append_nil, List.nil_append, List.cons_append, List.append_assoc] at hk ⊢); exact ReadR.bin rfl rfl (BinR.addT hK (by simp only [kmin]; omega) (by simp only [kmax]; omega))) ?_) | (show RGl _ _ _ _ _ _ _ _ (⟨some 117, .binOp .neq _ _ _ _, _, _, _, _⟩ :: _) _ _; refine RGl.rdX (fun e hk => by (try dsimp only [bndR, ensR, oksR, fcutR, List.append_nil, List.nil_append, List.cons_append, List.append_assoc] at hk ⊢); exact ReadR.binE rfl rfl BinR.neq (congrArg Value.bool (show (!decide _) = false by rw [decide_eq_true (by omega)]; rfl))) ?_) | (show RGl _ _ _ _ _ _ _ _ (⟨some 122, .binOp .eql _ _ _ _, _, _, _, _⟩ :: _) _ _; refine RGl.rdX (fun e hk => by (try dsimp only [bndR, ensR, oksR, fcutR, List.append_nil, List.nil_append, List.cons_append, List.append_assoc] at hk ⊢); exact ReadR.binE rfl rfl BinR.eql (congrArg Value.bool (decide_eq_true (by omega)))) ?_) | (show RGl _ _ _ _ _ _ _ _ (_ :: _) _ _; first | refine RGl.rdA ?_ | refine RGl.rdX (fun e hk => by (try dsimp only [bndR, ensR, oksR, fcutR, List.append_nil, List.nil_append, List.cons_append, List.append_assoc] at hk ⊢); exact readB) ?_) | (show RGl _ _ _ _ _ _ _ _ (⟨_, .alloc _, _, _, _, _⟩ :: _) _ _; refine RGl.nwA ?_) | (show RGl _ _ _ _ _ _ _ _ (⟨_, .store _ _ _, _, _, _, _⟩ :: _) _ _; refine RGl.stA ?_) | (refine RGl.fin (fun e hk => ?_); (try dsimp only [bndA, ensAR, oksA, List.append_nil, List.nil_append, List.cons_append, List.append_assoc] at hk ⊢); (repeat (obtain ⟨hk1, hk⟩ := hk))) | fail))
                      | ((show WPc _ _ _ _ _ _ (.cond _ _ _) _; first | refine WPc.cT ?_ | refine WPc.cF ?_ | (refine WPc.cS (fun hc => ?_) (fun hc => ?_) <;> (try simp only [decide_eq_true_eq, decide_eq_false_iff_not, Bool.not_eq_true', Bool.not_eq_false', Bool.and_eq_true, Bool.or_eq_true, Bool.and_eq_false_iff, Bool.or_eq_false_iff, Bool.not_true, Bool.not_false, Int.not_lt, Int.not_le] at hc) <;> (try (exfalso; first | omega | exact clash1 hc (by assumption) | exact clash2 hc (by assumption) | exact hc trivial | exact hc (by assumption) | exact absurd hc (by assumption))))))
                      | ((show WPl _ _ _ _ _ _ _ (⟨some 63, .call ⟨.value _, _, _⟩, _, _, _, _⟩ :: _) _; refine WPl.cV (hbt) ?_))
                      | ((show WPl _ _ _ _ _ _ _ (⟨some 92, .binOp .add _ _ _ _, _, _, _, _⟩ :: _) _; refine WPl.rdX (ReadR.bin rfl rfl (BinR.addT hsz (by simp only [kmin]; omega) (by simp only [kmax]; omega))) ?_))
                      | ((show WPl _ _ _ _ _ _ _ (⟨some 111, .binOp .add _ _ _ _, _, _, _, _⟩ :: _) _; refine WPl.rdX (ReadR.bin rfl rfl (BinR.addT hK (by simp only [kmin]; omega) (by simp only [kmax]; omega))) ?_))
                      | ((show WPl _ _ _ _ _ _ _ (⟨some 117, .binOp .neq _ _ _ _, _, _, _, _⟩ :: _) _; refine WPl.rdX (ReadR.binE rfl rfl BinR.neq (congrArg Value.bool (show (!decide _) = false by rw [decide_eq_true (by omega)]; rfl))) ?_))
                      | ((show WPl _ _ _ _ _ _ _ (⟨some 122, .binOp .eql _ _ _ _, _, _, _, _⟩ :: _) _; refine WPl.rdX (ReadR.binE rfl rfl BinR.eql (congrArg Value.bool (decide_eq_true (by omega)))) ?_))
                      | ((show WPl _ _ _ _ _ _ _ (_ :: _) _; first | refine WPl.rd ?_ | refine WPl.sk ?_ | refine WPl.rdB ?_))
                      | ((show WPl _ _ _ _ _ _ _ (⟨_, .alloc _, _, _, _, _⟩ :: _) _; refine WPl.nw fun g => ?_))
                      | ((show WPl _ _ _ _ _ _ _ (⟨_, .store _ _ _, _, _, _, _⟩ :: _) _; first | refine WPl.st1 ?_ | refine WPl.stA ?_ | refine WPl.stEB ?_ | refine WPl.stRB ?_))
                      | ((show WPl _ _ _ _ _ _ _ (_ :: _) _; refine WPl.spl (fun hc => ?_) (fun hc => ?_) <;> (try simp only [decide_eq_true_eq, decide_eq_false_iff_not, Bool.not_eq_true', Bool.not_eq_false', Bool.and_eq_true, Bool.or_eq_true, Bool.and_eq_false_iff, Bool.or_eq_false_iff, Bool.not_true, Bool.not_false, Int.not_lt, Int.not_le] at hc) <;> (try (exfalso; first | omega | exact clash1 hc (by assumption) | exact clash2 hc (by assumption) | exact hc trivial | exact hc (by assumption) | exact absurd hc (by assumption)))))
                      | fail)
                    all_goals exact WPq.rnd (σ := Nat × XS) (i + 1, ⟨b.getD s.pos 0, s.pos + 8, true⟩) ⟨by show i + 1 ≤ 8; omega, by show s.pos + 8 ≤ _; omega, by show _ = xall b (8 - (i + 1)) _; rw [hxa, hm, xall_next hb h0 hbad, hnx, show 8 - (i + 1) = m by omega]⟩ (by show 8 - (i + 1) < _; omega)
                  · rw [decide_eq_false (by omega)] at hnx
                    repeat' (first
                      | refine WPl.nil ?_
                      | refine WPq.then ?_
                      | refine WPq.thenR ?_
                      | refine WPq.thenE ?_
                      | refine WPq.blockN ?_
                      | refine WPq.blockR ?_
                      | refine WPq.blockE ?_
                      | refine WPq.blockO rfl ?_
                      | refine WPc.seq ?_
                      | refine WPc.block ?_
                      | refine WPc.ret ?_
                      | refine WPc.exit ?_
                      | refine WPc.skip ?_
                      | refine WPc.region ?_
                      | ((show WPc _ _ _ _ _ _ (.region 15 _ true) _; refine WPc.drawn [([], [6, 47, 48, 49, 50, 51, 52, 53, 54, 55]), ([0], [6, 44, 47, 48, 49, 50, 51, 52, 53, 54, 55]), ([0, 1], [6, 44, 45, 47, 48, 49, 50, 51, 52, 53, 54, 55]), ([], [6, 44, 45, 46, 50, 51, 53, 54, 55]), ([3], [6, 44, 45, 46, 47, 50, 51, 53, 54, 55]), ([3, 4], [6, 44, 45, 46, 47, 48, 50, 51, 53, 54, 55]), ([], [6, 44, 45, 46, 47, 48, 49, 53, 54, 55]), ([6], [6, 44, 45, 46, 47, 48, 49, 50, 53, 54, 55]), ([3, 4, 5, 6, 7], [6, 44, 45, 46, 47, 48, 49, 50, 51, 53, 54, 55]), ([], [6, 44, 45, 46, 47, 48, 49, 50, 51, 52]), ([9], [6, 44, 45, 46, 47, 48, 49, 50, 51, 52, 53]), ([9, 10], [6, 44, 45, 46, 47, 48, 49, 50, 51, 52, 53, 54]), ([0, 1, 2, 3, 4, 5, 6, 7, 8, 9, 10, 11], [6, 44, 45, 46, 47, 48, 49, 50, 51, 52, 53, 54, 55]), ([], [44, 45, 46, 47, 48, 49, 50, 51, 52, 53, 54, 55, 56]), ([0, 1, 2, 3, 4, 5, 6, 7, 8, 9, 10, 11, 12, 13], [6, 44, 45, 46, 47, 48, 49, 50, 51, 52, 53, 54, 55, 56])] [(13, 14)] (Γx := []) (by exact takesA) (by repeat' (first | exact own_nil | refine own_cons (by first | exact bx_own | exact rowN_own | exact rfl) ?_ | fail)) (by kernel_rfl) (by kernel_rfl) ?_; dsimp only [prev0, List.length_nil, List.length_cons]))
                      | ((show WPc _ _ _ _ _ _ (.region 30 _ true) _; refine WPc.drawn [([], [97, 98, 99, 104, 105, 106, 107, 108, 109, 110]), ([], [96, 104, 105, 106, 107, 108, 109, 110]), ([1], [96, 97, 104, 105, 106, 107, 108, 109, 110]), ([1, 2], [96, 97, 98, 104, 105, 106, 107, 108, 109, 110]), ([0, 1, 2, 3], [96, 97, 98, 99, 104, 105, 106, 107, 108, 109, 110]), ([0, 1, 2, 3, 4], [96, 97, 98, 99, 100, 104, 105, 106, 107, 108, 109, 110]), ([0, 1, 2, 3, 4, 5], [96, 97, 98, 99, 100, 101, 104, 105, 106, 107, 108, 109, 110]), ([0, 1, 2, 3, 4, 5, 6], [96, 97, 98, 99, 100, 101, 102, 104, 105, 106, 107, 108, 109, 110]), ([], [96, 97, 98, 99, 100, 101, 102, 103, 105, 106, 107]), ([], [96, 97, 98, 99, 100, 101, 102, 103, 104]), ([9], [96, 97, 98, 99, 100, 101, 102, 103, 104, 105]), ([9, 10], [96, 97, 98, 99, 100, 101, 102, 103, 104, 105, 106]), ([8, 9, 10, 11], [96, 97, 98, 99, 100, 101, 102, 103, 104, 105, 106, 107]), ([8, 9, 10, 11, 12], [96, 97, 98, 99, 100, 101, 102, 103, 104, 105, 106, 107, 108]), ([8, 9, 10, 11, 12, 13], [96, 97, 98, 99, 100, 101, 102, 103, 104, 105, 106, 107, 108, 109]), ([0, 1, 2, 3, 4, 5, 6, 7, 8, 9, 10, 11, 12, 13, 14], [96, 97, 98, 99, 100, 101, 102, 103, 104, 105, 106, 107, 108, 109, 110]), ([0, 1, 2, 3, 4, 5, 6, 7, 8, 9, 10, 11, 12, 13, 14, 15], [96, 97, 98, 99, 100, 101, 102, 103, 104, 105, 106, 107, 108, 109, 110, 111])] [] (Γx := []) (by exact takesA) (by repeat' (first | exact own_nil | refine own_cons (by first | exact bx_own | exact rowN_own | exact rfl) ?_ | fail)) (by kernel_rfl) (by kernel_rfl) ?_; dsimp only [prev0, List.length_nil, List.length_cons]))
                      | ((show WPc _ _ _ _ _ _ (.region 34 _ true) _; refine WPc.drawn [([13], [134, 135, 138, 139, 140, 141]), ([13], [133, 138, 139, 140, 141]), ([1, 13], [133, 134, 138, 139, 140, 141]), ([0, 1, 2, 13], [133, 134, 135, 138, 139, 140, 141]), ([0, 1, 2, 3, 13], [133, 134, 135, 136, 138, 139, 140, 141]), ([13], [133, 134, 135, 136, 137, 140]), ([5, 13], [133, 134, 135, 136, 137, 138, 140]), ([13], [133, 134, 135, 136, 137, 138, 139, 142]), ([5, 6, 7, 13], [133, 134, 135, 136, 137, 138, 139, 140, 142]), ([0, 1, 2, 3, 4, 5, 6, 13], [133, 134, 135, 136, 137, 138, 139, 140, 141]), ([0, 1, 2, 3, 4, 5, 6, 9, 13], [133, 134, 135, 136, 137, 138, 139, 140, 141, 142]), ([0, 1, 2, 3, 4, 5, 6, 7, 8, 9, 10, 13], [133, 134, 135, 136, 137, 138, 139, 140, 141, 142]), ([0, 1, 2, 3, 4, 5, 6, 7, 8, 9, 10, 11, 13], [133, 134, 135, 136, 137, 138, 139, 140, 141, 142, 143])] [(13, 10), (10, 12), (13, 0), (13, 1), (13, 2), (13, 3), (13, 4), (13, 5), (13, 6), (13, 9), (10, 11)] (Γx := [bx gh 48 (hcx b ⟨s.proto, s.pos, false⟩)]) (by exact takesA) (by repeat' (first | exact own_nil | refine own_cons (by first | exact bx_own | exact rowN_own | exact rfl) ?_ | fail)) (by kernel_rfl) (by kernel_rfl) ?_; dsimp only [prev0, List.length_nil, List.length_cons]))
                      | ((show RGl _ _ _ _ _ _ _ _ _ _ _; first | (show RGl _ _ _ _ _ _ _ _ (⟨some 63, .call ⟨.value _, _, _⟩, _, _, _, _⟩ :: _) _ _; refine RGl.vl (fun e hk => by (try dsimp only [bndR, ensR, oksR, fcutR, List.append_nil, List.nil_append, List.cons_append, List.append_assoc] at hk ⊢); refine OpT.call (hbt) evsA provsA (by kernel_rfl)) ?_) | (show RGl _ _ _ _ _ _ _ _ (⟨some 92, .binOp .add _ _ _ _, _, _, _, _⟩ :: _) _ _; refine RGl.rdX (fun e hk => by (try dsimp only [bndR, ensR, oksR, fcutR, List.append_nil, List.nil_append, List.cons_append, List.append_assoc] at hk ⊢); exact ReadR.bin rfl rfl (BinR.addT hsz (by simp only [kmin]; omega) (by simp only [kmax]; omega))) ?_) | (show RGl _ _ _ _ _ _ _ _ (⟨some 111, .binOp .add _ _ _ _, _, _, _, _⟩ :: _) _ _; refine RGl.rdX (fun e hk => by (try dsimp only [bndR, ensR, oksR, fcutR, List.append_nil, List.nil_append, List.cons_append, List.append_assoc] at hk ⊢); exact ReadR.bin rfl rfl (BinR.addT hK (by simp only [kmin]; omega) (by simp only [kmax]; omega))) ?_) | (show RGl _ _ _ _ _ _ _ _ (⟨some 117, .binOp .neq _ _ _ _, _, _, _, _⟩ :: _) _ _; refine RGl.rdX (fun e hk => by (try dsimp only [bndR, ensR, oksR, fcutR, List.append_nil, List.nil_append, List.cons_append, List.append_assoc] at hk ⊢); exact ReadR.binE rfl rfl BinR.neq (congrArg Value.bool (show (!decide _) = false by rw [decide_eq_true (by omega)]; rfl))) ?_) | (show RGl _ _ _ _ _ _ _ _ (⟨some 122, .binOp .eql _ _ _ _, _, _, _, _⟩ :: _) _ _; refine RGl.rdX (fun e hk => by (try dsimp only [bndR, ensR, oksR, fcutR, List.append_nil, List.nil_append, List.cons_append, List.append_assoc] at hk ⊢); exact ReadR.binE rfl rfl BinR.eql (congrArg Value.bool (decide_eq_false (by omega)))) ?_) | (show RGl _ _ _ _ _ _ _ _ (_ :: _) _ _; first | refine RGl.rdA ?_ | refine RGl.rdX (fun e hk => by (try dsimp only [bndR, ensR, oksR, fcutR, List.append_nil, List.nil_append, List.cons_append, List.append_assoc] at hk ⊢); exact readB) ?_) | (show RGl _ _ _ _ _ _ _ _ (⟨_, .alloc _, _, _, _, _⟩ :: _) _ _; refine RGl.nwA ?_) | (show RGl _ _ _ _ _ _ _ _ (⟨_, .store _ _ _, _, _, _, _⟩ :: _) _ _; refine RGl.stA ?_) | (refine RGl.fin (fun e hk => ?_); (try dsimp only [bndA, ensAR, oksA, List.append_nil, List.nil_append, List.cons_append, List.append_assoc] at hk ⊢); (repeat (obtain ⟨hk1, hk⟩ := hk))) | fail))
                      | ((show WPc _ _ _ _ _ _ (.cond _ _ _) _; first | refine WPc.cT ?_ | refine WPc.cF ?_ | (refine WPc.cS (fun hc => ?_) (fun hc => ?_) <;> (try simp only [decide_eq_true_eq, decide_eq_false_iff_not, Bool.not_eq_true', Bool.not_eq_false', Bool.and_eq_true, Bool.or_eq_true, Bool.and_eq_false_iff, Bool.or_eq_false_iff, Bool.not_true, Bool.not_false, Int.not_lt, Int.not_le] at hc) <;> (try (exfalso; first | omega | exact clash1 hc (by assumption) | exact clash2 hc (by assumption) | exact hc trivial | exact hc (by assumption) | exact absurd hc (by assumption))))))
                      | ((show WPl _ _ _ _ _ _ _ (⟨some 63, .call ⟨.value _, _, _⟩, _, _, _, _⟩ :: _) _; refine WPl.cV (hbt) ?_))
                      | ((show WPl _ _ _ _ _ _ _ (⟨some 92, .binOp .add _ _ _ _, _, _, _, _⟩ :: _) _; refine WPl.rdX (ReadR.bin rfl rfl (BinR.addT hsz (by simp only [kmin]; omega) (by simp only [kmax]; omega))) ?_))
                      | ((show WPl _ _ _ _ _ _ _ (⟨some 111, .binOp .add _ _ _ _, _, _, _, _⟩ :: _) _; refine WPl.rdX (ReadR.bin rfl rfl (BinR.addT hK (by simp only [kmin]; omega) (by simp only [kmax]; omega))) ?_))
                      | ((show WPl _ _ _ _ _ _ _ (⟨some 117, .binOp .neq _ _ _ _, _, _, _, _⟩ :: _) _; refine WPl.rdX (ReadR.binE rfl rfl BinR.neq (congrArg Value.bool (show (!decide _) = false by rw [decide_eq_true (by omega)]; rfl))) ?_))
                      | ((show WPl _ _ _ _ _ _ _ (⟨some 122, .binOp .eql _ _ _ _, _, _, _, _⟩ :: _) _; refine WPl.rdX (ReadR.binE rfl rfl BinR.eql (congrArg Value.bool (decide_eq_false (by omega)))) ?_))
                      | ((show WPl _ _ _ _ _ _ _ (_ :: _) _; first | refine WPl.rd ?_ | refine WPl.sk ?_ | refine WPl.rdB ?_))
                      | ((show WPl _ _ _ _ _ _ _ (⟨_, .alloc _, _, _, _, _⟩ :: _) _; refine WPl.nw fun g => ?_))
                      | ((show WPl _ _ _ _ _ _ _ (⟨_, .store _ _ _, _, _, _, _⟩ :: _) _; first | refine WPl.st1 ?_ | refine WPl.stA ?_ | refine WPl.stEB ?_ | refine WPl.stRB ?_))
                      | ((show WPl _ _ _ _ _ _ _ (_ :: _) _; refine WPl.spl (fun hc => ?_) (fun hc => ?_) <;> (try simp only [decide_eq_true_eq, decide_eq_false_iff_not, Bool.not_eq_true', Bool.not_eq_false', Bool.and_eq_true, Bool.or_eq_true, Bool.and_eq_false_iff, Bool.or_eq_false_iff, Bool.not_true, Bool.not_false, Int.not_lt, Int.not_le] at hc) <;> (try (exfalso; first | omega | exact clash1 hc (by assumption) | exact clash2 hc (by assumption) | exact hc trivial | exact hc (by assumption) | exact absurd hc (by assumption)))))
                      | fail)
                    all_goals exact WPq.rnd (σ := Nat × XS) (i + 1, ⟨b.getD s.pos 0, s.pos + 8, false⟩) ⟨by show i + 1 ≤ 8; omega, by show s.pos + 8 ≤ _; omega, by show _ = xall b (8 - (i + 1)) _; rw [hxa, hm, xall_next hb h0 hbad, hnx, show 8 - (i + 1) = m by omega]⟩ (by show 8 - (i + 1) < _; omega)
                · rw [decide_eq_true (.inl hk8)] at hnx
                  repeat' (first
                    | refine WPl.nil ?_
                    | refine WPq.then ?_
                    | refine WPq.thenR ?_
                    | refine WPq.thenE ?_
                    | refine WPq.blockN ?_
                    | refine WPq.blockR ?_
                    | refine WPq.blockE ?_
                    | refine WPq.blockO rfl ?_
                    | refine WPc.seq ?_
                    | refine WPc.block ?_
                    | refine WPc.ret ?_
                    | refine WPc.exit ?_
                    | refine WPc.skip ?_
                    | refine WPc.region ?_
                    | ((show WPc _ _ _ _ _ _ (.region 15 _ true) _; refine WPc.drawn [([], [6, 47, 48, 49, 50, 51, 52, 53, 54, 55]), ([0], [6, 44, 47, 48, 49, 50, 51, 52, 53, 54, 55]), ([0, 1], [6, 44, 45, 47, 48, 49, 50, 51, 52, 53, 54, 55]), ([], [6, 44, 45, 46, 50, 51, 53, 54, 55]), ([3], [6, 44, 45, 46, 47, 50, 51, 53, 54, 55]), ([3, 4], [6, 44, 45, 46, 47, 48, 50, 51, 53, 54, 55]), ([], [6, 44, 45, 46, 47, 48, 49, 53, 54, 55]), ([6], [6, 44, 45, 46, 47, 48, 49, 50, 53, 54, 55]), ([3, 4, 5, 6, 7], [6, 44, 45, 46, 47, 48, 49, 50, 51, 53, 54, 55]), ([], [6, 44, 45, 46, 47, 48, 49, 50, 51, 52]), ([9], [6, 44, 45, 46, 47, 48, 49, 50, 51, 52, 53]), ([9, 10], [6, 44, 45, 46, 47, 48, 49, 50, 51, 52, 53, 54]), ([0, 1, 2, 3, 4, 5, 6, 7, 8, 9, 10, 11], [6, 44, 45, 46, 47, 48, 49, 50, 51, 52, 53, 54, 55]), ([], [44, 45, 46, 47, 48, 49, 50, 51, 52, 53, 54, 55, 56]), ([0, 1, 2, 3, 4, 5, 6, 7, 8, 9, 10, 11, 12, 13], [6, 44, 45, 46, 47, 48, 49, 50, 51, 52, 53, 54, 55, 56])] [(13, 14)] (Γx := []) (by exact takesA) (by repeat' (first | exact own_nil | refine own_cons (by first | exact bx_own | exact rowN_own | exact rfl) ?_ | fail)) (by kernel_rfl) (by kernel_rfl) ?_; dsimp only [prev0, List.length_nil, List.length_cons]))
                    | ((show WPc _ _ _ _ _ _ (.region 30 _ true) _; refine WPc.drawn [([], [97, 98, 99, 104, 105, 106, 107, 108, 109, 110]), ([], [96, 104, 105, 106, 107, 108, 109, 110]), ([1], [96, 97, 104, 105, 106, 107, 108, 109, 110]), ([1, 2], [96, 97, 98, 104, 105, 106, 107, 108, 109, 110]), ([0, 1, 2, 3], [96, 97, 98, 99, 104, 105, 106, 107, 108, 109, 110]), ([0, 1, 2, 3, 4], [96, 97, 98, 99, 100, 104, 105, 106, 107, 108, 109, 110]), ([0, 1, 2, 3, 4, 5], [96, 97, 98, 99, 100, 101, 104, 105, 106, 107, 108, 109, 110]), ([0, 1, 2, 3, 4, 5, 6], [96, 97, 98, 99, 100, 101, 102, 104, 105, 106, 107, 108, 109, 110]), ([], [96, 97, 98, 99, 100, 101, 102, 103, 105, 106, 107]), ([], [96, 97, 98, 99, 100, 101, 102, 103, 104]), ([9], [96, 97, 98, 99, 100, 101, 102, 103, 104, 105]), ([9, 10], [96, 97, 98, 99, 100, 101, 102, 103, 104, 105, 106]), ([8, 9, 10, 11], [96, 97, 98, 99, 100, 101, 102, 103, 104, 105, 106, 107]), ([8, 9, 10, 11, 12], [96, 97, 98, 99, 100, 101, 102, 103, 104, 105, 106, 107, 108]), ([8, 9, 10, 11, 12, 13], [96, 97, 98, 99, 100, 101, 102, 103, 104, 105, 106, 107, 108, 109]), ([0, 1, 2, 3, 4, 5, 6, 7, 8, 9, 10, 11, 12, 13, 14], [96, 97, 98, 99, 100, 101, 102, 103, 104, 105, 106, 107, 108, 109, 110]), ([0, 1, 2, 3, 4, 5, 6, 7, 8, 9, 10, 11, 12, 13, 14, 15], [96, 97, 98, 99, 100, 101, 102, 103, 104, 105, 106, 107, 108, 109, 110, 111])] [] (Γx := []) (by exact takesA) (by repeat' (first | exact own_nil | refine own_cons (by first | exact bx_own | exact rowN_own | exact rfl) ?_ | fail)) (by kernel_rfl) (by kernel_rfl) ?_; dsimp only [prev0, List.length_nil, List.length_cons]))
                    | ((show WPc _ _ _ _ _ _ (.region 34 _ true) _; refine WPc.drawn [([13], [134, 135, 138, 139, 140, 141]), ([13], [133, 138, 139, 140, 141]), ([1, 13], [133, 134, 138, 139, 140, 141]), ([0, 1, 2, 13], [133, 134, 135, 138, 139, 140, 141]), ([0, 1, 2, 3, 13], [133, 134, 135, 136, 138, 139, 140, 141]), ([13], [133, 134, 135, 136, 137, 140]), ([5, 13], [133, 134, 135, 136, 137, 138, 140]), ([13], [133, 134, 135, 136, 137, 138, 139, 142]), ([5, 6, 7, 13], [133, 134, 135, 136, 137, 138, 139, 140, 142]), ([0, 1, 2, 3, 4, 5, 6, 13], [133, 134, 135, 136, 137, 138, 139, 140, 141]), ([0, 1, 2, 3, 4, 5, 6, 9, 13], [133, 134, 135, 136, 137, 138, 139, 140, 141, 142]), ([0, 1, 2, 3, 4, 5, 6, 7, 8, 9, 10, 13], [133, 134, 135, 136, 137, 138, 139, 140, 141, 142]), ([0, 1, 2, 3, 4, 5, 6, 7, 8, 9, 10, 11, 13], [133, 134, 135, 136, 137, 138, 139, 140, 141, 142, 143])] [(13, 10), (10, 12), (13, 0), (13, 1), (13, 2), (13, 3), (13, 4), (13, 5), (13, 6), (13, 9), (10, 11)] (Γx := [bx gh 48 (hcx b ⟨s.proto, s.pos, true⟩)]) (by exact takesA) (by repeat' (first | exact own_nil | refine own_cons (by first | exact bx_own | exact rowN_own | exact rfl) ?_ | fail)) (by kernel_rfl) (by kernel_rfl) ?_; dsimp only [prev0, List.length_nil, List.length_cons]))
                    | ((show RGl _ _ _ _ _ _ _ _ _ _ _; first | (show RGl _ _ _ _ _ _ _ _ (⟨some 63, .call ⟨.value _, _, _⟩, _, _, _, _⟩ :: _) _ _; refine RGl.vl (fun e hk => by (try dsimp only [bndR, ensR, oksR, fcutR, List.append_nil, List.nil_append, List.cons_append, List.append_assoc] at hk ⊢); refine OpT.call (hbt) evsA provsA (by kernel_rfl)) ?_) | (show RGl _ _ _ _ _ _ _ _ (⟨some 92, .binOp .add _ _ _ _, _, _, _, _⟩ :: _) _ _; refine RGl.rdX (fun e hk => by (try dsimp only [bndR, ensR, oksR, fcutR, List.append_nil, List.nil_append, List.cons_append, List.append_assoc] at hk ⊢); exact ReadR.bin rfl rfl (BinR.addT hsz (by simp only [kmin]; omega) (by simp only [kmax]; omega))) ?_) | (show RGl _ _ _ _ _ _ _ _ (⟨some 111, .binOp .add _ _ _ _, _, _, _, _⟩ :: _) _ _; refine RGl.rdX (fun e hk => by (try dsimp only [bndR, ensR, oksR, fcutR, List.append_nil, List.nil_append, List.cons_append, List.append_assoc] at hk ⊢); exact ReadR.bin rfl rfl (BinR.addT hK (by simp only [kmin]; omega) (by simp only [kmax]; omega))) ?_) | (show RGl _ _ _ _ _ _ _ _ (⟨some 117, .binOp .neq _ _ _ _, _, _, _, _⟩ :: _) _ _; refine RGl.rdX (fun e hk => by (try dsimp only [bndR, ensR, oksR, fcutR, List.append_nil, List.nil_append, List.cons_append, List.append_assoc] at hk ⊢); exact ReadR.binE rfl rfl BinR.neq (congrArg Value.bool (show (!decide _) = true by rw [decide_eq_false (by omega)]; rfl))) ?_) | (show RGl _ _ _ _ _ _ _ _ (_ :: _) _ _; first | refine RGl.rdA ?_ | refine RGl.rdX (fun e hk => by (try dsimp only [bndR, ensR, oksR, fcutR, List.append_nil, List.nil_append, List.cons_append, List.append_assoc] at hk ⊢); exact readB) ?_) | (show RGl _ _ _ _ _ _ _ _ (⟨_, .alloc _, _, _, _, _⟩ :: _) _ _; refine RGl.nwA ?_) | (show RGl _ _ _ _ _ _ _ _ (⟨_, .store _ _ _, _, _, _, _⟩ :: _) _ _; refine RGl.stA ?_) | (refine RGl.fin (fun e hk => ?_); (try dsimp only [bndA, ensAR, oksA, List.append_nil, List.nil_append, List.cons_append, List.append_assoc] at hk ⊢); (repeat (obtain ⟨hk1, hk⟩ := hk))) | fail))
                    | ((show WPc _ _ _ _ _ _ (.cond _ _ _) _; first | refine WPc.cT ?_ | refine WPc.cF ?_ | (refine WPc.cS (fun hc => ?_) (fun hc => ?_) <;> (try simp only [decide_eq_true_eq, decide_eq_false_iff_not, Bool.not_eq_true', Bool.not_eq_false', Bool.and_eq_true, Bool.or_eq_true, Bool.and_eq_false_iff, Bool.or_eq_false_iff, Bool.not_true, Bool.not_false, Int.not_lt, Int.not_le] at hc) <;> (try (exfalso; first | omega | exact clash1 hc (by assumption) | exact clash2 hc (by assumption) | exact hc trivial | exact hc (by assumption) | exact absurd hc (by assumption))))))
                    | ((show WPl _ _ _ _ _ _ _ (⟨some 63, .call ⟨.value _, _, _⟩, _, _, _, _⟩ :: _) _; refine WPl.cV (hbt) ?_))
                    | ((show WPl _ _ _ _ _ _ _ (⟨some 92, .binOp .add _ _ _ _, _, _, _, _⟩ :: _) _; refine WPl.rdX (ReadR.bin rfl rfl (BinR.addT hsz (by simp only [kmin]; omega) (by simp only [kmax]; omega))) ?_))
                    | ((show WPl _ _ _ _ _ _ _ (⟨some 111, .binOp .add _ _ _ _, _, _, _, _⟩ :: _) _; refine WPl.rdX (ReadR.bin rfl rfl (BinR.addT hK (by simp only [kmin]; omega) (by simp only [kmax]; omega))) ?_))
                    | ((show WPl _ _ _ _ _ _ _ (⟨some 117, .binOp .neq _ _ _ _, _, _, _, _⟩ :: _) _; refine WPl.rdX (ReadR.binE rfl rfl BinR.neq (congrArg Value.bool (show (!decide _) = true by rw [decide_eq_false (by omega)]; rfl))) ?_))
                    | ((show WPl _ _ _ _ _ _ _ (_ :: _) _; first | refine WPl.rd ?_ | refine WPl.sk ?_ | refine WPl.rdB ?_))
                    | ((show WPl _ _ _ _ _ _ _ (⟨_, .alloc _, _, _, _, _⟩ :: _) _; refine WPl.nw fun g => ?_))
                    | ((show WPl _ _ _ _ _ _ _ (⟨_, .store _ _ _, _, _, _, _⟩ :: _) _; first | refine WPl.st1 ?_ | refine WPl.stA ?_ | refine WPl.stEB ?_ | refine WPl.stRB ?_))
                    | ((show WPl _ _ _ _ _ _ _ (_ :: _) _; refine WPl.spl (fun hc => ?_) (fun hc => ?_) <;> (try simp only [decide_eq_true_eq, decide_eq_false_iff_not, Bool.not_eq_true', Bool.not_eq_false', Bool.and_eq_true, Bool.or_eq_true, Bool.and_eq_false_iff, Bool.or_eq_false_iff, Bool.not_true, Bool.not_false, Int.not_lt, Int.not_le] at hc) <;> (try (exfalso; first | omega | exact clash1 hc (by assumption) | exact clash2 hc (by assumption) | exact hc trivial | exact hc (by assumption) | exact absurd hc (by assumption)))))
                    | fail)
                  all_goals exact WPq.rnd (σ := Nat × XS) (i + 1, ⟨b.getD s.pos 0, s.pos + 8, true⟩) ⟨by show i + 1 ≤ 8; omega, by show s.pos + 8 ≤ _; omega, by show _ = xall b (8 - (i + 1)) _; rw [hxa, hm, xall_next hb h0 hbad, hnx, show 8 - (i + 1) = m by omega]⟩ (by show 8 - (i + 1) < _; omega)
            · rw [if_neg h44] at hbs hnx
              have hxp : xpart b s = s.part := by unfold xpart; rw [if_neg h44]
              rw [hxp] at hnx
              repeat' (first
                | refine WPl.nil ?_
                | refine WPq.then ?_
                | refine WPq.thenR ?_
                | refine WPq.thenE ?_
                | refine WPq.blockN ?_
                | refine WPq.blockR ?_
                | refine WPq.blockE ?_
                | refine WPq.blockO rfl ?_
                | refine WPc.seq ?_
                | refine WPc.block ?_
                | refine WPc.ret ?_
                | refine WPc.exit ?_
                | refine WPc.skip ?_
                | refine WPc.region ?_
                | ((show WPc _ _ _ _ _ _ (.region 15 _ true) _; refine WPc.drawn [([], [6, 47, 48, 49, 50, 51, 52, 53, 54, 55]), ([0], [6, 44, 47, 48, 49, 50, 51, 52, 53, 54, 55]), ([0, 1], [6, 44, 45, 47, 48, 49, 50, 51, 52, 53, 54, 55]), ([], [6, 44, 45, 46, 50, 51, 53, 54, 55]), ([3], [6, 44, 45, 46, 47, 50, 51, 53, 54, 55]), ([3, 4], [6, 44, 45, 46, 47, 48, 50, 51, 53, 54, 55]), ([], [6, 44, 45, 46, 47, 48, 49, 53, 54, 55]), ([6], [6, 44, 45, 46, 47, 48, 49, 50, 53, 54, 55]), ([3, 4, 5, 6, 7], [6, 44, 45, 46, 47, 48, 49, 50, 51, 53, 54, 55]), ([], [6, 44, 45, 46, 47, 48, 49, 50, 51, 52]), ([9], [6, 44, 45, 46, 47, 48, 49, 50, 51, 52, 53]), ([9, 10], [6, 44, 45, 46, 47, 48, 49, 50, 51, 52, 53, 54]), ([0, 1, 2, 3, 4, 5, 6, 7, 8, 9, 10, 11], [6, 44, 45, 46, 47, 48, 49, 50, 51, 52, 53, 54, 55]), ([], [44, 45, 46, 47, 48, 49, 50, 51, 52, 53, 54, 55, 56]), ([0, 1, 2, 3, 4, 5, 6, 7, 8, 9, 10, 11, 12, 13], [6, 44, 45, 46, 47, 48, 49, 50, 51, 52, 53, 54, 55, 56])] [(13, 14)] (Γx := []) (by exact takesA) (by repeat' (first | exact own_nil | refine own_cons (by first | exact bx_own | exact rowN_own | exact rfl) ?_ | fail)) (by kernel_rfl) (by kernel_rfl) ?_; dsimp only [prev0, List.length_nil, List.length_cons]))
                | ((show WPc _ _ _ _ _ _ (.region 30 _ true) _; refine WPc.drawn [([], [97, 98, 99, 104, 105, 106, 107, 108, 109, 110]), ([], [96, 104, 105, 106, 107, 108, 109, 110]), ([1], [96, 97, 104, 105, 106, 107, 108, 109, 110]), ([1, 2], [96, 97, 98, 104, 105, 106, 107, 108, 109, 110]), ([0, 1, 2, 3], [96, 97, 98, 99, 104, 105, 106, 107, 108, 109, 110]), ([0, 1, 2, 3, 4], [96, 97, 98, 99, 100, 104, 105, 106, 107, 108, 109, 110]), ([0, 1, 2, 3, 4, 5], [96, 97, 98, 99, 100, 101, 104, 105, 106, 107, 108, 109, 110]), ([0, 1, 2, 3, 4, 5, 6], [96, 97, 98, 99, 100, 101, 102, 104, 105, 106, 107, 108, 109, 110]), ([], [96, 97, 98, 99, 100, 101, 102, 103, 105, 106, 107]), ([], [96, 97, 98, 99, 100, 101, 102, 103, 104]), ([9], [96, 97, 98, 99, 100, 101, 102, 103, 104, 105]), ([9, 10], [96, 97, 98, 99, 100, 101, 102, 103, 104, 105, 106]), ([8, 9, 10, 11], [96, 97, 98, 99, 100, 101, 102, 103, 104, 105, 106, 107]), ([8, 9, 10, 11, 12], [96, 97, 98, 99, 100, 101, 102, 103, 104, 105, 106, 107, 108]), ([8, 9, 10, 11, 12, 13], [96, 97, 98, 99, 100, 101, 102, 103, 104, 105, 106, 107, 108, 109]), ([0, 1, 2, 3, 4, 5, 6, 7, 8, 9, 10, 11, 12, 13, 14], [96, 97, 98, 99, 100, 101, 102, 103, 104, 105, 106, 107, 108, 109, 110]), ([0, 1, 2, 3, 4, 5, 6, 7, 8, 9, 10, 11, 12, 13, 14, 15], [96, 97, 98, 99, 100, 101, 102, 103, 104, 105, 106, 107, 108, 109, 110, 111])] [] (Γx := []) (by exact takesA) (by repeat' (first | exact own_nil | refine own_cons (by first | exact bx_own | exact rowN_own | exact rfl) ?_ | fail)) (by kernel_rfl) (by kernel_rfl) ?_; dsimp only [prev0, List.length_nil, List.length_cons]))
                | ((show WPc _ _ _ _ _ _ (.region 34 _ true) _; refine WPc.drawn [([13], [134, 135, 138, 139, 140, 141]), ([13], [133, 138, 139, 140, 141]), ([1, 13], [133, 134, 138, 139, 140, 141]), ([0, 1, 2, 13], [133, 134, 135, 138, 139, 140, 141]), ([0, 1, 2, 3, 13], [133, 134, 135, 136, 138, 139, 140, 141]), ([13], [133, 134, 135, 136, 137, 140]), ([5, 13], [133, 134, 135, 136, 137, 138, 140]), ([13], [133, 134, 135, 136, 137, 138, 139, 142]), ([5, 6, 7, 13], [133, 134, 135, 136, 137, 138, 139, 140, 142]), ([0, 1, 2, 3, 4, 5, 6, 13], [133, 134, 135, 136, 137, 138, 139, 140, 141]), ([0, 1, 2, 3, 4, 5, 6, 9, 13], [133, 134, 135, 136, 137, 138, 139, 140, 141, 142]), ([0, 1, 2, 3, 4, 5, 6, 7, 8, 9, 10, 13], [133, 134, 135, 136, 137, 138, 139, 140, 141, 142]), ([0, 1, 2, 3, 4, 5, 6, 7, 8, 9, 10, 11, 13], [133, 134, 135, 136, 137, 138, 139, 140, 141, 142, 143])] [(13, 10), (10, 12), (13, 0), (13, 1), (13, 2), (13, 3), (13, 4), (13, 5), (13, 6), (13, 9), (10, 11)] (Γx := [bx gh 48 (hcx b s)]) (by exact takesA) (by repeat' (first | exact own_nil | refine own_cons (by first | exact bx_own | exact rowN_own | exact rfl) ?_ | fail)) (by kernel_rfl) (by kernel_rfl) ?_; dsimp only [prev0, List.length_nil, List.length_cons]))
                | ((show RGl _ _ _ _ _ _ _ _ _ _ _; first | (show RGl _ _ _ _ _ _ _ _ (⟨some 63, .call ⟨.value _, _, _⟩, _, _, _, _⟩ :: _) _ _; refine RGl.vl (fun e hk => by (try dsimp only [bndR, ensR, oksR, fcutR, List.append_nil, List.nil_append, List.cons_append, List.append_assoc] at hk ⊢); refine OpT.call (hbt) evsA provsA (by kernel_rfl)) ?_) | (show RGl _ _ _ _ _ _ _ _ (⟨some 92, .binOp .add _ _ _ _, _, _, _, _⟩ :: _) _ _; refine RGl.rdX (fun e hk => by (try dsimp only [bndR, ensR, oksR, fcutR, List.append_nil, List.nil_append, List.cons_append, List.append_assoc] at hk ⊢); exact ReadR.bin rfl rfl (BinR.addT hsz (by simp only [kmin]; omega) (by simp only [kmax]; omega))) ?_) | (show RGl _ _ _ _ _ _ _ _ (_ :: _) _ _; first | refine RGl.rdA ?_ | refine RGl.rdX (fun e hk => by (try dsimp only [bndR, ensR, oksR, fcutR, List.append_nil, List.nil_append, List.cons_append, List.append_assoc] at hk ⊢); exact readB) ?_) | (show RGl _ _ _ _ _ _ _ _ (⟨_, .alloc _, _, _, _, _⟩ :: _) _ _; refine RGl.nwA ?_) | (show RGl _ _ _ _ _ _ _ _ (⟨_, .store _ _ _, _, _, _, _⟩ :: _) _ _; refine RGl.stA ?_) | (refine RGl.fin (fun e hk => ?_); (try dsimp only [bndA, ensAR, oksA, List.append_nil, List.nil_append, List.cons_append, List.append_assoc] at hk ⊢); (repeat (obtain ⟨hk1, hk⟩ := hk))) | fail))
                | ((show WPc _ _ _ _ _ _ (.cond _ _ _) _; first | refine WPc.cT ?_ | refine WPc.cF ?_ | (refine WPc.cS (fun hc => ?_) (fun hc => ?_) <;> (try simp only [decide_eq_true_eq, decide_eq_false_iff_not, Bool.not_eq_true', Bool.not_eq_false', Bool.and_eq_true, Bool.or_eq_true, Bool.and_eq_false_iff, Bool.or_eq_false_iff, Bool.not_true, Bool.not_false, Int.not_lt, Int.not_le] at hc) <;> (try (exfalso; first | omega | exact clash1 hc (by assumption) | exact clash2 hc (by assumption) | exact hc trivial | exact hc (by assumption) | exact absurd hc (by assumption))))))
                | ((show WPl _ _ _ _ _ _ _ (⟨some 63, .call ⟨.value _, _, _⟩, _, _, _, _⟩ :: _) _; refine WPl.cV (hbt) ?_))
                | ((show WPl _ _ _ _ _ _ _ (⟨some 92, .binOp .add _ _ _ _, _, _, _, _⟩ :: _) _; refine WPl.rdX (ReadR.bin rfl rfl (BinR.addT hsz (by simp only [kmin]; omega) (by simp only [kmax]; omega))) ?_))
                | ((show WPl _ _ _ _ _ _ _ (_ :: _) _; first | refine WPl.rd ?_ | refine WPl.sk ?_ | refine WPl.rdB ?_))
                | ((show WPl _ _ _ _ _ _ _ (⟨_, .alloc _, _, _, _, _⟩ :: _) _; refine WPl.nw fun g => ?_))
                | ((show WPl _ _ _ _ _ _ _ (⟨_, .store _ _ _, _, _, _, _⟩ :: _) _; first | refine WPl.st1 ?_ | refine WPl.stA ?_ | refine WPl.stEB ?_ | refine WPl.stRB ?_))
                | ((show WPl _ _ _ _ _ _ _ (_ :: _) _; refine WPl.spl (fun hc => ?_) (fun hc => ?_) <;> (try simp only [decide_eq_true_eq, decide_eq_false_iff_not, Bool.not_eq_true', Bool.not_eq_false', Bool.and_eq_true, Bool.or_eq_true, Bool.and_eq_false_iff, Bool.or_eq_false_iff, Bool.not_true, Bool.not_false, Int.not_lt, Int.not_le] at hc) <;> (try (exfalso; first | omega | exact clash1 hc (by assumption) | exact clash2 hc (by assumption) | exact hc trivial | exact hc (by assumption) | exact absurd hc (by assumption)))))
                | fail)
              all_goals exact WPq.rnd (σ := Nat × XS) (i + 1, ⟨b.getD s.pos 0, s.pos + (8 + 8 * byteN b (s.pos + 1)), s.part⟩) ⟨by show i + 1 ≤ 8; omega, by show s.pos + (8 + 8 * byteN b (s.pos + 1)) ≤ _; omega, by show _ = xall b (8 - (i + 1)) _; rw [hxa, hm, xall_next hb h0 hbad, hnx, show 8 - (i + 1) = m by omega]⟩ (by show 8 - (i + 1) < _; omega)
  · rw [show sVal b = .tuple #[ag (hdc Hd.none), .int .i64 (xerr0 b)] by unfold sVal xread xerr; rw [if_neg he, if_neg he]]
    have hne := xerr0_ne he
    refine Triple.enter Try.func93 rfl Try.ntmps93 rfl (fun W => ?_)
    dsimp only [argsF, Nat.reduceAdd]
    repeat' (first
      | refine WPl.nil ?_
      | refine WPq.then ?_
      | refine WPq.thenR ?_
      | refine WPq.thenE ?_
      | refine WPq.blockN ?_
      | refine WPq.blockR ?_
      | refine WPq.blockE ?_
      | refine WPq.blockO rfl ?_
      | refine WPc.seq ?_
      | refine WPc.block ?_
      | refine WPc.ret ?_
      | refine WPc.exit ?_
      | refine WPc.skip ?_
      | refine WPc.region ?_
      | ((show WPc _ _ _ _ _ _ (.region 15 _ true) _; refine WPc.drawn [([], [6, 47, 48, 49, 50, 51, 52, 53, 54, 55]), ([0], [6, 44, 47, 48, 49, 50, 51, 52, 53, 54, 55]), ([0, 1], [6, 44, 45, 47, 48, 49, 50, 51, 52, 53, 54, 55]), ([], [6, 44, 45, 46, 50, 51, 53, 54, 55]), ([3], [6, 44, 45, 46, 47, 50, 51, 53, 54, 55]), ([3, 4], [6, 44, 45, 46, 47, 48, 50, 51, 53, 54, 55]), ([], [6, 44, 45, 46, 47, 48, 49, 53, 54, 55]), ([6], [6, 44, 45, 46, 47, 48, 49, 50, 53, 54, 55]), ([3, 4, 5, 6, 7], [6, 44, 45, 46, 47, 48, 49, 50, 51, 53, 54, 55]), ([], [6, 44, 45, 46, 47, 48, 49, 50, 51, 52]), ([9], [6, 44, 45, 46, 47, 48, 49, 50, 51, 52, 53]), ([9, 10], [6, 44, 45, 46, 47, 48, 49, 50, 51, 52, 53, 54]), ([0, 1, 2, 3, 4, 5, 6, 7, 8, 9, 10, 11], [6, 44, 45, 46, 47, 48, 49, 50, 51, 52, 53, 54, 55]), ([], [44, 45, 46, 47, 48, 49, 50, 51, 52, 53, 54, 55, 56]), ([0, 1, 2, 3, 4, 5, 6, 7, 8, 9, 10, 11, 12, 13], [6, 44, 45, 46, 47, 48, 49, 50, 51, 52, 53, 54, 55, 56])] [(13, 14)] (Γx := []) (by exact takesA) (by repeat' (first | exact own_nil | refine own_cons (by first | exact bx_own | exact rowN_own | exact rfl) ?_ | fail)) (by kernel_rfl) (by kernel_rfl) ?_; dsimp only [prev0, List.length_nil, List.length_cons]))
      | ((show WPc _ _ _ _ _ _ (.region 30 _ true) _; refine WPc.drawn [([], [97, 98, 99, 104, 105, 106, 107, 108, 109, 110]), ([], [96, 104, 105, 106, 107, 108, 109, 110]), ([1], [96, 97, 104, 105, 106, 107, 108, 109, 110]), ([1, 2], [96, 97, 98, 104, 105, 106, 107, 108, 109, 110]), ([0, 1, 2, 3], [96, 97, 98, 99, 104, 105, 106, 107, 108, 109, 110]), ([0, 1, 2, 3, 4], [96, 97, 98, 99, 100, 104, 105, 106, 107, 108, 109, 110]), ([0, 1, 2, 3, 4, 5], [96, 97, 98, 99, 100, 101, 104, 105, 106, 107, 108, 109, 110]), ([0, 1, 2, 3, 4, 5, 6], [96, 97, 98, 99, 100, 101, 102, 104, 105, 106, 107, 108, 109, 110]), ([], [96, 97, 98, 99, 100, 101, 102, 103, 105, 106, 107]), ([], [96, 97, 98, 99, 100, 101, 102, 103, 104]), ([9], [96, 97, 98, 99, 100, 101, 102, 103, 104, 105]), ([9, 10], [96, 97, 98, 99, 100, 101, 102, 103, 104, 105, 106]), ([8, 9, 10, 11], [96, 97, 98, 99, 100, 101, 102, 103, 104, 105, 106, 107]), ([8, 9, 10, 11, 12], [96, 97, 98, 99, 100, 101, 102, 103, 104, 105, 106, 107, 108]), ([8, 9, 10, 11, 12, 13], [96, 97, 98, 99, 100, 101, 102, 103, 104, 105, 106, 107, 108, 109]), ([0, 1, 2, 3, 4, 5, 6, 7, 8, 9, 10, 11, 12, 13, 14], [96, 97, 98, 99, 100, 101, 102, 103, 104, 105, 106, 107, 108, 109, 110]), ([0, 1, 2, 3, 4, 5, 6, 7, 8, 9, 10, 11, 12, 13, 14, 15], [96, 97, 98, 99, 100, 101, 102, 103, 104, 105, 106, 107, 108, 109, 110, 111])] [] (Γx := []) (by exact takesA) (by repeat' (first | exact own_nil | refine own_cons (by first | exact bx_own | exact rowN_own | exact rfl) ?_ | fail)) (by kernel_rfl) (by kernel_rfl) ?_; dsimp only [prev0, List.length_nil, List.length_cons]))
      | ((show WPc _ _ _ _ _ _ (.region 34 _ true) _; refine WPc.drawn [([], [134, 135, 138, 139, 140, 141]), ([], [133, 138, 139, 140, 141]), ([1], [133, 134, 138, 139, 140, 141]), ([0, 1, 2], [133, 134, 135, 138, 139, 140, 141]), ([0, 1, 2, 3], [133, 134, 135, 136, 138, 139, 140, 141]), ([], [133, 134, 135, 136, 137, 140]), ([5], [133, 134, 135, 136, 137, 138, 140]), ([], [133, 134, 135, 136, 137, 138, 139, 142]), ([5, 6, 7], [133, 134, 135, 136, 137, 138, 139, 140, 142]), ([0, 1, 2, 3, 4, 5, 6], [133, 134, 135, 136, 137, 138, 139, 140, 141]), ([0, 1, 2, 3, 4, 5, 6, 9], [133, 134, 135, 136, 137, 138, 139, 140, 141, 142]), ([0, 1, 2, 3, 4, 5, 6, 7, 8, 9, 10], [133, 134, 135, 136, 137, 138, 139, 140, 141, 142]), ([0, 1, 2, 3, 4, 5, 6, 7, 8, 9, 10, 11], [133, 134, 135, 136, 137, 138, 139, 140, 141, 142, 143])] [] (Γx := []) (by exact takesA) (by repeat' (first | exact own_nil | refine own_cons (by first | exact bx_own | exact rowN_own | exact rfl) ?_ | fail)) (by kernel_rfl) (by kernel_rfl) ?_; dsimp only [prev0, List.length_nil, List.length_cons]))
      | ((show RGl _ _ _ _ _ _ _ _ _ _ _; first | (show RGl _ _ _ _ _ _ _ _ (⟨some 26, .call ⟨.value _, _, _⟩, _, _, _, _⟩ :: _) _ _; refine RGl.vl (fun e hk => by (try dsimp only [bndR, ensR, oksR, fcutR, List.append_nil, List.nil_append, List.cons_append, List.append_assoc] at hk ⊢); refine OpT.call (rget_t v b 4 2 (by omega) (by omega) (by omega)) evsA provsA (by kernel_rfl)) ?_) | (show RGl _ _ _ _ _ _ _ _ (_ :: _) _ _; first | refine RGl.rdA ?_ | refine RGl.rdX (fun e hk => by (try dsimp only [bndR, ensR, oksR, fcutR, List.append_nil, List.nil_append, List.cons_append, List.append_assoc] at hk ⊢); exact readB) ?_) | (show RGl _ _ _ _ _ _ _ _ (⟨_, .alloc _, _, _, _, _⟩ :: _) _ _; refine RGl.nwA ?_) | (show RGl _ _ _ _ _ _ _ _ (⟨_, .store _ _ _, _, _, _, _⟩ :: _) _ _; refine RGl.stA ?_) | (refine RGl.fin (fun e hk => ?_); (try dsimp only [bndA, ensAR, oksA, List.append_nil, List.nil_append, List.cons_append, List.append_assoc] at hk ⊢); (repeat (obtain ⟨hk1, hk⟩ := hk))) | fail))
      | ((show WPc _ _ _ _ _ _ (.cond _ _ _) _; first | refine WPc.cT ?_ | refine WPc.cF ?_ | (refine WPc.cS (fun hc => ?_) (fun hc => ?_) <;> (try simp only [decide_eq_true_eq, decide_eq_false_iff_not, Bool.not_eq_true', Bool.not_eq_false', Bool.and_eq_true, Bool.or_eq_true, Bool.and_eq_false_iff, Bool.or_eq_false_iff, Bool.not_true, Bool.not_false, Int.not_lt, Int.not_le] at hc) <;> (try (exfalso; first | omega | exact clash1 hc (by assumption) | exact clash2 hc (by assumption) | exact hc trivial | exact hc (by assumption) | exact absurd hc (by assumption))))))
      | ((show WPl _ _ _ _ _ _ _ (⟨some 26, .call ⟨.value _, _, _⟩, _, _, _, _⟩ :: _) _; refine WPl.cV (rget_t v b 4 2 (by omega) (by omega) (by omega)) ?_))
      | ((show WPl _ _ _ _ _ _ _ (_ :: _) _; first | refine WPl.rd ?_ | refine WPl.sk ?_ | refine WPl.rdB ?_))
      | ((show WPl _ _ _ _ _ _ _ (⟨_, .alloc _, _, _, _, _⟩ :: _) _; refine WPl.nw fun g => ?_))
      | ((show WPl _ _ _ _ _ _ _ (⟨_, .store _ _ _, _, _, _, _⟩ :: _) _; first | refine WPl.st1 ?_ | refine WPl.stA ?_ | refine WPl.stEB ?_ | refine WPl.stRB ?_))
      | ((show WPl _ _ _ _ _ _ _ (_ :: _) _; refine WPl.spl (fun hc => ?_) (fun hc => ?_) <;> (try simp only [decide_eq_true_eq, decide_eq_false_iff_not, Bool.not_eq_true', Bool.not_eq_false', Bool.and_eq_true, Bool.or_eq_true, Bool.and_eq_false_iff, Bool.or_eq_false_iff, Bool.not_true, Bool.not_false, Int.not_lt, Int.not_le] at hc) <;> (try (exfalso; first | omega | exact clash1 hc (by assumption) | exact clash2 hc (by assumption) | exact hc trivial | exact hc (by assumption) | exact absurd hc (by assumption)))))
      | fail)
    all_goals
      refine WPq.dV (hc := ?_)
      show Value.tuple #[_, Value.int .i64 _] = Value.tuple #[_, Value.int .i64 _]
      congr 5
      unfold xerr0
      repeat' (first | omega | split)
end Go.Proofs.Yteofjhjhaaafjaa
