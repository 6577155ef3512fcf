/- Layer 13 (ipfour): writing heads: contracts. -/
import Derived.Test.YteofjhjhaaafjaaIg
namespace Go.Proofs.Yteofjhjhaaafjaa
open Go.RowKit
set_option linter.unusedSimpArgs false
set_option linter.unusedVariables false
set_option maxRecDepth 20000
set_option maxHeartbeats 4000000
attribute [local irreducible] WPc WPl WPq ReadR OpT BinR HasS bx rdN rowN Take Takes Prov Triple ResF BuildP Done ag Int.decLt Int.decLe Int.instDecidableEq

def fwBad (h : Hd) : Bool := h.six || (h.part || (decide (((h.hops.toNat : Nat) : Int) = 0) || (h.src.six || (h.dst.six || (!h.src.good || !h.dst.good)))))
def fwerr (h : Hd) (n : Nat) : Int := if fwBad h then 1 else if 2028 < n then 10 else 0
def fpre (h : Hd) (n : Nat) : List UInt8 := [nbs [69, 0] ++ be (20 + n) 2 ++ nbs [0, 0, 0, 0, (h.hops.toNat : Nat), (h.proto.toNat : Nat), 0, 0], h.src.bytes, h.dst.bytes].flatten
def fpkt (h : Hd) (d : List UInt8) : List UInt8 := [over (fpre h d.length) 10 (be (csum (fpre h d.length)) 2), d].flatten
def fwL (h : Hd) (d : List UInt8) : List UInt8 := if fwerr h d.length = 0 then fpkt h d else []
abbrev RW (l : List UInt8) (e : Int) : Value → List Asn → Prop := RRow2 5 1 l.length (u8s l) (.int .i64 e)
theorem fwBad_no {h : Hd} (hb : fwBad h = false) : h.six = false ∧ h.part = false ∧ ¬ ((h.hops.toNat : Nat) : Int) = 0 ∧ h.src.six = false ∧ h.dst.six = false ∧ h.src.good = true ∧ h.dst.good = true := by
  simpa [fwBad] using hb
theorem fpre_len {h : Hd} {n : Nat} (h1 : h.src.six = false) (h2 : h.dst.six = false) : (fpre h n).length = 20 := by
  have a1 := h.src.bytes_len
  have a2 := h.dst.bytes_len
  rw [h1, if_neg (by decide)] at a1
  rw [h2, if_neg (by decide)] at a2
  simp [fpre, nbs, be_length, a1, a2]
theorem fpre_eq (h : Hd) (n : Nat) : [nbs [69, 0] ++ be (20 + n) 2 ++ nbs [0, 0, 0, 0, (h.hops.toNat : Nat), (h.proto.toNat : Nat), 0, 0], h.src.bytes, h.dst.bytes].flatten = fpre h n := rfl
theorem fpkt_eq (h : Hd) (d : List UInt8) : [over (fpre h d.length) 10 (be (csum (fpre h d.length)) 2), d].flatten = fpkt h d := rfl
attribute [local irreducible] fpre fpkt csum over be
theorem fwrite_t (h : Hd) (v : Value) (d : List UInt8) (hd : d.length ≤ 100000) : Triple Try.prog 40 #[ag (hdc h), v] [rb v d] (RW (fwL h d) (fwerr h d.length)) := by
  have l1 := h.src.len
  have l2 := h.dst.len
  have g1 := Good_t h.src
  have g2 := Good_t h.dst
  cases hbad : fwBad h with
  | true =>
    have he : fwerr h d.length = 1 := by simp [fwerr, hbad]
    rw [show fwL h d = [] by simp [fwL, he], he]
    refine Triple.enter Try.func40 rfl Try.ntmps40 rfl (fun W => ?_)
    dsimp only [argsF, Nat.reduceAdd]
    refine WPc.nilRow 5 ?_
    repeat' (first
      | refine WPl.nil ?_
      | refine WPq.then ?_
      | refine WPq.thenR ?_
      | refine WPq.thenE ?_
      | refine WPq.blockN ?_
      | refine WPq.blockR ?_
      | refine WPq.blockE ?_
      | refine WPq.blockO rfl ?_
      | refine WPc.seq ?_
      | refine WPc.block ?_
      | refine WPc.ret ?_
      | refine WPc.exit ?_
      | refine WPc.skip ?_
      | refine WPc.region ?_
      | ((show WPc _ _ _ _ _ _ (.region 8 _ true) _; refine WPc.drawn [([], [60, 61, 62, 63, 64, 65]), ([], [59, 63, 64]), ([1], [59, 60, 63, 64]), ([1, 2], [59, 60, 61, 63, 64]), ([], [59, 60, 61, 62]), ([4], [59, 60, 61, 62, 63]), ([1, 2, 3, 4, 5], [59, 60, 61, 62, 63, 64]), ([0, 1, 2, 3, 4, 5, 6], [59, 60, 61, 62, 63, 64, 65]), ([0, 1, 2, 3, 4, 5, 6, 7], [59, 60, 61, 62, 63, 64, 65, 66]), ([0, 1, 2, 3, 4, 5, 6, 7, 8], [59, 60, 61, 62, 63, 64, 65, 66, 67])] [] (Γx := []) (by exact takesA) (by repeat' (first | exact own_nil | refine own_cons (by first | exact bx_own | exact rowN_own | exact rfl) ?_ | fail)) (by kernel_rfl) (by kernel_rfl) ?_; dsimp only [prev0, List.length_nil, List.length_cons]))
      | ((show WPc _ _ _ _ _ _ (.region 9 _ true) _; refine WPc.drawn [([], [70, 71, 72, 73, 74]), ([0], [68, 70, 71, 72, 73, 74]), ([], [68, 69]), ([2], [68, 69, 70]), ([2, 3], [68, 69, 70, 71]), ([2, 3, 4], [68, 69, 70, 71, 72]), ([2, 3, 4, 5], [68, 69, 70, 71, 72, 73]), ([0, 1, 2, 3, 4, 5, 6], [68, 69, 70, 71, 72, 73, 74])] [] (Γx := []) (by exact takesA) (by repeat' (first | exact own_nil | refine own_cons (by first | exact bx_own | exact rowN_own | exact rfl) ?_ | fail)) (by kernel_rfl) (by kernel_rfl) ?_; dsimp only [prev0, List.length_nil, List.length_cons]))
      | ((show RGl _ _ _ _ _ _ _ _ _ _ _; first | (show RGl _ _ _ _ _ _ _ _ (⟨some 32, .call ⟨.value _, _, _⟩, _, _, _, _⟩ :: _) _ _; refine RGl.vl (fun e hk => by (try dsimp only [bndR, ensR, oksR, fcutR, List.append_nil, List.nil_append, List.cons_append, List.append_assoc] at hk ⊢); refine OpT.call (g1) evsA provsA (by kernel_rfl)) ?_) | (show RGl _ _ _ _ _ _ _ _ (⟨some 38, .call ⟨.value _, _, _⟩, _, _, _, _⟩ :: _) _ _; refine RGl.vl (fun e hk => by (try dsimp only [bndR, ensR, oksR, fcutR, List.append_nil, List.nil_append, List.cons_append, List.append_assoc] at hk ⊢); refine OpT.call (g2) evsA provsA (by kernel_rfl)) ?_) | (show RGl _ _ _ _ _ _ _ _ (_ :: _) _ _; first | refine RGl.rdA ?_ | refine RGl.rdX (fun e hk => by (try dsimp only [bndR, ensR, oksR, fcutR, List.append_nil, List.nil_append, List.cons_append, List.append_assoc] at hk ⊢); exact readB) ?_) | (show RGl _ _ _ _ _ _ _ _ (⟨_, .buildSlice _ _ _, _, _, _, _⟩ :: _) _ _; refine RGl.litA ?_) | (show RGl _ _ _ _ _ _ _ _ (⟨_, .call ⟨.builtin .copy, _, _⟩, _, _, _, _⟩ :: _) _ _; refine RGl.cpA ?_) | (refine RGl.fin (fun e hk => ?_); (try dsimp only [bndA, ensAR, oksA, List.append_nil, List.nil_append, List.cons_append, List.append_assoc] at hk ⊢); (repeat (obtain ⟨hk1, hk⟩ := hk))) | fail))
      | ((show WPc _ _ _ _ _ _ (.cond _ _ _) _; first | refine WPc.cT ?_ | refine WPc.cF ?_ | (refine WPc.cS (fun hc => ?_) (fun hc => ?_) <;> (try simp only [decide_eq_true_eq, decide_eq_false_iff_not, Bool.not_eq_true', Bool.not_eq_false', Bool.and_eq_true, Bool.or_eq_true, Bool.and_eq_false_iff, Bool.or_eq_false_iff, Bool.not_true, Bool.not_false, Int.not_lt, Int.not_le] at hc) <;> (try (exfalso; first | omega | (simp only [fwBad, *, decide_false, Bool.or_self, Bool.false_or, Bool.not_true, Bool.false_eq_true] at hbad; done) | exact clash1 hc (by assumption) | exact clash2 hc (by assumption) | exact hc trivial | exact hc (by assumption) | exact absurd hc (by assumption))))))
      | ((show WPl _ _ _ _ _ _ _ (⟨some 32, .call ⟨.value _, _, _⟩, _, _, _, _⟩ :: _) _; refine WPl.cV (g1) ?_))
      | ((show WPl _ _ _ _ _ _ _ (⟨some 38, .call ⟨.value _, _, _⟩, _, _, _, _⟩ :: _) _; refine WPl.cV (g2) ?_))
      | ((show WPl _ _ _ _ _ _ _ (⟨_, .call ⟨.builtin .copy, _, _⟩, _, _, _, _⟩ :: _) _; first | refine WPl.cpA fun v => ?_ | refine WPl.cpE fun v => ?_))
      | ((show WPl _ _ _ _ _ _ _ (_ :: _) _; first | refine WPl.rd ?_ | refine WPl.sk ?_ | refine WPl.rdB ?_))
      | ((show WPl _ _ _ _ _ _ _ (⟨_, .box _ _, _, _, _, _⟩ :: _) _; refine WPl.nw fun g => ?_))
      | ((show WPl _ _ _ _ _ _ _ (_ :: _) _; refine WPl.spl (fun hc => ?_) (fun hc => ?_) <;> (try simp only [decide_eq_true_eq, decide_eq_false_iff_not, Bool.not_eq_true', Bool.not_eq_false', Bool.and_eq_true, Bool.or_eq_true, Bool.and_eq_false_iff, Bool.or_eq_false_iff, Bool.not_true, Bool.not_false, Int.not_lt, Int.not_le] at hc) <;> (try (exfalso; first | omega | (simp only [fwBad, *, decide_false, Bool.or_self, Bool.false_or, Bool.not_true, Bool.false_eq_true] at hbad; done) | exact clash1 hc (by assumption) | exact clash2 hc (by assumption) | exact hc trivial | exact hc (by assumption) | exact absurd hc (by assumption)))))
      | fail)
    all_goals try (first
      | exact WPq.dV
      | exact WPq.dR
      | exact WPq.dR2
      | exact WPq.dH
      | exact WPq.dBH
      | exact WPq.dT)
  | false =>
    obtain ⟨b1, b2, b3, b4, b5, b6, b7⟩ := fwBad_no hbad
    rw [b6] at g1
    rw [b7] at g2
    by_cases hlen : 2028 < d.length
    · have he : fwerr h d.length = 10 := by simp [fwerr, hbad, hlen]
      rw [show fwL h d = [] by simp [fwL, he], he]
      refine Triple.enter Try.func40 rfl Try.ntmps40 rfl (fun W => ?_)
      dsimp only [argsF, Nat.reduceAdd]
      refine WPc.nilRow 5 ?_
      repeat' (first
        | refine WPl.nil ?_
        | refine WPq.then ?_
        | refine WPq.thenR ?_
        | refine WPq.thenE ?_
        | refine WPq.blockN ?_
        | refine WPq.blockR ?_
        | refine WPq.blockE ?_
        | refine WPq.blockO rfl ?_
        | refine WPc.seq ?_
        | refine WPc.block ?_
        | refine WPc.ret ?_
        | refine WPc.exit ?_
        | refine WPc.skip ?_
        | refine WPc.region ?_
        | ((show WPc _ _ _ _ _ _ (.region 8 _ true) _; refine WPc.drawn [([], [60, 61, 62, 63, 64, 65]), ([], [59, 63, 64]), ([1], [59, 60, 63, 64]), ([1, 2], [59, 60, 61, 63, 64]), ([], [59, 60, 61, 62]), ([4], [59, 60, 61, 62, 63]), ([1, 2, 3, 4, 5], [59, 60, 61, 62, 63, 64]), ([0, 1, 2, 3, 4, 5, 6], [59, 60, 61, 62, 63, 64, 65]), ([0, 1, 2, 3, 4, 5, 6, 7], [59, 60, 61, 62, 63, 64, 65, 66]), ([0, 1, 2, 3, 4, 5, 6, 7, 8], [59, 60, 61, 62, 63, 64, 65, 66, 67])] [] (Γx := []) (by exact takesA) (by repeat' (first | exact own_nil | refine own_cons (by first | exact bx_own | exact rowN_own | exact rfl) ?_ | fail)) (by kernel_rfl) (by kernel_rfl) ?_; dsimp only [prev0, List.length_nil, List.length_cons]))
        | ((show WPc _ _ _ _ _ _ (.region 9 _ true) _; refine WPc.drawn [([], [70, 71, 72, 73, 74]), ([0], [68, 70, 71, 72, 73, 74]), ([], [68, 69]), ([2], [68, 69, 70]), ([2, 3], [68, 69, 70, 71]), ([2, 3, 4], [68, 69, 70, 71, 72]), ([2, 3, 4, 5], [68, 69, 70, 71, 72, 73]), ([0, 1, 2, 3, 4, 5, 6], [68, 69, 70, 71, 72, 73, 74])] [] (Γx := []) (by exact takesA) (by repeat' (first | exact own_nil | refine own_cons (by first | exact bx_own | exact rowN_own | exact rfl) ?_ | fail)) (by kernel_rfl) (by kernel_rfl) ?_; dsimp only [prev0, List.length_nil, List.length_cons]))
        | ((show RGl _ _ _ _ _ _ _ _ _ _ _; first | (show RGl _ _ _ _ _ _ _ _ (⟨some 32, .call ⟨.value _, _, _⟩, _, _, _, _⟩ :: _) _ _; refine RGl.vl (fun e hk => by (try dsimp only [bndR, ensR, oksR, fcutR, List.append_nil, List.nil_append, List.cons_append, List.append_assoc] at hk ⊢); refine OpT.call (g1) evsA provsA (by kernel_rfl)) ?_) | (show RGl _ _ _ _ _ _ _ _ (⟨some 38, .call ⟨.value _, _, _⟩, _, _, _, _⟩ :: _) _ _; refine RGl.vl (fun e hk => by (try dsimp only [bndR, ensR, oksR, fcutR, List.append_nil, List.nil_append, List.cons_append, List.append_assoc] at hk ⊢); refine OpT.call (g2) evsA provsA (by kernel_rfl)) ?_) | (show RGl _ _ _ _ _ _ _ _ (_ :: _) _ _; first | refine RGl.rdA ?_ | refine RGl.rdX (fun e hk => by (try dsimp only [bndR, ensR, oksR, fcutR, List.append_nil, List.nil_append, List.cons_append, List.append_assoc] at hk ⊢); exact readB) ?_) | (show RGl _ _ _ _ _ _ _ _ (⟨_, .buildSlice _ _ _, _, _, _, _⟩ :: _) _ _; refine RGl.litA ?_) | (show RGl _ _ _ _ _ _ _ _ (⟨_, .call ⟨.builtin .copy, _, _⟩, _, _, _, _⟩ :: _) _ _; refine RGl.cpA ?_) | (refine RGl.fin (fun e hk => ?_); (try dsimp only [bndA, ensAR, oksA, List.append_nil, List.nil_append, List.cons_append, List.append_assoc] at hk ⊢); (repeat (obtain ⟨hk1, hk⟩ := hk))) | fail))
        | ((show WPc _ _ _ _ _ _ (.cond _ _ _) _; first | refine WPc.cT ?_ | refine WPc.cF ?_ | (refine WPc.cS (fun hc => ?_) (fun hc => ?_) <;> (try simp only [decide_eq_true_eq, decide_eq_false_iff_not, Bool.not_eq_true', Bool.not_eq_false', Bool.and_eq_true, Bool.or_eq_true, Bool.and_eq_false_iff, Bool.or_eq_false_iff, Bool.not_true, Bool.not_false, Int.not_lt, Int.not_le] at hc) <;> (try (exfalso; first | omega | exact clash1 hc (by assumption) | exact clash2 hc (by assumption) | exact hc trivial | exact hc (by assumption) | exact absurd hc (by assumption))))))
        | ((show WPl _ _ _ _ _ _ _ (⟨some 32, .call ⟨.value _, _, _⟩, _, _, _, _⟩ :: _) _; refine WPl.cV (g1) ?_))
        | ((show WPl _ _ _ _ _ _ _ (⟨some 38, .call ⟨.value _, _, _⟩, _, _, _, _⟩ :: _) _; refine WPl.cV (g2) ?_))
        | ((show WPl _ _ _ _ _ _ _ (⟨_, .call ⟨.builtin .copy, _, _⟩, _, _, _, _⟩ :: _) _; first | refine WPl.cpA fun v => ?_ | refine WPl.cpE fun v => ?_))
        | ((show WPl _ _ _ _ _ _ _ (_ :: _) _; first | refine WPl.rd ?_ | refine WPl.sk ?_ | refine WPl.rdB ?_))
        | ((show WPl _ _ _ _ _ _ _ (⟨_, .box _ _, _, _, _, _⟩ :: _) _; refine WPl.nw fun g => ?_))
        | ((show WPl _ _ _ _ _ _ _ (_ :: _) _; refine WPl.spl (fun hc => ?_) (fun hc => ?_) <;> (try simp only [decide_eq_true_eq, decide_eq_false_iff_not, Bool.not_eq_true', Bool.not_eq_false', Bool.and_eq_true, Bool.or_eq_true, Bool.and_eq_false_iff, Bool.or_eq_false_iff, Bool.not_true, Bool.not_false, Int.not_lt, Int.not_le] at hc) <;> (try (exfalso; first | omega | exact clash1 hc (by assumption) | exact clash2 hc (by assumption) | exact hc trivial | exact hc (by assumption) | exact absurd hc (by assumption)))))
        | fail)
      all_goals try (first
        | exact WPq.dV
        | exact WPq.dR
        | exact WPq.dR2
        | exact WPq.dH
        | exact WPq.dBH
        | exact WPq.dT)
    · have he : fwerr h d.length = 0 := by simp [fwerr, hbad, hlen]
      rw [show fwL h d = fpkt h d by simp [fwL, he], he]
      have hpl := fpre_len (n := d.length) b4 b5
      have hcs := csum_le (fpre h d.length)
      have a1 := h.src.bytes_len
      have a2 := h.dst.bytes_len
      rw [b4, if_neg (by decide)] at a1
      rw [b5, if_neg (by decide)] at a2
      have hbe := be_length (20 + d.length) 2
      have hbc := be_length (csum (fpre h d.length)) 2
      have hov : (over (fpre h d.length) 10 (be (csum (fpre h d.length)) 2)).length = 20 := by rw [over_length (by omega), hpl]
      refine Triple.enter Try.func40 rfl Try.ntmps40 rfl (fun W => ?_)
      dsimp only [argsF, Nat.reduceAdd]
      repeat' (first
        | refine WPl.nil ?_
        | refine WPq.then ?_
        | refine WPq.thenR ?_
        | refine WPq.thenE ?_
        | refine WPq.blockN ?_
        | refine WPq.blockR ?_
        | refine WPq.blockE ?_
        | refine WPq.blockO rfl ?_
        | refine WPc.seq ?_
        | refine WPc.block ?_
        | refine WPc.ret ?_
        | refine WPc.exit ?_
        | refine WPc.skip ?_
        | refine WPc.region ?_
        | ((show WPc _ _ _ _ _ _ (.region 8 _ true) _; refine WPc.drawn [([], [60, 61, 62, 63, 64, 65]), ([], [59, 63, 64]), ([1], [59, 60, 63, 64]), ([1, 2], [59, 60, 61, 63, 64]), ([], [59, 60, 61, 62]), ([4], [59, 60, 61, 62, 63]), ([1, 2, 3, 4, 5], [59, 60, 61, 62, 63, 64]), ([0, 1, 2, 3, 4, 5, 6], [59, 60, 61, 62, 63, 64, 65]), ([0, 1, 2, 3, 4, 5, 6, 7], [59, 60, 61, 62, 63, 64, 65, 66]), ([0, 1, 2, 3, 4, 5, 6, 7, 8], [59, 60, 61, 62, 63, 64, 65, 66, 67])] [] (Γx := []) (by exact takesA) (by repeat' (first | exact own_nil | refine own_cons (by first | exact bx_own | exact rowN_own | exact rfl) ?_ | fail)) (by kernel_rfl) (by kernel_rfl) ?_; dsimp only [prev0, List.length_nil, List.length_cons]))
        | ((show WPc _ _ _ _ _ _ (.region 9 _ true) _; refine WPc.drawn [([8], [70, 71, 72, 73, 74]), ([0, 8], [68, 70, 71, 72, 73, 74]), ([8], [68, 69]), ([2, 8], [68, 69, 70]), ([2, 3, 8], [68, 69, 70, 71]), ([2, 3, 4, 8], [68, 69, 70, 71, 72]), ([2, 3, 4, 5, 8], [68, 69, 70, 71, 72, 73]), ([0, 1, 2, 3, 4, 5, 6, 8], [68, 69, 70, 71, 72, 73, 74])] [(8, 7), (8, 0), (8, 1), (8, 2), (8, 3), (8, 4), (8, 5), (8, 6)] (Γx := [ob (e 8).1 (fpre h d.length)]) (by exact takesA) (by repeat' (first | exact own_nil | refine own_cons (by first | exact bx_own | exact rowN_own | exact rfl) ?_ | fail)) (by kernel_rfl) (by kernel_rfl) ?_; dsimp only [prev0, List.length_nil, List.length_cons]))
        | ((show RGl _ _ _ _ _ _ _ _ _ _ _; first | (show RGl _ _ _ _ _ _ _ _ (⟨some 32, .call ⟨.value _, _, _⟩, _, _, _, _⟩ :: _) _ _; refine RGl.vl (fun e hk => by (try dsimp only [bndR, ensR, oksR, fcutR, List.append_nil, List.nil_append, List.cons_append, List.append_assoc] at hk ⊢); refine OpT.call (g1) evsA provsA (by kernel_rfl)) ?_) | (show RGl _ _ _ _ _ _ _ _ (⟨some 38, .call ⟨.value _, _, _⟩, _, _, _, _⟩ :: _) _ _; refine RGl.vl (fun e hk => by (try dsimp only [bndR, ensR, oksR, fcutR, List.append_nil, List.nil_append, List.cons_append, List.append_assoc] at hk ⊢); refine OpT.call (g2) evsA provsA (by kernel_rfl)) ?_) | (show RGl _ _ _ _ _ _ _ _ (⟨some 51, .call ⟨.value _, _, _⟩, _, _, _, _⟩ :: _) _ _; refine RGl.row (Γ1 := fun _ => []) (fun e hk => by (try dsimp only [bndR, ensR, oksR, fcutR, List.append_nil, List.nil_append, List.cons_append, List.append_assoc] at hk ⊢); refine OpT.call (put_t _ (nbs [69, 0]) (20 + d.length) 2 (by simp [nbs]) (by omega) (by omega) (by omega)) evsA provsA (by kernel_rfl)) ?_) | (show RGl _ _ _ _ _ _ _ _ (⟨some 74, .call ⟨.value _, _, _⟩, _, _, _, _⟩ :: _) _ _; refine RGl.row (Γ1 := fun _ => []) (fun e hk => by (try dsimp only [bndR, ensR, oksR, fcutR, List.append_nil, List.nil_append, List.cons_append, List.append_assoc] at hk ⊢); refine OpT.call (put_t (.slice none 0 0) [] (csum (fpre h d.length)) 2 (by simp) (by omega) (by omega) (by omega)) evsA provsA (by kernel_rfl)) ?_) | (show RGl _ _ _ _ _ _ _ _ (⟨some 62, .call ⟨.value _, _, _⟩, _, _, _, _⟩ :: _) _ _; refine RGl.row (Γ1 := fun _ => []) (fun e hk => by (try dsimp only [bndR, ensR, oksR, fcutR, List.append_nil, List.nil_append, List.cons_append, List.append_assoc] at hk ⊢); refine OpT.call (addrBytes_t h.src) evsA provsA (by kernel_rfl)) ?_) | (show RGl _ _ _ _ _ _ _ _ (⟨some 65, .call ⟨.value _, _, _⟩, _, _, _, _⟩ :: _) _ _; refine RGl.row (Γ1 := fun _ => []) (fun e hk => by (try dsimp only [bndR, ensR, oksR, fcutR, List.append_nil, List.nil_append, List.cons_append, List.append_assoc] at hk ⊢); refine OpT.call (addrBytes_t h.dst) evsA provsA (by kernel_rfl)) ?_) | (show RGl _ _ _ _ _ _ _ _ (⟨some 67, .call ⟨.value _, _, _⟩, _, _, _, _⟩ :: _) _ _; refine RGl.row (Γ1 := fun _ => []) (fun e hk => by (try dsimp only [bndR, ensR, oksR, fcutR, List.append_nil, List.nil_append, List.cons_append, List.append_assoc] at hk ⊢); refine OpT.call (bytesE_t _ [_, _, _] [nbs [69, 0] ++ be (20 + d.length) 2 ++ nbs [0, 0, 0, 0, (h.hops.toNat : Nat), (h.proto.toNat : Nat), 0, 0], h.src.bytes, h.dst.bytes] (fpre h d.length) (fpre_eq h d.length) rfl (by rw [fpre_eq]; omega) (by simp)) evsA provsA (by kernel_rfl)) ?_) | (show RGl _ _ _ _ _ _ _ _ (⟨some 79, .call ⟨.value _, _, _⟩, _, _, _, _⟩ :: _) _ _; refine RGl.row (Γ1 := fun _ => []) (fun e hk => by (try dsimp only [bndR, ensR, oksR, fcutR, List.append_nil, List.nil_append, List.cons_append, List.append_assoc] at hk ⊢); refine OpT.call (bytesE_t _ [_, _] [over (fpre h d.length) 10 (be (csum (fpre h d.length)) 2), d] (fpkt h d) (fpkt_eq h d) rfl (by simp only [List.flatten_cons, List.flatten_nil, List.length_append, List.length_nil]; omega) (by simp)) evsA provsA (by kernel_rfl)) ?_) | (show RGl _ _ _ _ _ _ _ _ (⟨_, .call ⟨.value _, _, _⟩, _, _, _, _⟩ :: _) _ _; refine RGl.vl (fun e hk => by (try dsimp only [bndR, ensR, oksR, fcutR, List.append_nil, List.nil_append, List.cons_append, List.append_assoc] at hk ⊢); refine OpT.call (isum_t _ [_] [fpre h d.length] (csum (fpre h d.length)) (by simp [csum]) rfl (by simp [hpl]) (by simp)) evsA provsA (by kernel_rfl)) ?_) | (show RGl _ _ _ _ _ _ _ _ (_ :: _) _ _; first | refine RGl.rdA ?_ | refine RGl.rdX (fun e hk => by (try dsimp only [bndR, ensR, oksR, fcutR, List.append_nil, List.nil_append, List.cons_append, List.append_assoc] at hk ⊢); exact readB) ?_) | (show RGl _ _ _ _ _ _ _ _ (⟨_, .buildSlice _ _ _, _, _, _, _⟩ :: _) _ _; refine RGl.litA ?_) | (show RGl _ _ _ _ _ _ _ _ (⟨_, .call ⟨.builtin .copy, _, _⟩, _, _, _, _⟩ :: _) _ _; refine RGl.cpA ?_) | (refine RGl.fin (fun e hk => ?_); (try dsimp only [bndA, ensAR, oksA, List.append_nil, List.nil_append, List.cons_append, List.append_assoc] at hk ⊢); (repeat (obtain ⟨hk1, hk⟩ := hk))) | fail))
        | ((show WPc _ _ _ _ _ _ (.cond _ _ _) _; first | refine WPc.cT ?_ | refine WPc.cF ?_ | (refine WPc.cS (fun hc => ?_) (fun hc => ?_) <;> (try simp only [decide_eq_true_eq, decide_eq_false_iff_not, Bool.not_eq_true', Bool.not_eq_false', Bool.and_eq_true, Bool.or_eq_true, Bool.and_eq_false_iff, Bool.or_eq_false_iff, Bool.not_true, Bool.not_false, Int.not_lt, Int.not_le] at hc) <;> (try (exfalso; first | omega | exact clash1 hc (by assumption) | exact clash2 hc (by assumption) | exact hc trivial | exact hc (by assumption) | exact absurd hc (by assumption))))))
        | ((show WPl _ _ _ _ _ _ _ (⟨some 32, .call ⟨.value _, _, _⟩, _, _, _, _⟩ :: _) _; refine WPl.cV (g1) ?_))
        | ((show WPl _ _ _ _ _ _ _ (⟨some 38, .call ⟨.value _, _, _⟩, _, _, _, _⟩ :: _) _; refine WPl.cV (g2) ?_))
        | ((show WPl _ _ _ _ _ _ _ (⟨_, .buildSlice _ _ _, _, _, _, _⟩ :: _) _; refine WPl.lit fun v hv => ?_))
        | ((show WPl _ _ _ _ _ _ _ (⟨_, .call ⟨.builtin .append, _, _⟩, _, _, _, _⟩ :: _) _; refine WPl.app fun v hv => ?_))
        | ((show WPl _ _ _ _ _ _ _ (⟨_, .buildSlice _ _ _, _, _, _, _⟩ :: _) _; refine WPl.lits fun v hv => ?_))
        | ((show WPl _ _ _ _ _ _ _ (⟨some 51, .call ⟨.value _, _, _⟩, _, _, _, _⟩ :: _) _; refine WPl.cR (put_t _ (nbs [69, 0]) (20 + d.length) 2 (by simp [nbs]) (by omega) (by omega) (by omega)) fun v hv => ?_))
        | ((show WPl _ _ _ _ _ _ _ (⟨some 74, .call ⟨.value _, _, _⟩, _, _, _, _⟩ :: _) _; refine WPl.cR (put_t (.slice none 0 0) [] (csum (fpre h d.length)) 2 (by simp) (by omega) (by omega) (by omega)) fun v hv => ?_))
        | ((show WPl _ _ _ _ _ _ _ (⟨some 62, .call ⟨.value _, _, _⟩, _, _, _, _⟩ :: _) _; refine WPl.cR (addrBytes_t h.src) fun v hv => ?_))
        | ((show WPl _ _ _ _ _ _ _ (⟨some 65, .call ⟨.value _, _, _⟩, _, _, _, _⟩ :: _) _; refine WPl.cR (addrBytes_t h.dst) fun v hv => ?_))
        | ((show WPl _ _ _ _ _ _ _ (⟨some 67, .call ⟨.value _, _, _⟩, _, _, _, _⟩ :: _) _; refine WPl.cR (bytesE_t _ [_, _, _] [nbs [69, 0] ++ be (20 + d.length) 2 ++ nbs [0, 0, 0, 0, (h.hops.toNat : Nat), (h.proto.toNat : Nat), 0, 0], h.src.bytes, h.dst.bytes] (fpre h d.length) (fpre_eq h d.length) rfl (by rw [fpre_eq]; omega) (by simp)) fun v hv => ?_))
        | ((show WPl _ _ _ _ _ _ _ (⟨some 79, .call ⟨.value _, _, _⟩, _, _, _, _⟩ :: _) _; refine WPl.cR (bytesE_t _ [_, _] [over (fpre h d.length) 10 (be (csum (fpre h d.length)) 2), d] (fpkt h d) (fpkt_eq h d) rfl (by simp only [List.flatten_cons, List.flatten_nil, List.length_append, List.length_nil]; omega) (by simp)) fun v hv => ?_))
        | ((show WPl _ _ _ _ _ _ _ (⟨_, .call ⟨.value _, _, _⟩, _, _, _, _⟩ :: _) _; refine WPl.cV (isum_t _ [_] [fpre h d.length] (csum (fpre h d.length)) (by simp [csum]) rfl (by simp [hpl]) (by simp)) ?_))
        | ((show WPl _ _ _ _ _ _ _ (⟨_, .call ⟨.builtin .copy, _, _⟩, _, _, _, _⟩ :: _) _; first | refine WPl.cpA fun v => ?_ | refine WPl.cpE fun v => ?_))
        | ((show WPl _ _ _ _ _ _ _ (_ :: _) _; first | refine WPl.rd ?_ | refine WPl.sk ?_ | refine WPl.rdB ?_))
        | ((show WPl _ _ _ _ _ _ _ (⟨_, .box _ _, _, _, _, _⟩ :: _) _; refine WPl.nw fun g => ?_))
        | ((show WPl _ _ _ _ _ _ _ (_ :: _) _; refine WPl.spl (fun hc => ?_) (fun hc => ?_) <;> (try simp only [decide_eq_true_eq, decide_eq_false_iff_not, Bool.not_eq_true', Bool.not_eq_false', Bool.and_eq_true, Bool.or_eq_true, Bool.and_eq_false_iff, Bool.or_eq_false_iff, Bool.not_true, Bool.not_false, Int.not_lt, Int.not_le] at hc) <;> (try (exfalso; first | omega | exact clash1 hc (by assumption) | exact clash2 hc (by assumption) | exact hc trivial | exact hc (by assumption) | exact absurd hc (by assumption)))))
        | fail)
      all_goals try (first
        | exact WPq.dV
        | exact WPq.dR
        | exact WPq.dR2
        | exact WPq.dH
        | exact WPq.dBH
        | exact WPq.dT)
end Go.Proofs.Yteofjhjhaaafjaa
