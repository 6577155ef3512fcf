/- Layer 14 (ipsix): reading: contracts. -/
import Derived.Test.YteofjhjhaaafjaaIt
namespace Go.Proofs.Yteofjhjhaaafjaa
open Go.RowKit
set_option linter.unusedSimpArgs false
set_option linter.unusedVariables false
set_option maxRecDepth 20000
set_option maxHeartbeats 4000000
attribute [local irreducible] WPc WPl WPq ReadR OpT BinR HasS bx rdN rowN Take Takes Prov Triple ResF BuildP Done ag Int.decLt Int.decLe Int.instDecidableEq

def xerr0 (b : List UInt8) : Int :=
  if 2048 < b.length then 10 else if b.length < 40 then 9 else if byteN b 0 / 16 ≠ 6 then 12 else if b.length < 40 + val (seg b 4 2) then 9 else if 40 + val (seg b 4 2) < b.length then 10
  else if byteN b 7 = 0 then 4 else 0
def xs0 (b : List UInt8) : XS := ⟨b.getD 6 0, 40, false⟩
def xerr (b : List UInt8) : Int := if xerr0 b = 0 then (xall b 8 (xs0 b)).1 else xerr0 b
def xhead (b : List UInt8) (s : XS) : Hd := ⟨true, s.proto, (s.pos : Int), ofA (seg b 8 16), ofA (seg b 24 16), s.part, b.getD 7 0⟩
def xread (b : List UInt8) : Hd := if xerr b = 0 then xhead b (xall b 8 (xs0 b)).2 else Hd.none
abbrev sVal (b : List UInt8) : Value := .tuple #[ag (hdc (xread b)), .int .i64 (xerr b)]
theorem xerr0_zero {b : List UInt8} (h : xerr0 b = 0) : b.length ≤ 2048 ∧ 40 ≤ b.length ∧ byteN b 0 / 16 = 6 ∧ 40 + val (seg b 4 2) = b.length ∧ byteN b 7 ≠ 0 := by
  unfold xerr0 at h
  repeat' (split at h)
  all_goals first | omega | (cases h; done) | skip
theorem xerr0_ne {b : List UInt8} (h : ¬ xerr0 b = 0) : 2048 < b.length ∨ b.length < 40 ∨ byteN b 0 / 16 ≠ 6 ∨ 40 + val (seg b 4 2) ≠ b.length ∨ byteN b 7 = 0 := by
  apply Classical.byContradiction
  intro hn
  apply h
  unfold xerr0
  repeat' (first | omega | split)
attribute [local irreducible] xall ofA
theorem xread_t (v : Value) (b : List UInt8) (hl : b.length ≤ 100000) : Triple Try.prog 36 #[v] [rb v b] (RVal (sVal b)) := by
  have hb0 := byteN_lt b 0
  have hb7 := byteN_lt b 7
  have hv1 := val2_lt (l := b) (k := 4)
  have u0 : byteN b 0 = (b.getD 0 0).toNat := rfl
  have u7 : byteN b 7 = (b.getD 7 0).toNat := rfl
  by_cases he : xerr0 b = 0
  · obtain ⟨h1, h2, h3, h4, h5⟩ := xerr0_zero he
    have ha1 := (ofA (seg b 8 16)).len
    have ha2 := (ofA (seg b 24 16)).len
    obtain ⟨c, hc⟩ : ∃ c, c = (xall b 8 (xs0 b)).1 := ⟨_, rfl⟩
    obtain ⟨s, hs⟩ : ∃ s, s = (xall b 8 (xs0 b)).2 := ⟨_, rfl⟩
    have hat := fun g => all_t g ⟨true, 0, 0, ofA (seg b 8 16), ofA (seg b 24 16), false, b.getD 7 0⟩ (xs0 b) v b (by show 40 ≤ _; omega) hl
    have hx : xerr b = c := by unfold xerr; rw [if_pos he, hc]
    have hr : xread b = if c = 0 then xhead b s else Hd.none := by unfold xread; rw [hx, hs]
    rw [← hc, ← hs] at hat
    rw [sVal, hx, hr]
    clear hx hr hc hs
    by_cases hc0 : c = 0
    · rw [if_pos hc0]
      subst hc0
      refine Triple.enter Try.func36 rfl Try.ntmps36 rfl (fun W => ?_)
      dsimp only [argsF, Nat.reduceAdd]
      refine WPc.know (p := v.oneCell' = true) (HasS.one (n := b.length) (xs := u8s b) hasA) fun hone => ?_
      repeat' (first
       | refine WPl.nil ?_ | refine WPq.then ?_ | refine WPq.thenR ?_ | refine WPq.thenE ?_ | refine WPq.blockN ?_ | refine WPq.blockR ?_ | refine WPq.blockE ?_ | refine WPq.blockO rfl ?_ | refine WPc.seq ?_ | refine WPc.block ?_ | refine WPc.ret ?_ | refine WPc.exit ?_ | refine WPc.skip ?_ | refine WPc.region ?_
       | (refine isReg 17 ?_; refine WPc.drA [([], [71, 72, 73, 74, 75, 77]), ([0], [68, 71, 72, 73, 74, 75, 77]), ([0, 1], [68, 69, 71, 72, 73, 74, 75, 77]), ([], [68, 69, 70, 72, 73, 74, 75, 77]), ([], [68, 69, 70, 71, 73, 74, 75, 77]), ([], [68, 69, 70, 71, 72, 77]), ([5], [68, 69, 70, 71, 72, 73, 77]), ([5, 6], [68, 69, 70, 71, 72, 73, 74, 77]), ([0, 1, 2, 3, 4, 5, 6, 7], [68, 69, 70, 71, 72, 73, 74, 75, 77]), ([], [68, 69, 70, 71, 72, 73, 74, 75, 76]), ([0, 1, 2, 3, 4, 5, 6, 7, 8, 9], [68, 69, 70, 71, 72, 73, 74, 75, 76, 77]), ([0, 1, 2, 3, 4, 5, 6, 7, 8, 9, 10], [68, 69, 70, 71, 72, 73, 74, 75, 76, 77, 78]), ([0, 1, 2, 3, 4, 5, 6, 7, 8, 9, 10, 11], [68, 69, 70, 71, 72, 73, 74, 75, 76, 77, 78, 79])] [] (Γx := []) ?_; dsimp only [prev0, List.length_nil, List.length_cons])
       | (refine gAny ?_; first | (refine gC 32 ?_; refine RGl.vl (fun e hk => OpT.callN (get_t v b 4 2 (by omega) (by omega) (by omega) (by omega))) ?_) | (refine gC 59 ?_; refine RGl.vl (fun e hk => OpT.callN (Of_t (subv 1 v 8 16) (seg b 8 16))) ?_) | (refine gC 65 ?_; refine RGl.vl (fun e hk => OpT.callN (Of_t (subv 1 v 24 16) (seg b 24 16))) ?_) | (refine gOp ?_; first | refine RGl.rdA ?_ | refine RGl.rdX (fun e hk => by (try dsimp only [bndR, ensR, oksR, fcutR, List.append_nil, List.nil_append, List.cons_append, List.append_assoc] at hk ⊢); exact readB) ?_) | (refine gBx ?_; refine RGl.nwA ?_) | (refine RGl.fin (fun e hk => ?_); (try dsimp only [bndA, ensAR, oksA, List.append_nil, List.nil_append, List.cons_append, List.append_assoc] at hk ⊢); (repeat (obtain ⟨hk1, hk⟩ := hk))) | fail)
       | (refine isCond ?_; first | refine WPc.cT ?_ | refine WPc.cF ?_ | (refine WPc.cQ (fun hc => ?_) (fun hc => ?_) <;> try exact prA))
       | (refine isD 2 ?_; first | (refine isAl ?_; refine WPl.nw fun gr => ?_) | (refine isBx ?_; refine WPl.nw fun gr => ?_))
       | (refine isC 32 ?_; refine WPl.cV (get_t v b 4 2 (by omega) (by omega) (by omega) (by omega)) ?_)
       | (refine isC 59 ?_; refine WPl.cV (Of_t (subv 1 v 8 16) (seg b 8 16)) ?_)
       | (refine isC 65 ?_; refine WPl.cV (Of_t (subv 1 v 24 16) (seg b 24 16)) ?_)
       | (refine isC 81 ?_; refine WPl.cT (hat (blk (e 11).1)) ?_)
       | (refine isOp ?_; first | refine WPl.rd ?_ | refine WPl.sk ?_ | refine WPl.rdB ?_)
       | (refine isAl ?_; refine WPl.nw fun g => ?_)
       | (refine isBx ?_; refine WPl.nw fun g => ?_)
       | (refine isSt ?_; first | refine WPl.st1 ?_ | refine WPl.stA ?_ | refine WPl.stEB ?_ | refine WPl.stRB ?_)
       | (refine WPl.spQ (fun hc => ?_) (fun hc => ?_) <;> try exact prA)
       | fail)
      all_goals try (first | exact WPq.dV | exact WPq.dR | exact WPq.dR2 | exact WPq.dH | exact WPq.dBH | exact WPq.dT)
    · rw [if_neg hc0]
      refine Triple.enter Try.func36 rfl Try.ntmps36 rfl (fun W => ?_)
      dsimp only [argsF, Nat.reduceAdd]
      refine WPc.know (p := v.oneCell' = true) (HasS.one (n := b.length) (xs := u8s b) hasA) fun hone => ?_
      repeat' (first
       | refine WPl.nil ?_ | refine WPq.then ?_ | refine WPq.thenR ?_ | refine WPq.thenE ?_ | refine WPq.blockN ?_ | refine WPq.blockR ?_ | refine WPq.blockE ?_ | refine WPq.blockO rfl ?_ | refine WPc.seq ?_ | refine WPc.block ?_ | refine WPc.ret ?_ | refine WPc.exit ?_ | refine WPc.skip ?_ | refine WPc.region ?_
       | (refine isReg 17 ?_; refine WPc.drA [([], [71, 72, 73, 74, 75, 77]), ([0], [68, 71, 72, 73, 74, 75, 77]), ([0, 1], [68, 69, 71, 72, 73, 74, 75, 77]), ([], [68, 69, 70, 72, 73, 74, 75, 77]), ([], [68, 69, 70, 71, 73, 74, 75, 77]), ([], [68, 69, 70, 71, 72, 77]), ([5], [68, 69, 70, 71, 72, 73, 77]), ([5, 6], [68, 69, 70, 71, 72, 73, 74, 77]), ([0, 1, 2, 3, 4, 5, 6, 7], [68, 69, 70, 71, 72, 73, 74, 75, 77]), ([], [68, 69, 70, 71, 72, 73, 74, 75, 76]), ([0, 1, 2, 3, 4, 5, 6, 7, 8, 9], [68, 69, 70, 71, 72, 73, 74, 75, 76, 77]), ([0, 1, 2, 3, 4, 5, 6, 7, 8, 9, 10], [68, 69, 70, 71, 72, 73, 74, 75, 76, 77, 78]), ([0, 1, 2, 3, 4, 5, 6, 7, 8, 9, 10, 11], [68, 69, 70, 71, 72, 73, 74, 75, 76, 77, 78, 79])] [] (Γx := []) ?_; dsimp only [prev0, List.length_nil, List.length_cons])
       | (refine gAny ?_; first | (refine gC 32 ?_; refine RGl.vl (fun e hk => OpT.callN (get_t v b 4 2 (by omega) (by omega) (by omega) (by omega))) ?_) | (refine gC 59 ?_; refine RGl.vl (fun e hk => OpT.callN (Of_t (subv 1 v 8 16) (seg b 8 16))) ?_) | (refine gC 65 ?_; refine RGl.vl (fun e hk => OpT.callN (Of_t (subv 1 v 24 16) (seg b 24 16))) ?_) | (refine gOp ?_; first | refine RGl.rdA ?_ | refine RGl.rdX (fun e hk => by (try dsimp only [bndR, ensR, oksR, fcutR, List.append_nil, List.nil_append, List.cons_append, List.append_assoc] at hk ⊢); exact readB) ?_) | (refine gBx ?_; refine RGl.nwA ?_) | (refine RGl.fin (fun e hk => ?_); (try dsimp only [bndA, ensAR, oksA, List.append_nil, List.nil_append, List.cons_append, List.append_assoc] at hk ⊢); (repeat (obtain ⟨hk1, hk⟩ := hk))) | fail)
       | (refine isCond ?_; first | refine WPc.cT ?_ | refine WPc.cF ?_ | (refine WPc.cQ (fun hc => ?_) (fun hc => ?_) <;> try exact prA))
       | (refine isD 2 ?_; first | (refine isAl ?_; refine WPl.nw fun gr => ?_) | (refine isBx ?_; refine WPl.nw fun gr => ?_))
       | (refine isC 32 ?_; refine WPl.cV (get_t v b 4 2 (by omega) (by omega) (by omega) (by omega)) ?_)
       | (refine isC 59 ?_; refine WPl.cV (Of_t (subv 1 v 8 16) (seg b 8 16)) ?_)
       | (refine isC 65 ?_; refine WPl.cV (Of_t (subv 1 v 24 16) (seg b 24 16)) ?_)
       | (refine isC 81 ?_; refine WPl.cT (hat (blk (e 11).1)) ?_)
       | (refine isOp ?_; first | refine WPl.rd ?_ | refine WPl.sk ?_ | refine WPl.rdB ?_)
       | (refine isAl ?_; refine WPl.nw fun g => ?_)
       | (refine isBx ?_; refine WPl.nw fun g => ?_)
       | (refine isSt ?_; first | refine WPl.st1 ?_ | refine WPl.stA ?_ | refine WPl.stEB ?_ | refine WPl.stRB ?_)
       | (refine WPl.spQ (fun hc => ?_) (fun hc => ?_) <;> try exact prA)
       | fail)
      all_goals try (first | exact WPq.dV | exact WPq.dR | exact WPq.dR2 | exact WPq.dH | exact WPq.dBH | exact WPq.dT)
  · rw [show sVal b = .tuple #[ag (hdc Hd.none), .int .i64 (xerr0 b)] by unfold sVal xread xerr; rw [if_neg he, if_neg he]]
    have hne := xerr0_ne he
    refine Triple.enter Try.func36 rfl Try.ntmps36 rfl (fun W => ?_)
    dsimp only [argsF, Nat.reduceAdd]
    repeat' (first
     | refine WPl.nil ?_ | refine WPq.then ?_ | refine WPq.thenR ?_ | refine WPq.thenE ?_ | refine WPq.blockN ?_ | refine WPq.blockR ?_ | refine WPq.blockE ?_ | refine WPq.blockO rfl ?_ | refine WPc.seq ?_ | refine WPc.block ?_ | refine WPc.ret ?_ | refine WPc.exit ?_ | refine WPc.skip ?_ | refine WPc.region ?_
     | (refine isReg 17 ?_; refine WPc.drA [([], [71, 72, 73, 74, 75, 77]), ([0], [68, 71, 72, 73, 74, 75, 77]), ([0, 1], [68, 69, 71, 72, 73, 74, 75, 77]), ([], [68, 69, 70, 72, 73, 74, 75, 77]), ([], [68, 69, 70, 71, 73, 74, 75, 77]), ([], [68, 69, 70, 71, 72, 77]), ([5], [68, 69, 70, 71, 72, 73, 77]), ([5, 6], [68, 69, 70, 71, 72, 73, 74, 77]), ([0, 1, 2, 3, 4, 5, 6, 7], [68, 69, 70, 71, 72, 73, 74, 75, 77]), ([], [68, 69, 70, 71, 72, 73, 74, 75, 76]), ([0, 1, 2, 3, 4, 5, 6, 7, 8, 9], [68, 69, 70, 71, 72, 73, 74, 75, 76, 77]), ([0, 1, 2, 3, 4, 5, 6, 7, 8, 9, 10], [68, 69, 70, 71, 72, 73, 74, 75, 76, 77, 78]), ([0, 1, 2, 3, 4, 5, 6, 7, 8, 9, 10, 11], [68, 69, 70, 71, 72, 73, 74, 75, 76, 77, 78, 79])] [] (Γx := []) ?_; dsimp only [prev0, List.length_nil, List.length_cons])
     | (refine gAny ?_; first | (refine gC 32 ?_; refine RGl.vl (fun e hk => OpT.callN (get_t v b 4 2 (by omega) (by omega) (by omega) (by omega))) ?_) | (refine gOp ?_; first | refine RGl.rdA ?_ | refine RGl.rdX (fun e hk => by (try dsimp only [bndR, ensR, oksR, fcutR, List.append_nil, List.nil_append, List.cons_append, List.append_assoc] at hk ⊢); exact readB) ?_) | (refine gBx ?_; refine RGl.nwA ?_) | (refine RGl.fin (fun e hk => ?_); (try dsimp only [bndA, ensAR, oksA, List.append_nil, List.nil_append, List.cons_append, List.append_assoc] at hk ⊢); (repeat (obtain ⟨hk1, hk⟩ := hk))) | fail)
     | (refine isCond ?_; first | refine WPc.cT ?_ | refine WPc.cF ?_ | (refine WPc.cQ (fun hc => ?_) (fun hc => ?_) <;> try exact prA))
     | (refine isD 2 ?_; first | (refine isAl ?_; refine WPl.nw fun gr => ?_) | (refine isBx ?_; refine WPl.nw fun gr => ?_))
     | (refine isC 32 ?_; refine WPl.cV (get_t v b 4 2 (by omega) (by omega) (by omega) (by omega)) ?_)
     | (refine isOp ?_; first | refine WPl.rd ?_ | refine WPl.sk ?_ | refine WPl.rdB ?_)
     | (refine isAl ?_; refine WPl.nw fun g => ?_)
     | (refine isBx ?_; refine WPl.nw fun g => ?_)
     | (refine isSt ?_; first | refine WPl.st1 ?_ | refine WPl.stA ?_ | refine WPl.stEB ?_ | refine WPl.stRB ?_)
     | (refine WPl.spQ (fun hc => ?_) (fun hc => ?_) <;> try exact prA)
     | fail)
    all_goals
      refine WPq.dV (hc := ?_)
      show Value.tuple #[_, Value.int .i64 _] = Value.tuple #[_, Value.int .i64 _]
      congr 5
      unfold xerr0
      repeat' (first | omega | split)
end Go.Proofs.Yteofjhjhaaafjaa
