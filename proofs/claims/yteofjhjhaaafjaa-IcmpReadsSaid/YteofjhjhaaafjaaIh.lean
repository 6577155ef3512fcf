/- Layer 36 (icmp): the reference's message: contract. -/
import Derived.Test.YteofjhjhaaafjaaIe
namespace Go.Proofs.Yteofjhjhaaafjaa
open Go.RowKit
set_option linter.unusedSimpArgs false
set_option linter.unusedVariables false
set_option maxRecDepth 20000
set_option maxHeartbeats 400000
attribute [local irreducible] WPc WPl WPq ReadR OpT BinR HasS bx rdN rowN Take Takes Prov Triple ResF BuildP Done ag Int.decLt Int.decLe Int.instDecidableEq
theorem imE_six {h : Hd} (hs : h.six = true) (m : List UInt8) : imE h m = if h.proto.toNat ≠ 58 then 6 else if m.length < 4 then 9 else if csum (imP h m) ≠ 0 then 5 else 0 := by unfold imE; rw [if_pos hs]
theorem imE_ip (h : Hd) (m : List UInt8) : imE h m = if h.proto.toNat ≠ ipN h then 6 else if m.length < 4 then 9 else if csum (imP h m) ≠ 0 then 5 else 0 := rfl
theorem ipN_lt (h : Hd) : ipN h < 256 := by unfold ipN; split <;> omega
attribute [local irreducible] phH phE ihE irE RRow3 ipN imP
theorem rread36_ok (vb : Value) (b : List UInt8) (hl : b.length ≤ 100000) (he : irE b = 0) : Triple Try.prog 88 #[vb] [rb vb b] (RVal (.tuple #[ag (hdc (phH b)), subv 1 vb (phH b).pos.toNat (b.length - (phH b).pos.toNat), .int .i64 0])) := by
  have c1 := rhead_t vb b hl
  obtain ⟨i1, i2⟩ := irE_len he
  obtain ⟨p1, p2⟩ := ihE_pos i1
  have hE : irE b = imE (phH b) (imM b) := by unfold irE; rw [if_pos i1]
  rw [he] at hE
  obtain ⟨k, hk⟩ : ∃ k : Nat, (phH b).pos = (k : Int) := ⟨(phH b).pos.toNat, by omega⟩
  have hM : imM b = seg b k (b.length - k) := by unfold imM; rw [hk]; rfl
  have hkn : (phH b).pos.toNat = k := by rw [hk]; rfl
  have hkb : k ≤ b.length := by omega
  have hml : (seg b k (b.length - k)).length = b.length - k := by rw [seg_len]; omega
  rw [hM, imE_ip] at hE
  rw [hM, hml] at i2
  rw [hkn]
  rw [show rhH b = phH b by unfold rhH; rw [if_pos i1], i1] at c1
  obtain ⟨X, hX⟩ : ∃ X, X = phH b := ⟨_, rfl⟩
  rw [← hX] at c1 hk p1 p2 hE ⊢
  clear hX hkn hM i1 he
  by_cases q1 : X.proto.toNat ≠ ipN X
  · rw [if_pos q1] at hE; omega
  rw [if_neg q1, hml, if_neg (by omega)] at hE
  by_cases q3 : csum (imP X (seg b k (b.length - k))) ≠ 0
  · rw [if_pos q3] at hE; omega
  have q1 : X.proto.toNat = ipN X := by omega
  have q3 : csum (imP X (seg b k (b.length - k))) = 0 := by omega
  have c2 := rproto_t X
  have c3 := rsum36_t X (subv 1 vb k (b.length - k)) (seg b k (b.length - k)) (by omega)
  rw [q3] at c3
  rw [← q1] at c2
  clear q3 q1 hE
  obtain ⟨six, pr, pos, a1, a2, pt, hp⟩ := X
  dsimp only at hk p1 p2 c2
  subst hk
  have k1 := a1.len
  have k2 := a2.len
  refine Triple.enter Try.func88 rfl Try.ntmps88 rfl (fun W => ?_)
  dsimp only [argsF, Nat.reduceAdd]
  repeat' (first
   | refine WPl.nil ?_ | refine WPq.then ?_ | refine WPq.thenR ?_ | refine WPq.thenE ?_ | refine WPq.blockN ?_ | refine WPq.blockR ?_ | refine WPq.blockE ?_ | refine WPq.blockO rfl ?_ | refine WPc.seq ?_ | refine WPc.block ?_ | refine WPc.ret ?_ | refine WPc.exit ?_ | refine WPc.skip ?_ | refine WPc.region ?_
   | (refine isReg 5 ?_; refine WPc.drA [([], [24, 25]), ([0], [22, 24, 25]), ([], [22, 23]), ([2], [22, 23, 24]), ([0, 1, 2, 3], [22, 23, 24, 25])] [] (Γx := []) ?_; dsimp only [prev0, List.length_nil, List.length_cons])
   | (refine gAny ?_; first | (refine gC 10 ?_; refine RGl.vl (fun e hk => OpT.callN (c1)) ?_) | (refine gC 25 ?_; refine RGl.vl (fun e hk => OpT.callN (c2)) ?_) | (refine gC 36 ?_; refine RGl.vl (fun e hk => OpT.callN (c3)) ?_) | (refine gOp ?_; first | refine RGl.rdA ?_ | refine RGl.rdX (fun e hk => by (try dsimp only [bndR, ensR, oksR, fcutR, List.append_nil, List.nil_append, List.cons_append, List.append_assoc] at hk ⊢); exact readB) ?_) | (refine RGl.fin (fun e hk => ?_); (try dsimp only [bndA, ensAR, oksA, List.append_nil, List.nil_append, List.cons_append, List.append_assoc] at hk ⊢); (repeat (obtain ⟨hk1, hk⟩ := hk))) | fail)
   | (refine isCond ?_; first | refine WPc.cT ?_ | refine WPc.cF ?_ | (refine WPc.cQ (fun hc => ?_) (fun hc => ?_) <;> try exact prA))
   | (refine isC 10 ?_; refine WPl.cV (c1) ?_)
   | (refine isC 25 ?_; refine WPl.cV (c2) ?_)
   | (refine isC 36 ?_; refine WPl.cV (c3) ?_)
   | (refine isOp ?_; first | refine WPl.rd ?_ | refine WPl.sk ?_ | refine WPl.rdB ?_)
   | (refine isAl ?_; refine WPl.nw fun g => ?_)
   | (refine isSt ?_; first | refine WPl.st1 ?_ | refine WPl.stA ?_ | refine WPl.stEB ?_ | refine WPl.stRB ?_)
   | (refine WPl.spQ (fun hc => ?_) (fun hc => ?_) <;> try exact prA)
   | fail)
  all_goals try (first | exact WPq.dV | exact WPq.dR | exact WPq.dR2 | exact WPq.dH | exact WPq.dBH | exact WPq.dT)
theorem rread36_no (vb : Value) (b : List UInt8) (hl : b.length ≤ 100000) (he : irE b ≠ 0) : Triple Try.prog 88 #[vb] [rb vb b] (RRow3 (ag (hdc (rhH b))) [] (.int .i64 (irE b))) := by
  have c1 := rhead_t vb b hl
  by_cases i1 : ihE b = 0
  · obtain ⟨p1, p2⟩ := ihE_pos i1
    have hE : irE b = imE (phH b) (imM b) := by unfold irE; rw [if_pos i1]
    obtain ⟨k, hk⟩ : ∃ k : Nat, (phH b).pos = (k : Int) := ⟨(phH b).pos.toNat, by omega⟩
    have hM : imM b = seg b k (b.length - k) := by unfold imM; rw [hk]; rfl
    have hkb : k ≤ b.length := by omega
    have hml : (seg b k (b.length - k)).length = b.length - k := by rw [seg_len]; omega
    rw [hM, imE_ip] at hE
    rw [show rhH b = phH b by unfold rhH; rw [if_pos i1]] at c1 ⊢
    rw [i1] at c1
    obtain ⟨X, hX⟩ : ∃ X, X = phH b := ⟨_, rfl⟩
    obtain ⟨c, hc⟩ : ∃ c, c = irE b := ⟨_, rfl⟩
    rw [← hc] at hE he ⊢
    rw [← hX] at c1 hk p1 p2 hE ⊢
    clear hX hM i1 hc
    have c2 := rproto_t X
    have c3 := rsum36_t X (subv 1 vb k (b.length - k)) (seg b k (b.length - k)) (by omega)
    have hsl := csum_le (imP X (seg b k (b.length - k)))
    have hil := ipN_lt X
    rw [hml] at hE
    obtain ⟨s, hs⟩ : ∃ s, s = csum (imP X (seg b k (b.length - k))) := ⟨_, rfl⟩
    obtain ⟨m, hm⟩ : ∃ m, m = ipN X := ⟨_, rfl⟩
    rw [← hm] at hE hil c2
    rw [← hs] at hE hsl c3
    clear hs hm
    obtain ⟨six, pr, pos, a1, a2, pt, hp⟩ := X
    dsimp only at hk p1 p2 c2 hE
    subst hk
    have k1 := a1.len
    have k2 := a2.len
    by_cases q1 : pr.toNat = m
    · rw [if_neg (by omega)] at hE
      by_cases q2 : b.length - k < 4
      · rw [if_pos q2] at hE
        subst hE
        refine Triple.enter Try.func88 rfl Try.ntmps88 rfl (fun W => ?_)
        dsimp only [argsF, Nat.reduceAdd]
        repeat' (first
         | refine WPl.nil ?_ | refine WPq.then ?_ | refine WPq.thenR ?_ | refine WPq.thenE ?_ | refine WPq.blockN ?_ | refine WPq.blockR ?_ | refine WPq.blockE ?_ | refine WPq.blockO rfl ?_ | refine WPc.seq ?_ | refine WPc.block ?_ | refine WPc.ret ?_ | refine WPc.exit ?_ | refine WPc.skip ?_ | refine WPc.region ?_
         | (refine isReg 5 ?_; refine WPc.drA [([], [24, 25]), ([0], [22, 24, 25]), ([], [22, 23]), ([2], [22, 23, 24]), ([0, 1, 2, 3], [22, 23, 24, 25])] [] (Γx := []) ?_; dsimp only [prev0, List.length_nil, List.length_cons])
         | (refine gAny ?_; first | (refine gC 10 ?_; refine RGl.vl (fun e hk => OpT.callN (c1)) ?_) | (refine gC 25 ?_; refine RGl.vl (fun e hk => OpT.callN (c2)) ?_) | (refine gC 36 ?_; refine RGl.vl (fun e hk => OpT.callN (c3)) ?_) | (refine gOp ?_; first | refine RGl.rdA ?_ | refine RGl.rdX (fun e hk => by (try dsimp only [bndR, ensR, oksR, fcutR, List.append_nil, List.nil_append, List.cons_append, List.append_assoc] at hk ⊢); exact readB) ?_) | (refine RGl.fin (fun e hk => ?_); (try dsimp only [bndA, ensAR, oksA, List.append_nil, List.nil_append, List.cons_append, List.append_assoc] at hk ⊢); (repeat (obtain ⟨hk1, hk⟩ := hk))) | fail)
         | (refine isCond ?_; first | refine WPc.cT ?_ | refine WPc.cF ?_ | (refine WPc.cQ (fun hc => ?_) (fun hc => ?_) <;> try exact prA))
         | (refine isC 10 ?_; refine WPl.cV (c1) ?_)
         | (refine isC 25 ?_; refine WPl.cV (c2) ?_)
         | (refine isC 36 ?_; refine WPl.cV (c3) ?_)
         | (refine isLit ?_; refine WPl.lit fun v hv => ?_)
         | (refine isOp ?_; first | refine WPl.rd ?_ | refine WPl.sk ?_ | refine WPl.rdB ?_)
         | (refine isAl ?_; refine WPl.nw fun g => ?_)
         | (refine isSt ?_; first | refine WPl.st1 ?_ | refine WPl.stA ?_ | refine WPl.stEB ?_ | refine WPl.stRB ?_)
         | (refine WPl.spQ (fun hc => ?_) (fun hc => ?_) <;> try exact prA)
         | fail)
        all_goals try exact WPq.dR3
      · rw [if_neg q2] at hE
        by_cases q3 : s ≠ 0
        · rw [if_pos q3] at hE
          subst hE
          refine Triple.enter Try.func88 rfl Try.ntmps88 rfl (fun W => ?_)
          dsimp only [argsF, Nat.reduceAdd]
          repeat' (first
           | refine WPl.nil ?_ | refine WPq.then ?_ | refine WPq.thenR ?_ | refine WPq.thenE ?_ | refine WPq.blockN ?_ | refine WPq.blockR ?_ | refine WPq.blockE ?_ | refine WPq.blockO rfl ?_ | refine WPc.seq ?_ | refine WPc.block ?_ | refine WPc.ret ?_ | refine WPc.exit ?_ | refine WPc.skip ?_ | refine WPc.region ?_
           | (refine isReg 5 ?_; refine WPc.drA [([], [24, 25]), ([0], [22, 24, 25]), ([], [22, 23]), ([2], [22, 23, 24]), ([0, 1, 2, 3], [22, 23, 24, 25])] [] (Γx := []) ?_; dsimp only [prev0, List.length_nil, List.length_cons])
           | (refine gAny ?_; first | (refine gC 10 ?_; refine RGl.vl (fun e hk => OpT.callN (c1)) ?_) | (refine gC 25 ?_; refine RGl.vl (fun e hk => OpT.callN (c2)) ?_) | (refine gC 36 ?_; refine RGl.vl (fun e hk => OpT.callN (c3)) ?_) | (refine gOp ?_; first | refine RGl.rdA ?_ | refine RGl.rdX (fun e hk => by (try dsimp only [bndR, ensR, oksR, fcutR, List.append_nil, List.nil_append, List.cons_append, List.append_assoc] at hk ⊢); exact readB) ?_) | (refine RGl.fin (fun e hk => ?_); (try dsimp only [bndA, ensAR, oksA, List.append_nil, List.nil_append, List.cons_append, List.append_assoc] at hk ⊢); (repeat (obtain ⟨hk1, hk⟩ := hk))) | fail)
           | (refine isCond ?_; first | refine WPc.cT ?_ | refine WPc.cF ?_ | (refine WPc.cQ (fun hc => ?_) (fun hc => ?_) <;> try exact prA))
           | (refine isC 10 ?_; refine WPl.cV (c1) ?_)
           | (refine isC 25 ?_; refine WPl.cV (c2) ?_)
           | (refine isC 36 ?_; refine WPl.cV (c3) ?_)
           | (refine isLit ?_; refine WPl.lit fun v hv => ?_)
           | (refine isOp ?_; first | refine WPl.rd ?_ | refine WPl.sk ?_ | refine WPl.rdB ?_)
           | (refine isAl ?_; refine WPl.nw fun g => ?_)
           | (refine isSt ?_; first | refine WPl.st1 ?_ | refine WPl.stA ?_ | refine WPl.stEB ?_ | refine WPl.stRB ?_)
           | (refine WPl.spQ (fun hc => ?_) (fun hc => ?_) <;> try exact prA)
           | fail)
          all_goals try exact WPq.dR3
        · rw [if_neg q3] at hE
          exact absurd hE he
    · rw [if_pos (by omega)] at hE
      subst hE
      refine Triple.enter Try.func88 rfl Try.ntmps88 rfl (fun W => ?_)
      dsimp only [argsF, Nat.reduceAdd]
      repeat' (first
       | refine WPl.nil ?_ | refine WPq.then ?_ | refine WPq.thenR ?_ | refine WPq.thenE ?_ | refine WPq.blockN ?_ | refine WPq.blockR ?_ | refine WPq.blockE ?_ | refine WPq.blockO rfl ?_ | refine WPc.seq ?_ | refine WPc.block ?_ | refine WPc.ret ?_ | refine WPc.exit ?_ | refine WPc.skip ?_ | refine WPc.region ?_
       | (refine isReg 5 ?_; refine WPc.drA [([], [24, 25]), ([0], [22, 24, 25]), ([], [22, 23]), ([2], [22, 23, 24]), ([0, 1, 2, 3], [22, 23, 24, 25])] [] (Γx := []) ?_; dsimp only [prev0, List.length_nil, List.length_cons])
       | (refine gAny ?_; first | (refine gC 10 ?_; refine RGl.vl (fun e hk => OpT.callN (c1)) ?_) | (refine gC 25 ?_; refine RGl.vl (fun e hk => OpT.callN (c2)) ?_) | (refine gC 36 ?_; refine RGl.vl (fun e hk => OpT.callN (c3)) ?_) | (refine gOp ?_; first | refine RGl.rdA ?_ | refine RGl.rdX (fun e hk => by (try dsimp only [bndR, ensR, oksR, fcutR, List.append_nil, List.nil_append, List.cons_append, List.append_assoc] at hk ⊢); exact readB) ?_) | (refine RGl.fin (fun e hk => ?_); (try dsimp only [bndA, ensAR, oksA, List.append_nil, List.nil_append, List.cons_append, List.append_assoc] at hk ⊢); (repeat (obtain ⟨hk1, hk⟩ := hk))) | fail)
       | (refine isCond ?_; first | refine WPc.cT ?_ | refine WPc.cF ?_ | (refine WPc.cQ (fun hc => ?_) (fun hc => ?_) <;> try exact prA))
       | (refine isC 10 ?_; refine WPl.cV (c1) ?_)
       | (refine isC 25 ?_; refine WPl.cV (c2) ?_)
       | (refine isC 36 ?_; refine WPl.cV (c3) ?_)
       | (refine isLit ?_; refine WPl.lit fun v hv => ?_)
       | (refine isOp ?_; first | refine WPl.rd ?_ | refine WPl.sk ?_ | refine WPl.rdB ?_)
       | (refine isAl ?_; refine WPl.nw fun g => ?_)
       | (refine isSt ?_; first | refine WPl.st1 ?_ | refine WPl.stA ?_ | refine WPl.stEB ?_ | refine WPl.stRB ?_)
       | (refine WPl.spQ (fun hc => ?_) (fun hc => ?_) <;> try exact prA)
       | fail)
      all_goals try exact WPq.dR3
  · rw [show irE b = ihE b by unfold irE; rw [if_neg i1]]
    rw [show rhH b = Hd.none by unfold rhH; rw [if_neg i1]] at c1 ⊢
    obtain ⟨c, hc⟩ : ∃ c, c = ihE b := ⟨_, rfl⟩
    rw [← hc] at c1 i1 ⊢
    clear hc
    refine Triple.enter Try.func88 rfl Try.ntmps88 rfl (fun W => ?_)
    dsimp only [argsF, Nat.reduceAdd]
    repeat' (first
     | refine WPl.nil ?_ | refine WPq.then ?_ | refine WPq.thenR ?_ | refine WPq.thenE ?_ | refine WPq.blockN ?_ | refine WPq.blockR ?_ | refine WPq.blockE ?_ | refine WPq.blockO rfl ?_ | refine WPc.seq ?_ | refine WPc.block ?_ | refine WPc.ret ?_ | refine WPc.exit ?_ | refine WPc.skip ?_ | refine WPc.region ?_
     | (refine isReg 5 ?_; refine WPc.drA [([], [24, 25]), ([0], [22, 24, 25]), ([], [22, 23]), ([2], [22, 23, 24]), ([0, 1, 2, 3], [22, 23, 24, 25])] [] (Γx := []) ?_; dsimp only [prev0, List.length_nil, List.length_cons])
     | (refine gAny ?_; first | (refine gC 10 ?_; refine RGl.vl (fun e hk => OpT.callN (c1)) ?_) | (refine gOp ?_; first | refine RGl.rdA ?_ | refine RGl.rdX (fun e hk => by (try dsimp only [bndR, ensR, oksR, fcutR, List.append_nil, List.nil_append, List.cons_append, List.append_assoc] at hk ⊢); exact readB) ?_) | (refine RGl.fin (fun e hk => ?_); (try dsimp only [bndA, ensAR, oksA, List.append_nil, List.nil_append, List.cons_append, List.append_assoc] at hk ⊢); (repeat (obtain ⟨hk1, hk⟩ := hk))) | fail)
     | (refine isCond ?_; first | refine WPc.cT ?_ | refine WPc.cF ?_ | (refine WPc.cQ (fun hc => ?_) (fun hc => ?_) <;> try exact prA))
     | (refine isC 10 ?_; refine WPl.cV (c1) ?_)
     | (refine isLit ?_; refine WPl.lit fun v hv => ?_)
     | (refine isOp ?_; first | refine WPl.rd ?_ | refine WPl.sk ?_ | refine WPl.rdB ?_)
     | (refine isAl ?_; refine WPl.nw fun g => ?_)
     | (refine isSt ?_; first | refine WPl.st1 ?_ | refine WPl.stA ?_ | refine WPl.stEB ?_ | refine WPl.stRB ?_)
     | (refine WPl.spQ (fun hc => ?_) (fun hc => ?_) <;> try exact prA)
     | fail)
    all_goals try exact WPq.dR3
end Go.Proofs.Yteofjhjhaaafjaa
