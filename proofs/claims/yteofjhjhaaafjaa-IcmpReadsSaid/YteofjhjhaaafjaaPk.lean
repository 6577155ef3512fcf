/- Layer 16 (pkt): packets, read and built: contracts. -/
import Derived.Test.YteofjhjhaaafjaaSw
import Derived.Test.YteofjhjhaaafjaaIv
namespace Go.Proofs.Yteofjhjhaaafjaa
open Go.RowKit
set_option linter.unusedSimpArgs false
set_option linter.unusedVariables false
set_option maxRecDepth 20000
set_option maxHeartbeats 4000000
attribute [local irreducible] WPc WPl WPq ReadR OpT BinR HasS bx rdN rowN Take Takes Prov Triple ResF BuildP Done ag Int.decLt Int.decLe Int.instDecidableEq

/-- A flow. -/
structure Fl where
  src : Adr
  dst : Adr
  sp : Nat
  dp : Nat
  proto : UInt8
abbrev flc (f : Fl) : Ch := [(1, [.bool f.src.six]), (16, u8s f.src.b), (1, [.bool f.dst.six]), (16, u8s f.dst.b), (1, [.int .u16 (f.sp : Int)]), (1, [.int .u16 (f.dp : Int)]), (1, [.int .u8 ((f.proto.toNat : Nat) : Int)])]
def Fl.none : Fl := ⟨Adr.zero, Adr.zero, 0, 0, 0⟩
/-- A packet that was read. -/
structure Pk where
  hd : Hd
  sg : Sg
  fl : Fl
abbrev pkc (p : Pk) : Ch := [(1, [.bool p.hd.six]), (1, [.int .u8 ((p.hd.proto.toNat : Nat) : Int)]), (1, [.int .i64 p.hd.pos]), (1, [.bool p.hd.src.six]), (16, u8s p.hd.src.b), (1, [.bool p.hd.dst.six]), (16, u8s p.hd.dst.b), (1, [.bool p.hd.part]), (1, [.int .u8 ((p.hd.hops.toNat : Nat) : Int)]), (1, [.int .u16 (p.sg.src : Int)]), (1, [.int .u16 (p.sg.dst : Int)]), (1, [.int .u8 ((p.sg.flags.toNat : Nat) : Int)]), (1, [.int .i64 p.sg.sumAt]), (1, [.bool p.sg.zero]), (1, [.int .i64 p.sg.data]), (1, [.bool p.fl.src.six]), (16, u8s p.fl.src.b), (1, [.bool p.fl.dst.six]), (16, u8s p.fl.dst.b), (1, [.int .u16 (p.fl.sp : Int)]), (1, [.int .u16 (p.fl.dp : Int)]), (1, [.int .u8 ((p.fl.proto.toNat : Nat) : Int)])]
def Pk.none : Pk := ⟨Hd.none, Sg.none, Fl.none⟩
def phE (b : List UInt8) : Int := if b.length = 0 then 9 else if byteN b 0 / 16 = 4 then ferr b else if byteN b 0 / 16 = 6 then xerr b else 12
def phH (b : List UInt8) : Hd := if b.length = 0 then Hd.none else if byteN b 0 / 16 = 4 then fread b else if byteN b 0 / 16 = 6 then xread b else Hd.none
abbrev phVal (b : List UInt8) : Value := .tuple #[ag (hdc (phH b)), .int .i64 (phE b)]
attribute [local irreducible] xread xerr fread ferr
theorem phead_t (v : Value) (b : List UInt8) (hl : b.length ≤ 100000) : Triple Try.prog 92 #[v] [rb v b] (RVal (phVal b)) := by
  have hb0 := byteN_lt b 0
  have u0 : byteN b 0 = (b.getD 0 0).toNat := rfl
  have c4 := fread_t v b (by omega)
  have c6 := xread_t v b hl
  by_cases h0 : b.length = 0
  · rw [show phVal b = .tuple #[ag (hdc Hd.none), .int .i64 9] by unfold phVal phH phE; rw [if_pos h0, if_pos h0]]
    refine Triple.enter Try.func92 rfl Try.ntmps92 rfl (fun W => ?_)
    dsimp only [argsF, Nat.reduceAdd]
    repeat' (first
     | refine WPl.nil ?_ | refine WPq.then ?_ | refine WPq.thenR ?_ | refine WPq.thenE ?_ | refine WPq.blockN ?_ | refine WPq.blockR ?_ | refine WPq.blockE ?_ | refine WPq.blockO rfl ?_ | refine WPc.seq ?_ | refine WPc.block ?_ | refine WPc.ret ?_ | refine WPc.exit ?_ | refine WPc.skip ?_ | refine WPc.region ?_
     | (refine isCond ?_; first | refine WPc.cT ?_ | refine WPc.cF ?_ | (refine WPc.cQ (fun hc => ?_) (fun hc => ?_) <;> try exact prA))
     | (refine isOp ?_; first | refine WPl.rd ?_ | refine WPl.sk ?_ | refine WPl.rdB ?_)
     | (refine isAl ?_; refine WPl.nw fun g => ?_)
     | (refine isSt ?_; first | refine WPl.st1 ?_ | refine WPl.stA ?_ | refine WPl.stEB ?_ | refine WPl.stRB ?_)
     | (refine WPl.spQ (fun hc => ?_) (fun hc => ?_) <;> try exact prA)
     | fail)
    all_goals try (first | exact WPq.dV | exact WPq.dR | exact WPq.dR2 | exact WPq.dH | exact WPq.dBH | exact WPq.dT)
  · by_cases h4 : byteN b 0 / 16 = 4
    · rw [show phVal b = fVal b by unfold phVal phH phE; rw [if_neg h0, if_neg h0, if_pos h4, if_pos h4]]
      obtain ⟨X, hX⟩ : ∃ X, X = fread b := ⟨_, rfl⟩
      obtain ⟨c, hc⟩ : ∃ c, c = ferr b := ⟨_, rfl⟩
      simp only [fVal] at c4 ⊢
      rw [← hX, ← hc] at c4 ⊢
      clear hX hc
      have k1 := X.src.len
      have k2 := X.dst.len
      refine Triple.enter Try.func92 rfl Try.ntmps92 rfl (fun W => ?_)
      dsimp only [argsF, Nat.reduceAdd]
      repeat' (first
       | refine WPl.nil ?_ | refine WPq.then ?_ | refine WPq.thenR ?_ | refine WPq.thenE ?_ | refine WPq.blockN ?_ | refine WPq.blockR ?_ | refine WPq.blockE ?_ | refine WPq.blockO rfl ?_ | refine WPc.seq ?_ | refine WPc.block ?_ | refine WPc.ret ?_ | refine WPc.exit ?_ | refine WPc.skip ?_ | refine WPc.region ?_
       | (refine isCond ?_; first | refine WPc.cT ?_ | refine WPc.cF ?_ | (refine WPc.cQ (fun hc => ?_) (fun hc => ?_) <;> try exact prA))
       | (refine isC 15 ?_; refine WPl.cV (c4) ?_)
       | (refine isOp ?_; first | refine WPl.rd ?_ | refine WPl.sk ?_ | refine WPl.rdB ?_)
       | (refine isAl ?_; refine WPl.nw fun g => ?_)
       | (refine isSt ?_; first | refine WPl.st1 ?_ | refine WPl.stA ?_ | refine WPl.stEB ?_ | refine WPl.stRB ?_)
       | (refine WPl.spQ (fun hc => ?_) (fun hc => ?_) <;> try exact prA)
       | fail)
      all_goals try (first | exact WPq.dV | exact WPq.dR | exact WPq.dR2 | exact WPq.dH | exact WPq.dBH | exact WPq.dT)
    · by_cases h6 : byteN b 0 / 16 = 6
      · rw [show phVal b = sVal b by unfold phVal phH phE; rw [if_neg h0, if_neg h0, if_neg h4, if_neg h4, if_pos h6, if_pos h6]]
        obtain ⟨X, hX⟩ : ∃ X, X = xread b := ⟨_, rfl⟩
        obtain ⟨c, hc⟩ : ∃ c, c = xerr b := ⟨_, rfl⟩
        simp only [sVal] at c6 ⊢
        rw [← hX, ← hc] at c6 ⊢
        clear hX hc
        have k1 := X.src.len
        have k2 := X.dst.len
        refine Triple.enter Try.func92 rfl Try.ntmps92 rfl (fun W => ?_)
        dsimp only [argsF, Nat.reduceAdd]
        repeat' (first
         | refine WPl.nil ?_ | refine WPq.then ?_ | refine WPq.thenR ?_ | refine WPq.thenE ?_ | refine WPq.blockN ?_ | refine WPq.blockR ?_ | refine WPq.blockE ?_ | refine WPq.blockO rfl ?_ | refine WPc.seq ?_ | refine WPc.block ?_ | refine WPc.ret ?_ | refine WPc.exit ?_ | refine WPc.skip ?_ | refine WPc.region ?_
         | (refine isCond ?_; first | refine WPc.cT ?_ | refine WPc.cF ?_ | (refine WPc.cQ (fun hc => ?_) (fun hc => ?_) <;> try exact prA))
         | (refine isC 21 ?_; refine WPl.cV (c6) ?_)
         | (refine isOp ?_; first | refine WPl.rd ?_ | refine WPl.sk ?_ | refine WPl.rdB ?_)
         | (refine isAl ?_; refine WPl.nw fun g => ?_)
         | (refine isSt ?_; first | refine WPl.st1 ?_ | refine WPl.stA ?_ | refine WPl.stEB ?_ | refine WPl.stRB ?_)
         | (refine WPl.spQ (fun hc => ?_) (fun hc => ?_) <;> try exact prA)
         | fail)
        all_goals try (first | exact WPq.dV | exact WPq.dR | exact WPq.dR2 | exact WPq.dH | exact WPq.dBH | exact WPq.dT)
      · rw [show phVal b = .tuple #[ag (hdc Hd.none), .int .i64 12] by unfold phVal phH phE; rw [if_neg h0, if_neg h0, if_neg h4, if_neg h4, if_neg h6, if_neg h6]]
        refine Triple.enter Try.func92 rfl Try.ntmps92 rfl (fun W => ?_)
        dsimp only [argsF, Nat.reduceAdd]
        repeat' (first
         | refine WPl.nil ?_ | refine WPq.then ?_ | refine WPq.thenR ?_ | refine WPq.thenE ?_ | refine WPq.blockN ?_ | refine WPq.blockR ?_ | refine WPq.blockE ?_ | refine WPq.blockO rfl ?_ | refine WPc.seq ?_ | refine WPc.block ?_ | refine WPc.ret ?_ | refine WPc.exit ?_ | refine WPc.skip ?_ | refine WPc.region ?_
         | (refine isCond ?_; first | refine WPc.cT ?_ | refine WPc.cF ?_ | (refine WPc.cQ (fun hc => ?_) (fun hc => ?_) <;> try exact prA))
         | (refine isOp ?_; first | refine WPl.rd ?_ | refine WPl.sk ?_ | refine WPl.rdB ?_)
         | (refine isAl ?_; refine WPl.nw fun g => ?_)
         | (refine isSt ?_; first | refine WPl.st1 ?_ | refine WPl.stA ?_ | refine WPl.stEB ?_ | refine WPl.stRB ?_)
         | (refine WPl.spQ (fun hc => ?_) (fun hc => ?_) <;> try exact prA)
         | fail)
        all_goals try (first | exact WPq.dV | exact WPq.dR | exact WPq.dR2 | exact WPq.dH | exact WPq.dBH | exact WPq.dT)
def pkS (b : List UInt8) : List UInt8 := seg b (phH b).pos.toNat (b.length - (phH b).pos.toNat)
def pkE (b : List UInt8) : Int := if ¬ phE b = 0 then phE b else if (phH b).part then 13 else sgE (phH b) (pkS b)
def pkOf (h : Hd) (s : Sg) : Pk := ⟨h, s, ⟨h.src, h.dst, s.src, s.dst, h.proto⟩⟩
def pkR (b : List UInt8) : Pk := if pkE b = 0 then pkOf (phH b) (sgR (phH b) (pkS b)) else Pk.none
abbrev pkVal (b : List UInt8) : Value := .tuple #[ag (pkc (pkR b)), .int .i64 (pkE b)]
/-- Where what is carried begins. -/
theorem ferr_pos {b : List UInt8} (h : ferr b = 0) : 0 ≤ (fread b).pos ∧ (fread b).pos ≤ b.length := by
  obtain ⟨h1, h2, h3, h4, h5, h6, h7, h8, h9⟩ := ferr_zero h
  unfold fread
  rw [if_pos h]
  show (0 : Int) ≤ (ihl b : Nat) ∧ ((ihl b : Nat) : Int) ≤ b.length
  omega
theorem xall_pos {b : List UInt8} : ∀ (m : Nat) (s : XS), s.pos ≤ b.length → (xall b m s).2.pos ≤ b.length
  | 0, s, h => by unfold xall; split <;> exact h
  | m + 1, s, h => by
    unfold xall
    split
    · split
      · exact h
      · split
        · exact h
        · rename_i h3; exact xall_pos m _ (xnext_pos h (by simpa using h3))
    · exact h
theorem xerr_pos {b : List UInt8} (h : xerr b = 0) : 0 ≤ (xread b).pos ∧ (xread b).pos ≤ b.length := by
  have h0 : xerr0 b = 0 := by
    apply Classical.byContradiction
    intro hh
    unfold xerr at h
    rw [if_neg hh] at h
    exact hh h
  obtain ⟨h1, h2, h3, h4, h5⟩ := xerr0_zero h0
  have := xall_pos (b := b) 8 (xs0 b) h2
  unfold xread
  rw [if_pos h]
  show (0 : Int) ≤ ((xall b 8 (xs0 b)).2.pos : Nat) ∧ (((xall b 8 (xs0 b)).2.pos : Nat) : Int) ≤ b.length
  omega
theorem phE_pos {b : List UInt8} (h : phE b = 0) : 0 ≤ (phH b).pos ∧ (phH b).pos ≤ b.length := by
  unfold phE at h
  unfold phH
  repeat' (split at h)
  · cases h
  · rename_i h0 h4; rw [if_neg h0, if_pos h4]; exact ferr_pos h
  · rename_i h0 h4 h6; rw [if_neg h0, if_neg h4, if_pos h6]; exact xerr_pos h
  · cases h
attribute [local irreducible] phH phE sgR sgE
theorem parse_t (v : Value) (b : List UInt8) (hl : b.length ≤ 100000) : Triple Try.prog 49 #[v] [rb v b] (RVal (pkVal b)) := by
  have c1 := phead_t v b hl
  simp only [phVal] at c1
  by_cases he : phE b = 0
  · obtain ⟨p1, p2⟩ := phE_pos he
    have c2 := fun u => sread_t (phH b) u (pkS b) (by unfold pkS; rw [seg_len]; omega)
    simp only [gVal] at c2
    have hE : pkE b = if (phH b).part then 13 else sgE (phH b) (pkS b) := by unfold pkE; rw [if_neg (by rw [he]; simp)]
    obtain ⟨k, hk⟩ : ∃ k : Nat, (phH b).pos = (k : Int) := ⟨(phH b).pos.toNat, by omega⟩
    have hS : pkS b = seg b k (b.length - k) := by unfold pkS; rw [hk]; rfl
    have hval : pkVal b = .tuple #[ag (pkc (if pkE b = 0 then pkOf (phH b) (sgR (phH b) (pkS b)) else Pk.none)), .int .i64 (pkE b)] := rfl
    rw [hval, hE]
    rw [he] at c1
    clear hval hE he
    obtain ⟨Y, hY⟩ : ∃ Y, Y = sgR (phH b) (pkS b) := ⟨_, rfl⟩
    obtain ⟨c, hc⟩ : ∃ c, c = sgE (phH b) (pkS b) := ⟨_, rfl⟩
    rw [← hY, ← hc] at c2 ⊢
    clear hY hc
    rw [hS] at c2
    clear hS
    obtain ⟨X, hX⟩ : ∃ X, X = phH b := ⟨_, rfl⟩
    rw [← hX] at c1 c2 hk p1 p2 ⊢
    clear hX
    obtain ⟨six, pr, pos, a1, a2, pt, hp⟩ := X
    dsimp only at hk p1 p2
    subst hk
    have k1 := a1.len
    have k2 := a2.len
    have hkb : k ≤ b.length := by omega
    cases pt with
    | true =>
      simp only [if_true]
      rw [if_neg (by omega)]
      refine Triple.enter Try.func49 rfl Try.ntmps49 rfl (fun W => ?_)
      dsimp only [argsF, Nat.reduceAdd]
      repeat' (first
       | refine WPl.nil ?_ | refine WPq.then ?_ | refine WPq.thenR ?_ | refine WPq.thenE ?_ | refine WPq.blockN ?_ | refine WPq.blockR ?_ | refine WPq.blockE ?_ | refine WPq.blockO rfl ?_ | refine WPc.seq ?_ | refine WPc.block ?_ | refine WPc.ret ?_ | refine WPc.exit ?_ | refine WPc.skip ?_ | refine WPc.region ?_
       | (refine isReg 6 ?_; refine WPc.drA [([], [6, 21, 22, 23, 24]), ([], [6, 20, 22, 23]), ([], [6, 20, 21]), ([2], [6, 20, 21, 22]), ([1, 2, 3], [6, 20, 21, 22, 23]), ([0, 1, 2, 3, 4], [6, 20, 21, 22, 23, 24]), ([0, 1, 2, 3, 4, 5], [6, 20, 21, 22, 23, 24, 25]), ([0, 1, 2, 3, 4, 5, 6], [6, 19, 20, 21, 22, 23, 24, 25, 27]), ([0, 1, 2, 3, 4, 5, 6], [6, 19, 20, 21, 22, 23, 24, 25, 26]), ([], [19, 20, 21, 22, 23, 24, 25, 26, 27]), ([0, 1, 2, 3, 4, 5, 6, 7, 9], [6, 19, 20, 21, 22, 23, 24, 25, 26, 27]), ([0, 1, 2, 3, 4, 5, 6, 7, 8, 9, 10], [6, 19, 20, 21, 22, 23, 24, 25, 26, 27])] [(9, 10)] (Γx := []) ?_; dsimp only [prev0, List.length_nil, List.length_cons])
       | (refine gAny ?_; first | (refine gC 9 ?_; refine RGl.vl (fun e hk => OpT.callN (c1)) ?_) | (refine gOp ?_; first | refine RGl.rdA ?_ | refine RGl.rdX (fun e hk => by (try dsimp only [bndR, ensR, oksR, fcutR, List.append_nil, List.nil_append, List.cons_append, List.append_assoc] at hk ⊢); exact readB) ?_) | (refine gAl ?_; refine RGl.nwA ?_) | (refine gSt ?_; refine RGl.stA ?_) | (refine RGl.fin (fun e hk => ?_); (try dsimp only [bndA, ensAR, oksA, List.append_nil, List.nil_append, List.cons_append, List.append_assoc] at hk ⊢); (repeat (obtain ⟨hk1, hk⟩ := hk))) | fail)
       | (refine isCond ?_; first | refine WPc.cT ?_ | refine WPc.cF ?_ | (refine WPc.cQ (fun hc => ?_) (fun hc => ?_) <;> try exact prA))
       | (refine isC 9 ?_; refine WPl.cV (c1) ?_)
       | (refine isOp ?_; first | refine WPl.rd ?_ | refine WPl.sk ?_ | refine WPl.rdB ?_)
       | (refine isAl ?_; refine WPl.nw fun g => ?_)
       | (refine isSt ?_; first | refine WPl.st1 ?_ | refine WPl.stA ?_ | refine WPl.stEB ?_ | refine WPl.stRB ?_)
       | (refine WPl.spQ (fun hc => ?_) (fun hc => ?_) <;> try exact prA)
       | fail)
      all_goals try (first | exact WPq.dV | exact WPq.dR | exact WPq.dR2 | exact WPq.dH | exact WPq.dBH | exact WPq.dT)
    | false =>
      simp only [Bool.false_eq_true, if_false]
      by_cases hc0 : c = 0
      · rw [if_pos hc0]
        subst hc0
        refine Triple.enter Try.func49 rfl Try.ntmps49 rfl (fun W => ?_)
        dsimp only [argsF, Nat.reduceAdd]
        repeat' (first
         | refine WPl.nil ?_ | refine WPq.then ?_ | refine WPq.thenR ?_ | refine WPq.thenE ?_ | refine WPq.blockN ?_ | refine WPq.blockR ?_ | refine WPq.blockE ?_ | refine WPq.blockO rfl ?_ | refine WPc.seq ?_ | refine WPc.block ?_ | refine WPc.ret ?_ | refine WPc.exit ?_ | refine WPc.skip ?_ | refine WPc.region ?_
         | (refine isReg 6 ?_; refine WPc.drA [([], [6, 21, 22, 23, 24]), ([], [6, 20, 22, 23]), ([], [6, 20, 21]), ([2], [6, 20, 21, 22]), ([1, 2, 3], [6, 20, 21, 22, 23]), ([0, 1, 2, 3, 4], [6, 20, 21, 22, 23, 24]), ([0, 1, 2, 3, 4, 5], [6, 20, 21, 22, 23, 24, 25]), ([0, 1, 2, 3, 4, 5, 6], [6, 19, 20, 21, 22, 23, 24, 25, 27]), ([0, 1, 2, 3, 4, 5, 6], [6, 19, 20, 21, 22, 23, 24, 25, 26]), ([], [19, 20, 21, 22, 23, 24, 25, 26, 27]), ([0, 1, 2, 3, 4, 5, 6, 7, 9], [6, 19, 20, 21, 22, 23, 24, 25, 26, 27]), ([0, 1, 2, 3, 4, 5, 6, 7, 8, 9, 10], [6, 19, 20, 21, 22, 23, 24, 25, 26, 27])] [(9, 10)] (Γx := []) ?_; dsimp only [prev0, List.length_nil, List.length_cons])
         | (refine gAny ?_; first | (refine gC 9 ?_; refine RGl.vl (fun e hk => OpT.callN (c1)) ?_) | (refine gC 25 ?_; refine RGl.vl (fun e hk => OpT.callN (c2 (subv 1 v k (b.length - k)))) ?_) | (refine gD 45 ?_; refine RGl.rdX (fun e hk => by (try dsimp only [bndR, ensR, oksR, fcutR, List.append_nil, List.nil_append, List.cons_append, List.append_assoc] at hk ⊢); exact ReadR.build (cs' := pkc (pkOf ⟨six, pr, (k : Int), a1, a2, false, hp⟩ Y)) buildA) ?_) | (refine gOp ?_; first | refine RGl.rdA ?_ | refine RGl.rdX (fun e hk => by (try dsimp only [bndR, ensR, oksR, fcutR, List.append_nil, List.nil_append, List.cons_append, List.append_assoc] at hk ⊢); exact readB) ?_) | (refine gAl ?_; refine RGl.nwA ?_) | (refine gSt ?_; refine RGl.stA ?_) | (refine RGl.fin (fun e hk => ?_); (try dsimp only [bndA, ensAR, oksA, List.append_nil, List.nil_append, List.cons_append, List.append_assoc] at hk ⊢); (repeat (obtain ⟨hk1, hk⟩ := hk))) | fail)
         | (refine isCond ?_; first | refine WPc.cT ?_ | refine WPc.cF ?_ | (refine WPc.cQ (fun hc => ?_) (fun hc => ?_) <;> try exact prA))
         | (refine isC 9 ?_; refine WPl.cV (c1) ?_)
         | (refine isC 25 ?_; refine WPl.cV (c2 (subv 1 v k (b.length - k))) ?_)
         | (refine isD 45 ?_; refine WPl.rdX (ReadR.build (cs' := pkc (pkOf ⟨six, pr, (k : Int), a1, a2, false, hp⟩ Y)) buildA) ?_)
         | (show WPl _ _ _ _ _ _ _ (⟨_, .store 74 (.tmp 2) _, _, _, _, _⟩ :: _) _; refine WPl.stA (new := pkc (pkOf ⟨six, pr, (k : Int), a1, a2, false, hp⟩ Y)) ?_ (ht := by kernel_rfl))
         | (refine isOp ?_; first | refine WPl.rd ?_ | refine WPl.sk ?_ | refine WPl.rdB ?_)
         | (refine isAl ?_; refine WPl.nw fun g => ?_)
         | (refine isSt ?_; first | refine WPl.st1 ?_ | refine WPl.stA ?_ | refine WPl.stEB ?_ | refine WPl.stRB ?_)
         | (refine WPl.spQ (fun hc => ?_) (fun hc => ?_) <;> try exact prA)
         | fail)
        all_goals try (first | exact WPq.dV | exact WPq.dR | exact WPq.dR2 | exact WPq.dH | exact WPq.dBH | exact WPq.dT)
      · rw [if_neg hc0]
        refine Triple.enter Try.func49 rfl Try.ntmps49 rfl (fun W => ?_)
        dsimp only [argsF, Nat.reduceAdd]
        repeat' (first
         | refine WPl.nil ?_ | refine WPq.then ?_ | refine WPq.thenR ?_ | refine WPq.thenE ?_ | refine WPq.blockN ?_ | refine WPq.blockR ?_ | refine WPq.blockE ?_ | refine WPq.blockO rfl ?_ | refine WPc.seq ?_ | refine WPc.block ?_ | refine WPc.ret ?_ | refine WPc.exit ?_ | refine WPc.skip ?_ | refine WPc.region ?_
         | (refine isReg 6 ?_; refine WPc.drA [([], [6, 21, 22, 23, 24]), ([], [6, 20, 22, 23]), ([], [6, 20, 21]), ([2], [6, 20, 21, 22]), ([1, 2, 3], [6, 20, 21, 22, 23]), ([0, 1, 2, 3, 4], [6, 20, 21, 22, 23, 24]), ([0, 1, 2, 3, 4, 5], [6, 20, 21, 22, 23, 24, 25]), ([0, 1, 2, 3, 4, 5, 6], [6, 19, 20, 21, 22, 23, 24, 25, 27]), ([0, 1, 2, 3, 4, 5, 6], [6, 19, 20, 21, 22, 23, 24, 25, 26]), ([], [19, 20, 21, 22, 23, 24, 25, 26, 27]), ([0, 1, 2, 3, 4, 5, 6, 7, 9], [6, 19, 20, 21, 22, 23, 24, 25, 26, 27]), ([0, 1, 2, 3, 4, 5, 6, 7, 8, 9, 10], [6, 19, 20, 21, 22, 23, 24, 25, 26, 27])] [(9, 10)] (Γx := []) ?_; dsimp only [prev0, List.length_nil, List.length_cons])
         | (refine gAny ?_; first | (refine gC 9 ?_; refine RGl.vl (fun e hk => OpT.callN (c1)) ?_) | (refine gC 25 ?_; refine RGl.vl (fun e hk => OpT.callN (c2 (subv 1 v k (b.length - k)))) ?_) | (refine gOp ?_; first | refine RGl.rdA ?_ | refine RGl.rdX (fun e hk => by (try dsimp only [bndR, ensR, oksR, fcutR, List.append_nil, List.nil_append, List.cons_append, List.append_assoc] at hk ⊢); exact readB) ?_) | (refine gAl ?_; refine RGl.nwA ?_) | (refine gSt ?_; refine RGl.stA ?_) | (refine RGl.fin (fun e hk => ?_); (try dsimp only [bndA, ensAR, oksA, List.append_nil, List.nil_append, List.cons_append, List.append_assoc] at hk ⊢); (repeat (obtain ⟨hk1, hk⟩ := hk))) | fail)
         | (refine isCond ?_; first | refine WPc.cT ?_ | refine WPc.cF ?_ | (refine WPc.cQ (fun hc => ?_) (fun hc => ?_) <;> try exact prA))
         | (refine isC 9 ?_; refine WPl.cV (c1) ?_)
         | (refine isC 25 ?_; refine WPl.cV (c2 (subv 1 v k (b.length - k))) ?_)
         | (refine isOp ?_; first | refine WPl.rd ?_ | refine WPl.sk ?_ | refine WPl.rdB ?_)
         | (refine isAl ?_; refine WPl.nw fun g => ?_)
         | (refine isSt ?_; first | refine WPl.st1 ?_ | refine WPl.stA ?_ | refine WPl.stEB ?_ | refine WPl.stRB ?_)
         | (refine WPl.spQ (fun hc => ?_) (fun hc => ?_) <;> try exact prA)
         | fail)
        all_goals try (first | exact WPq.dV | exact WPq.dR | exact WPq.dR2 | exact WPq.dH | exact WPq.dBH | exact WPq.dT)
  · have hE : pkE b = phE b := by unfold pkE; rw [if_pos he]
    rw [show pkVal b = .tuple #[ag (pkc Pk.none), .int .i64 (phE b)] by unfold pkVal pkR; rw [hE, if_neg he]]
    obtain ⟨X, hX⟩ : ∃ X, X = phH b := ⟨_, rfl⟩
    obtain ⟨c, hc⟩ : ∃ c, c = phE b := ⟨_, rfl⟩
    rw [← hc] at he
    rw [← hX, ← hc] at c1
    rw [← hc]
    clear hX hc hE
    have k1 := X.src.len
    have k2 := X.dst.len
    refine Triple.enter Try.func49 rfl Try.ntmps49 rfl (fun W => ?_)
    dsimp only [argsF, Nat.reduceAdd]
    repeat' (first
     | refine WPl.nil ?_ | refine WPq.then ?_ | refine WPq.thenR ?_ | refine WPq.thenE ?_ | refine WPq.blockN ?_ | refine WPq.blockR ?_ | refine WPq.blockE ?_ | refine WPq.blockO rfl ?_ | refine WPc.seq ?_ | refine WPc.block ?_ | refine WPc.ret ?_ | refine WPc.exit ?_ | refine WPc.skip ?_ | refine WPc.region ?_
     | (refine isReg 6 ?_; refine WPc.drA [([], [6, 21, 22, 23, 24]), ([], [6, 20, 22, 23]), ([], [6, 20, 21]), ([2], [6, 20, 21, 22]), ([1, 2, 3], [6, 20, 21, 22, 23]), ([0, 1, 2, 3, 4], [6, 20, 21, 22, 23, 24]), ([0, 1, 2, 3, 4, 5], [6, 20, 21, 22, 23, 24, 25]), ([0, 1, 2, 3, 4, 5, 6], [6, 19, 20, 21, 22, 23, 24, 25, 27]), ([0, 1, 2, 3, 4, 5, 6], [6, 19, 20, 21, 22, 23, 24, 25, 26]), ([], [19, 20, 21, 22, 23, 24, 25, 26, 27]), ([0, 1, 2, 3, 4, 5, 6, 7, 9], [6, 19, 20, 21, 22, 23, 24, 25, 26, 27]), ([0, 1, 2, 3, 4, 5, 6, 7, 8, 9, 10], [6, 19, 20, 21, 22, 23, 24, 25, 26, 27])] [(9, 10)] (Γx := []) ?_; dsimp only [prev0, List.length_nil, List.length_cons])
     | (refine gAny ?_; first | (refine gC 9 ?_; refine RGl.vl (fun e hk => OpT.callN (c1)) ?_) | (refine gOp ?_; first | refine RGl.rdA ?_ | refine RGl.rdX (fun e hk => by (try dsimp only [bndR, ensR, oksR, fcutR, List.append_nil, List.nil_append, List.cons_append, List.append_assoc] at hk ⊢); exact readB) ?_) | (refine gAl ?_; refine RGl.nwA ?_) | (refine gSt ?_; refine RGl.stA ?_) | (refine RGl.fin (fun e hk => ?_); (try dsimp only [bndA, ensAR, oksA, List.append_nil, List.nil_append, List.cons_append, List.append_assoc] at hk ⊢); (repeat (obtain ⟨hk1, hk⟩ := hk))) | fail)
     | (refine isCond ?_; first | refine WPc.cT ?_ | refine WPc.cF ?_ | (refine WPc.cQ (fun hc => ?_) (fun hc => ?_) <;> try exact prA))
     | (refine isC 9 ?_; refine WPl.cV (c1) ?_)
     | (refine isOp ?_; first | refine WPl.rd ?_ | refine WPl.sk ?_ | refine WPl.rdB ?_)
     | (refine isAl ?_; refine WPl.nw fun g => ?_)
     | (refine isSt ?_; first | refine WPl.st1 ?_ | refine WPl.stA ?_ | refine WPl.stEB ?_ | refine WPl.stRB ?_)
     | (refine WPl.spQ (fun hc => ?_) (fun hc => ?_) <;> try exact prA)
     | fail)
    all_goals try (first | exact WPq.dV | exact WPq.dR | exact WPq.dR2 | exact WPq.dH | exact WPq.dBH | exact WPq.dT)
end Go.Proofs.Yteofjhjhaaafjaa
