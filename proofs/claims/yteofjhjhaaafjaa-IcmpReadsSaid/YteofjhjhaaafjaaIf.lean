/- Layer 13 (ipfour): reading heads: contracts. -/
import Derived.Test.YteofjhjhaaafjaaTq
namespace Go.Proofs.Yteofjhjhaaafjaa
open Go.RowKit
set_option linter.unusedSimpArgs false
set_option linter.unusedVariables false
set_option maxRecDepth 20000
set_option maxHeartbeats 4000000
attribute [local irreducible] WPc WPl WPq ReadR OpT BinR HasS bx rdN rowN Take Takes Prov Triple ResF BuildP Done ag Int.decLt Int.decLe Int.instDecidableEq

/-- A head. -/
structure Hd where
  six : Bool
  proto : UInt8
  pos : Int
  src : Adr
  dst : Adr
  part : Bool
  hops : UInt8
abbrev hdc (h : Hd) : Ch := [(1, [.bool h.six]), (1, [.int .u8 ((h.proto.toNat : Nat) : Int)]), (1, [.int .i64 h.pos]), (1, [.bool h.src.six]), (16, u8s h.src.b), (1, [.bool h.dst.six]), (16, u8s h.dst.b), (1, [.bool h.part]), (1, [.int .u8 ((h.hops.toNat : Nat) : Int)])]
def Hd.none : Hd := ⟨false, 0, 0, Adr.zero, Adr.zero, false, 0⟩
def byteN (b : List UInt8) (i : Nat) : Nat := (b.getD i 0).toNat
theorem byteN_lt (b : List UInt8) (i : Nat) : byteN b i < 256 := UInt8.toNat_lt _
def ihl (b : List UInt8) : Nat := 4 * (byteN b 0 % 16)
theorem ihl_lt (b : List UInt8) : ihl b ≤ 60 := by unfold ihl; omega
def ferr (b : List UInt8) : Int :=
  if 2048 < b.length then 10 else if b.length < 20 then 9 else if byteN b 0 / 16 ≠ 4 then 12 else if ihl b < 20 then 4 else if b.length < ihl b then 9
  else if val (seg b 2 2) < ihl b then 4 else if b.length < val (seg b 2 2) then 9 else if val (seg b 2 2) < b.length then 10 else if csum (seg b 0 (ihl b)) ≠ 0 then 5
  else if byteN b 8 = 0 ∨ 128 ≤ byteN b 6 then 4 else 0
def fhead (b : List UInt8) : Hd := ⟨false, b.getD 9 0, ihl b, ofA (seg b 12 4), ofA (seg b 16 4), decide (¬ val (seg b 6 2) % 16384 = 0), b.getD 8 0⟩
def fread (b : List UInt8) : Hd := if ferr b = 0 then fhead b else Hd.none
theorem val_seg2 {b : List UInt8} {i : Nat} (h : i + 2 ≤ b.length) : val (seg b i 2) = 256 * byteN b i + byteN b (i + 1) := by
  have e1 := seg_snoc (l := b) (k := i) (n := 1) (by omega)
  have e2 := seg_snoc (l := b) (k := i) (n := 0) (by omega)
  rw [e1, e2, val_snoc, val_snoc]
  simp [seg, val, byteN]; omega
theorem BinR.mulT {P : Program} {T : TypeId} {k : IntKind} {a b c : Int} (h : a * b = c) (h1 : kmin k ≤ c) (h2 : c ≤ kmax k) : BinR P .mul T (.int k a) (.int k b) (.int k c) := h ▸ BinR.mulK (h ▸ h1) (h ▸ h2)
theorem and_128 : ∀ (c : Fin 256), c.val &&& 128 = c.val / 128 * 128 := by decide +kernel
theorem BinR.and128 {P : Program} {T : TypeId} {c : UInt8} : BinR P .and T (.int .u8 ((c.toNat : Nat) : Int)) (.int .u8 128) (.int .u8 ((c.toNat / 128 * 128 : Nat) : Int)) := by
  have h1 := c.toNat_lt
  have := BinR.andN (P := P) (T := T) (k := .u8) (a := c.toNat) (b := 128) rfl (by exact h1) (by show _ < 2 ^ 8; omega)
  rwa [and_128 ⟨c.toNat, by simpa using h1⟩] at this
theorem fsize_t (v : Value) (b : List UInt8) (h : 4 ≤ b.length) (hl : b.length ≤ 1000000) : Triple Try.prog 106 #[v] [rb v b] (RVal (.int .i64 (val (seg b 2 2) : Nat))) := by
  have hv1 := val2_lt (l := b) (k := 2)
  refine Triple.enter Try.func106 rfl Try.ntmps106 rfl (fun W => ?_)
  dsimp only [argsF, Nat.reduceAdd]
  repeat' (first
   | refine WPl.nil ?_ | refine WPq.then ?_ | refine WPq.thenR ?_ | refine WPq.thenE ?_ | refine WPq.blockN ?_ | refine WPq.blockR ?_ | refine WPq.blockE ?_ | refine WPq.blockO rfl ?_ | refine WPc.seq ?_ | refine WPc.block ?_ | refine WPc.ret ?_ | refine WPc.exit ?_ | refine WPc.skip ?_ | refine WPc.region ?_
   | (refine isCond ?_; first | refine WPc.cT ?_ | refine WPc.cF ?_ | (refine WPc.cQ (fun hc => ?_) (fun hc => ?_) <;> try exact prA))
   | (refine isCl ?_; refine WPl.cV (get_t v b 2 2 (by omega) (by omega) (by omega) (by omega)) ?_)
   | (refine isOp ?_; first | refine WPl.rd ?_ | refine WPl.sk ?_ | refine WPl.rdB ?_)
   | (refine WPl.spQ (fun hc => ?_) (fun hc => ?_) <;> try exact prA)
   | fail)
  all_goals try (first | exact WPq.dV | exact WPq.dR | exact WPq.dR2 | exact WPq.dH | exact WPq.dBH | exact WPq.dT)
theorem long_t (v : Value) (b : List UInt8) (hl : b.length ≤ 1000000) : Triple Try.prog 76 #[v] [rb v b] (RVal (.int .i64 (ferr b))) := by
  have hb0 := byteN_lt b 0
  have hb6 := byteN_lt b 6
  have hb8 := byteN_lt b 8
  have hihl : (4 : Int) * (((b.getD 0 0).toNat : Nat) % (15 + 1)) = ((ihl b : Nat) : Int) := by unfold ihl byteN; omega
  have hih := ihl_lt b
  have hv1 := val2_lt (l := b) (k := 2)
  have u0 : byteN b 0 = (b.getD 0 0).toNat := rfl
  have u6 : byteN b 6 = (b.getD 6 0).toNat := rfl
  have u8 : byteN b 8 = (b.getD 8 0).toNat := rfl
  refine Triple.enter Try.func76 rfl Try.ntmps76 rfl (fun W => ?_)
  dsimp only [argsF, Nat.reduceAdd]
  repeat' (first
   | refine WPl.nil ?_ | refine WPq.then ?_ | refine WPq.thenR ?_ | refine WPq.thenE ?_ | refine WPq.blockN ?_ | refine WPq.blockR ?_ | refine WPq.blockE ?_ | refine WPq.blockO rfl ?_ | refine WPc.seq ?_ | refine WPc.block ?_ | refine WPc.ret ?_ | refine WPc.exit ?_ | refine WPc.skip ?_ | refine WPc.region ?_
   | (refine isCond ?_; first | refine WPc.cT ?_ | refine WPc.cF ?_ | (refine WPc.cQ (fun hc => ?_) (fun hc => ?_) <;> try exact prA))
   | (refine isCl ?_; refine WPl.cV (fsize_t v b (by omega) hl) ?_)
   | (refine isLit ?_; refine WPl.lits fun v hv => ?_)
   | (refine isCl ?_; refine WPl.cV (igood_t _ [_] [seg b 0 (ihl b)] (decide (csum (seg b 0 (ihl b)) = 0)) (by simp) rfl (by simp [seg_len]; omega) (by simp)) ?_)
   | (show WPl _ _ _ _ _ _ _ (⟨_, .binOp .mul _ _ _ _, _, _, _, _⟩ :: _) _; refine WPl.rdX (ReadR.bin rfl rfl (BinR.mulT hihl (by simp only [kmin]; omega) (by simp only [kmax]; omega))) ?_)
   | (show WPl _ _ _ _ _ _ _ (⟨_, .binOp _ _ _ _ _, _, _, _, _⟩ :: _) _; refine WPl.rdX (ReadR.bin rfl rfl BinR.and128) ?_)
   | (refine isOp ?_; first | refine WPl.rd ?_ | refine WPl.sk ?_ | refine WPl.rdB ?_)
   | (refine WPl.spQ (fun hc => ?_) (fun hc => ?_) <;> try exact prA)
   | fail)
  all_goals
    refine WPq.dV (hc := ?_)
    show Value.int .i64 _ = Value.int .i64 _
    congr 1
    unfold ferr
    repeat' (first | omega | split)
theorem ferr_zero {b : List UInt8} (h : ferr b = 0) : b.length ≤ 2048 ∧ 20 ≤ b.length ∧ byteN b 0 / 16 = 4 ∧ 20 ≤ ihl b ∧ ihl b ≤ b.length ∧ val (seg b 2 2) = b.length ∧ csum (seg b 0 (ihl b)) = 0 ∧ byteN b 8 ≠ 0 ∧ byteN b 6 < 128 := by
  unfold ferr at h
  repeat' (split at h)
  all_goals first | omega | (cases h; done) | skip
abbrev fVal (b : List UInt8) : Value := .tuple #[ag (hdc (fread b)), .int .i64 (ferr b)]
theorem fread_t (v : Value) (b : List UInt8) (hl : b.length ≤ 1000000) : Triple Try.prog 37 #[v] [rb v b] (RVal (fVal b)) := by
  have hlt := long_t v b hl
  by_cases he : ferr b = 0
  · rw [show fVal b = .tuple #[ag (hdc (fhead b)), .int .i64 0] by unfold fVal fread; rw [if_pos he, he]]
    rw [he] at hlt
    obtain ⟨h1, h2, h3, h4, h5, h6, h7, h8, h9⟩ := ferr_zero he
    have hb0 := byteN_lt b 0
    have hihl : (4 : Int) * (((b.getD 0 0).toNat : Nat) % (15 + 1)) = ((ihl b : Nat) : Int) := by unfold ihl byteN; omega
    have hih := ihl_lt b
    have hv6 := val2_lt (l := b) (k := 6)
    have hd : (!decide (((val (seg b 6 2) : Nat) : Int) % (16383 + 1) = 0)) = decide (¬ val (seg b 6 2) % 16384 = 0) := by
      rw [Bool.eq_iff_iff]; simp; omega
    have ha1 := (ofA (seg b 12 4)).len
    have ha2 := (ofA (seg b 16 4)).len
    have hc0 := (b.getD 0 0).toNat_lt
    refine Triple.enter Try.func37 rfl Try.ntmps37 rfl (fun W => ?_)
    dsimp only [argsF, Nat.reduceAdd]
    repeat' (first
     | refine WPl.nil ?_ | refine WPq.then ?_ | refine WPq.thenR ?_ | refine WPq.thenE ?_ | refine WPq.blockN ?_ | refine WPq.blockR ?_ | refine WPq.blockE ?_ | refine WPq.blockO rfl ?_ | refine WPc.seq ?_ | refine WPc.block ?_ | refine WPc.ret ?_ | refine WPc.exit ?_ | refine WPc.skip ?_ | refine WPc.region ?_
     | (refine isReg 7 ?_; refine WPc.drA [([20], [37, 38, 39, 40, 41, 42, 43, 44, 45, 46, 47, 48, 49, 50]), ([0, 20], [34, 37, 38, 39, 40, 41, 42, 43, 44, 45, 46, 47, 48, 49, 50]), ([0, 1, 20], [34, 35, 37, 38, 39, 40, 41, 42, 43, 44, 45, 46, 47, 48, 49, 50]), ([20], [34, 35, 36, 43, 44, 45, 46, 47, 48, 49, 50]), ([3, 20], [34, 35, 36, 37, 43, 44, 45, 46, 47, 48, 49, 50]), ([3, 4, 20], [34, 35, 36, 37, 38, 43, 44, 45, 46, 47, 48, 49, 50]), ([3, 4, 5, 20], [34, 35, 36, 37, 38, 39, 43, 44, 45, 46, 47, 48, 49, 50]), ([3, 4, 5, 6, 20], [34, 35, 36, 37, 38, 39, 40, 43, 44, 45, 46, 47, 48, 49, 50]), ([3, 4, 5, 6, 7, 20], [34, 35, 36, 37, 38, 39, 40, 41, 43, 44, 45, 46, 47, 48, 49, 50]), ([20], [34, 35, 36, 37, 38, 39, 40, 41, 42, 44, 45, 46, 47, 48, 49, 50]), ([20], [34, 35, 36, 37, 38, 39, 40, 41, 42, 43, 45, 46, 47, 48, 49, 50]), ([20], [34, 35, 36, 37, 38, 39, 40, 41, 42, 43, 44, 48, 49, 50]), ([11, 20], [34, 35, 36, 37, 38, 39, 40, 41, 42, 43, 44, 45, 48, 49, 50]), ([11, 12, 20], [34, 35, 36, 37, 38, 39, 40, 41, 42, 43, 44, 45, 46, 48, 49, 50]), ([20], [34, 35, 36, 37, 38, 39, 40, 41, 42, 43, 44, 45, 46, 47]), ([14, 20], [34, 35, 36, 37, 38, 39, 40, 41, 42, 43, 44, 45, 46, 47, 48]), ([14, 15, 20], [34, 35, 36, 37, 38, 39, 40, 41, 42, 43, 44, 45, 46, 47, 48, 49]), ([0, 1, 2, 3, 4, 5, 6, 7, 8, 9, 10, 11, 12, 13, 14, 15, 16, 20], [34, 35, 36, 37, 38, 39, 40, 41, 42, 43, 44, 45, 46, 47, 48, 49, 50]), ([0, 1, 2, 3, 4, 5, 6, 7, 8, 9, 10, 11, 12, 13, 14, 15, 16, 17, 20], [34, 35, 36, 37, 38, 39, 40, 41, 42, 43, 44, 45, 46, 47, 48, 49, 50, 51]), ([0, 1, 2, 3, 4, 5, 6, 7, 8, 9, 10, 11, 12, 13, 14, 15, 16, 17, 18, 20], [34, 35, 36, 37, 38, 39, 40, 41, 42, 43, 44, 45, 46, 47, 48, 49, 50, 51])] [(20, 18), (20, 0), (20, 1), (20, 2), (20, 3), (20, 4), (20, 5), (20, 6), (20, 7), (20, 8), (20, 9), (20, 10), (20, 11), (20, 12), (20, 13), (20, 14), (20, 15), (20, 16), (20, 17)] (Γx := [bx gr 48 (hdc Hd.none)]) ?_; dsimp only [prev0, List.length_nil, List.length_cons])
     | (refine gAny ?_; first | (refine gCl ?_; refine RGl.vl (fun e hk => OpT.callN (hlt)) ?_) | (refine gCl ?_; refine RGl.vl (fun e hk => OpT.callN (get_t v b 6 2 (by omega) (by omega) (by omega) (by omega))) ?_) | (refine gCl ?_; refine RGl.vl (fun e hk => OpT.callN (Of_t (subv 1 v 12 4) (seg b 12 4))) ?_) | (refine gCl ?_; refine RGl.vl (fun e hk => OpT.callN (Of_t (subv 1 v 16 4) (seg b 16 4))) ?_) | (show RGl _ _ _ _ _ _ _ _ (⟨_, .binOp .mul _ _ _ _, _, _, _, _⟩ :: _) _ _; refine RGl.rdX (fun e hk => by (try dsimp only [bndR, ensR, oksR, fcutR, List.append_nil, List.nil_append, List.cons_append, List.append_assoc] at hk ⊢); exact ReadR.bin rfl rfl (BinR.mulT hihl (by simp only [kmin]; omega) (by simp only [kmax]; omega))) ?_) | (show RGl _ _ _ _ _ _ _ _ (⟨_, .binOp .and _ _ _ _, _, _, _, _⟩ :: _) _ _; refine RGl.rdX (fun e hk => by (try dsimp only [bndR, ensR, oksR, fcutR, List.append_nil, List.nil_append, List.cons_append, List.append_assoc] at hk ⊢); exact ReadR.bin rfl rfl (BinR.andLow (n := 14) (m := 16383) rfl rfl rfl (by omega) (by simp only [kmax]; omega) (by simp only [kmax]; omega))) ?_) | (show RGl _ _ _ _ _ _ _ _ (⟨_, .binOp .neq _ _ _ _, _, _, _, _⟩ :: _) _ _; refine RGl.rdX (fun e hk => by (try dsimp only [bndR, ensR, oksR, fcutR, List.append_nil, List.nil_append, List.cons_append, List.append_assoc] at hk ⊢); exact ReadR.binE rfl rfl BinR.neq (congrArg Value.bool hd)) ?_) | (refine gOp ?_; first | refine RGl.rdA ?_ | refine RGl.rdX (fun e hk => by (try dsimp only [bndR, ensR, oksR, fcutR, List.append_nil, List.nil_append, List.cons_append, List.append_assoc] at hk ⊢); exact readB) ?_) | (refine gSt ?_; refine RGl.stA ?_) | (refine RGl.fin (fun e hk => ?_); (try dsimp only [bndA, ensAR, oksA, List.append_nil, List.nil_append, List.cons_append, List.append_assoc] at hk ⊢); (repeat (obtain ⟨hk1, hk⟩ := hk))) | fail)
     | (refine isCond ?_; first | refine WPc.cT ?_ | refine WPc.cF ?_ | (refine WPc.cQ (fun hc => ?_) (fun hc => ?_) <;> try exact prA))
     | (refine isD 2 ?_; first | (refine isAl ?_; refine WPl.nw fun gr => ?_) | (refine isBx ?_; refine WPl.nw fun gr => ?_))
     | (refine isCl ?_; refine WPl.cV (hlt) ?_)
     | (refine isCl ?_; refine WPl.cV (get_t v b 6 2 (by omega) (by omega) (by omega) (by omega)) ?_)
     | (refine isCl ?_; refine WPl.cV (Of_t (subv 1 v 12 4) (seg b 12 4)) ?_)
     | (refine isCl ?_; refine WPl.cV (Of_t (subv 1 v 16 4) (seg b 16 4)) ?_)
     | (show WPl _ _ _ _ _ _ _ (⟨_, .binOp .mul _ _ _ _, _, _, _, _⟩ :: _) _; refine WPl.rdX (ReadR.bin rfl rfl (BinR.mulT hihl (by simp only [kmin]; omega) (by simp only [kmax]; omega))) ?_)
     | (show WPl _ _ _ _ _ _ _ (⟨_, .binOp .and _ _ _ _, _, _, _, _⟩ :: _) _; refine WPl.rdX (ReadR.bin rfl rfl (BinR.andLow (n := 14) (m := 16383) rfl rfl rfl (by omega) (by simp only [kmax]; omega) (by simp only [kmax]; omega))) ?_)
     | (show WPl _ _ _ _ _ _ _ (⟨_, .binOp .neq _ _ _ _, _, _, _, _⟩ :: _) _; refine WPl.rdX (ReadR.binE rfl rfl BinR.neq (congrArg Value.bool hd)) ?_)
     | (refine isOp ?_; first | refine WPl.rd ?_ | refine WPl.sk ?_ | refine WPl.rdB ?_)
     | (refine isAl ?_; refine WPl.nw fun g => ?_)
     | (refine isSt ?_; first | refine WPl.st1 ?_ | refine WPl.stA ?_ | refine WPl.stEB ?_ | refine WPl.stRB ?_)
     | (refine WPl.spQ (fun hc => ?_) (fun hc => ?_) <;> try exact prA)
     | fail)
    all_goals try (first | exact WPq.dV | exact WPq.dR | exact WPq.dR2 | exact WPq.dH | exact WPq.dBH | exact WPq.dT)
  · rw [show fVal b = .tuple #[ag (hdc Hd.none), .int .i64 (ferr b)] by unfold fVal fread; rw [if_neg he]]
    refine Triple.enter Try.func37 rfl Try.ntmps37 rfl (fun W => ?_)
    dsimp only [argsF, Nat.reduceAdd]
    repeat' (first
     | refine WPl.nil ?_ | refine WPq.then ?_ | refine WPq.thenR ?_ | refine WPq.thenE ?_ | refine WPq.blockN ?_ | refine WPq.blockR ?_ | refine WPq.blockE ?_ | refine WPq.blockO rfl ?_ | refine WPc.seq ?_ | refine WPc.block ?_ | refine WPc.ret ?_ | refine WPc.exit ?_ | refine WPc.skip ?_ | refine WPc.region ?_
     | (refine isReg 7 ?_; refine WPc.drA [([], [37, 38, 39, 40, 41, 42, 43, 44, 45, 46, 47, 48, 49, 50]), ([0], [34, 37, 38, 39, 40, 41, 42, 43, 44, 45, 46, 47, 48, 49, 50]), ([0, 1], [34, 35, 37, 38, 39, 40, 41, 42, 43, 44, 45, 46, 47, 48, 49, 50]), ([], [34, 35, 36, 43, 44, 45, 46, 47, 48, 49, 50]), ([3], [34, 35, 36, 37, 43, 44, 45, 46, 47, 48, 49, 50]), ([3, 4], [34, 35, 36, 37, 38, 43, 44, 45, 46, 47, 48, 49, 50]), ([3, 4, 5], [34, 35, 36, 37, 38, 39, 43, 44, 45, 46, 47, 48, 49, 50]), ([3, 4, 5, 6], [34, 35, 36, 37, 38, 39, 40, 43, 44, 45, 46, 47, 48, 49, 50]), ([3, 4, 5, 6, 7], [34, 35, 36, 37, 38, 39, 40, 41, 43, 44, 45, 46, 47, 48, 49, 50]), ([], [34, 35, 36, 37, 38, 39, 40, 41, 42, 44, 45, 46, 47, 48, 49, 50]), ([], [34, 35, 36, 37, 38, 39, 40, 41, 42, 43, 45, 46, 47, 48, 49, 50]), ([], [34, 35, 36, 37, 38, 39, 40, 41, 42, 43, 44, 48, 49, 50]), ([11], [34, 35, 36, 37, 38, 39, 40, 41, 42, 43, 44, 45, 48, 49, 50]), ([11, 12], [34, 35, 36, 37, 38, 39, 40, 41, 42, 43, 44, 45, 46, 48, 49, 50]), ([], [34, 35, 36, 37, 38, 39, 40, 41, 42, 43, 44, 45, 46, 47]), ([14], [34, 35, 36, 37, 38, 39, 40, 41, 42, 43, 44, 45, 46, 47, 48]), ([14, 15], [34, 35, 36, 37, 38, 39, 40, 41, 42, 43, 44, 45, 46, 47, 48, 49]), ([0, 1, 2, 3, 4, 5, 6, 7, 8, 9, 10, 11, 12, 13, 14, 15, 16], [34, 35, 36, 37, 38, 39, 40, 41, 42, 43, 44, 45, 46, 47, 48, 49, 50]), ([0, 1, 2, 3, 4, 5, 6, 7, 8, 9, 10, 11, 12, 13, 14, 15, 16, 17], [34, 35, 36, 37, 38, 39, 40, 41, 42, 43, 44, 45, 46, 47, 48, 49, 50, 51]), ([0, 1, 2, 3, 4, 5, 6, 7, 8, 9, 10, 11, 12, 13, 14, 15, 16, 17, 18], [34, 35, 36, 37, 38, 39, 40, 41, 42, 43, 44, 45, 46, 47, 48, 49, 50, 51])] [] (Γx := []) ?_; dsimp only [prev0, List.length_nil, List.length_cons])
     | (refine gAny ?_; first | (refine gCl ?_; refine RGl.vl (fun e hk => OpT.callN (hlt)) ?_) | (refine gOp ?_; first | refine RGl.rdA ?_ | refine RGl.rdX (fun e hk => by (try dsimp only [bndR, ensR, oksR, fcutR, List.append_nil, List.nil_append, List.cons_append, List.append_assoc] at hk ⊢); exact readB) ?_) | (refine gSt ?_; refine RGl.stA ?_) | (refine RGl.fin (fun e hk => ?_); (try dsimp only [bndA, ensAR, oksA, List.append_nil, List.nil_append, List.cons_append, List.append_assoc] at hk ⊢); (repeat (obtain ⟨hk1, hk⟩ := hk))) | fail)
     | (refine isCond ?_; first | refine WPc.cT ?_ | refine WPc.cF ?_ | (refine WPc.cQ (fun hc => ?_) (fun hc => ?_) <;> try exact prA))
     | (refine isCl ?_; refine WPl.cV (hlt) ?_)
     | (refine isOp ?_; first | refine WPl.rd ?_ | refine WPl.sk ?_ | refine WPl.rdB ?_)
     | (refine isAl ?_; refine WPl.nw fun g => ?_)
     | (refine isSt ?_; first | refine WPl.st1 ?_ | refine WPl.stA ?_ | refine WPl.stEB ?_ | refine WPl.stRB ?_)
     | (refine WPl.spQ (fun hc => ?_) (fun hc => ?_) <;> try exact prA)
     | fail)
    all_goals try (first | exact WPq.dV | exact WPq.dR | exact WPq.dR2 | exact WPq.dH | exact WPq.dBH | exact WPq.dT)
end Go.Proofs.Yteofjhjhaaafjaa
