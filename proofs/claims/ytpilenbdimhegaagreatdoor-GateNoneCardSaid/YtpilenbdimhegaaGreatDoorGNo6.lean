/- What the row of gateNone_card_holds needs: part 6. -/
import Derived.Test.YtpilenbdimhegaaGreatDoorGNo5
/- Layer 13 (ipfour): reading heads: contracts. -/
namespace Go.Proofs.YtpilenbdimhegaaGreatDoor
open Go.RowKit
set_option linter.unusedSimpArgs false
set_option linter.unusedVariables false
set_option maxRecDepth 20000
set_option maxHeartbeats 4000000
attribute [local irreducible] WPc WPl WPq ReadR OpT BinR HasS bx rdN rowN Take Takes Prov Triple ResF BuildP Done ag Int.decLt Int.decLe Int.instDecidableEq

/-- A head. -/
structure Hd where
  six : Bool
  proto : UInt8
  pos : Int
  src : Adr
  dst : Adr
  part : Bool
  hops : UInt8
abbrev hdc (h : Hd) : Ch := [(1, [.bool h.six]), (1, [.int .u8 ((h.proto.toNat : Nat) : Int)]), (1, [.int .i64 h.pos]), (1, [.bool h.src.six]), (16, u8s h.src.b), (1, [.bool h.dst.six]), (16, u8s h.dst.b), (1, [.bool h.part]), (1, [.int .u8 ((h.hops.toNat : Nat) : Int)])]
def Hd.none : Hd := ⟨false, 0, 0, Adr.zero, Adr.zero, false, 0⟩
def byteN (b : List UInt8) (i : Nat) : Nat := (b.getD i 0).toNat
theorem byteN_lt (b : List UInt8) (i : Nat) : byteN b i < 256 := UInt8.toNat_lt _
def ihl (b : List UInt8) : Nat := 4 * (byteN b 0 % 16)
theorem ihl_lt (b : List UInt8) : ihl b ≤ 60 := by unfold ihl; omega
def ferr (b : List UInt8) : Int :=
  if 2048 < b.length then 10 else if b.length < 20 then 9 else if byteN b 0 / 16 ≠ 4 then 12 else if ihl b < 20 then 4 else if b.length < ihl b then 9
  else if val (seg b 2 2) < ihl b then 4 else if b.length < val (seg b 2 2) then 9 else if val (seg b 2 2) < b.length then 10 else if csum (seg b 0 (ihl b)) ≠ 0 then 5
  else if byteN b 8 = 0 ∨ 128 ≤ byteN b 6 then 4 else 0
def fhead (b : List UInt8) : Hd := ⟨false, b.getD 9 0, ihl b, ofA (seg b 12 4), ofA (seg b 16 4), decide (¬ val (seg b 6 2) % 16384 = 0), b.getD 8 0⟩
def fread (b : List UInt8) : Hd := if ferr b = 0 then fhead b else Hd.none
theorem val_seg2 {b : List UInt8} {i : Nat} (h : i + 2 ≤ b.length) : val (seg b i 2) = 256 * byteN b i + byteN b (i + 1) := by
  have e1 := seg_snoc (l := b) (k := i) (n := 1) (by omega)
  have e2 := seg_snoc (l := b) (k := i) (n := 0) (by omega)
  rw [e1, e2, val_snoc, val_snoc]
  simp [seg, val, byteN]; omega
theorem BinR.mulT {P : Program} {T : TypeId} {k : IntKind} {a b c : Int} (h : a * b = c) (h1 : kmin k ≤ c) (h2 : c ≤ kmax k) : BinR P .mul T (.int k a) (.int k b) (.int k c) := h ▸ BinR.mulK (h ▸ h1) (h ▸ h2)
theorem and_128 : ∀ (c : Fin 256), c.val &&& 128 = c.val / 128 * 128 := by decide +kernel
theorem BinR.and128 {P : Program} {T : TypeId} {c : UInt8} : BinR P .and T (.int .u8 ((c.toNat : Nat) : Int)) (.int .u8 128) (.int .u8 ((c.toNat / 128 * 128 : Nat) : Int)) := by
  have h1 := c.toNat_lt
  have := BinR.andN (P := P) (T := T) (k := .u8) (a := c.toNat) (b := 128) rfl (by exact h1) (by show _ < 2 ^ 8; omega)
  rwa [and_128 ⟨c.toNat, by simpa using h1⟩] at this
theorem fsize_t (v : Value) (b : List UInt8) (h : 4 ≤ b.length) (hl : b.length ≤ 1000000) : Triple Tryz.prog 157 #[v] [rb v b] (RVal (.int .i64 (val (seg b 2 2) : Nat))) := by
  have hv1 := val2_lt (l := b) (k := 2)
  refine Triple.enter Tryz.func157 rfl Tryz.ntmps157 rfl (fun W => ?_)
  dsimp only [argsF, Nat.reduceAdd]
  repeat' (first
   | refine WPl.nil ?_ | refine WPq.then ?_ | refine WPq.thenR ?_ | refine WPq.thenE ?_ | refine WPq.blockN ?_ | refine WPq.blockR ?_ | refine WPq.blockE ?_ | refine WPq.blockO rfl ?_ | refine WPc.seq ?_ | refine WPc.block ?_ | refine WPc.ret ?_ | refine WPc.exit ?_ | refine WPc.skip ?_ | refine WPc.region ?_
   | (refine isCond ?_; first | refine WPc.cT ?_ | refine WPc.cF ?_ | (refine WPc.cQ (fun hc => ?_) (fun hc => ?_) <;> try exact prA))
   | (refine isCl ?_; refine WPl.cV (get_t v b 2 2 (by omega) (by omega) (by omega) (by omega)) ?_)
   | (refine isOp ?_; first | refine WPl.rd ?_ | refine WPl.sk ?_ | refine WPl.rdB ?_)
   | (show WPl _ _ _ _ _ _ _ (⟨_, .indexAddr _ _ _, _, _, _, _⟩ :: _) _; refine WPl.rdX (ReadR.indexE rfl rfl hasA (by first | assumption | omega)) ?_)
   | (show WPl _ _ _ _ _ _ _ (⟨_, .fieldAddr _ _ _, _, _, _, _⟩ :: _) _; refine WPl.rdX (ReadR.fieldE rfl hasA (by first | assumption | omega)) ?_)
   | (show WPl _ _ _ _ _ _ _ (⟨_, .load _ _, _, _, _, _⟩ :: _) _; first | refine WPl.rdX (ReadR.loadE rfl hasA (by assumption)) ?_ | refine WPl.rdX (ReadR.loadES (by assumption) (by first | assumption | omega) rfl hasA) ?_)
   | (show WPl _ _ _ _ _ _ _ (⟨_, .slice _ _ _ _ _, _, _, _, _⟩ :: _) _; first | refine WPl.rdX (ReadR.sliceH rfl rfl hasA (by omega)) ?_ | refine WPl.rdX (ReadR.sliceL rfl rfl hasA (by omega)) ?_ | refine WPl.rdX (ReadR.sliceLH rfl rfl rfl hasA (by omega) (by omega)) ?_)
   | (refine WPl.spQ (fun hc => ?_) (fun hc => ?_) <;> try exact prA)
   | fail)
  all_goals try (first | exact WPq.dTp | exact WPq.dTs | exact WPq.dV | exact WPq.dR | exact WPq.dR2 | exact WPq.dH | exact WPq.dBH | exact WPq.dT)
theorem long_t (v : Value) (b : List UInt8) (hl : b.length ≤ 1000000) : Triple Tryz.prog 130 #[v] [rb v b] (RVal (.int .i64 (ferr b))) := by
  have hb0 := byteN_lt b 0
  have hb6 := byteN_lt b 6
  have hb8 := byteN_lt b 8
  have hihl : (4 : Int) * (((b.getD 0 0).toNat : Nat) % (15 + 1)) = ((ihl b : Nat) : Int) := by unfold ihl byteN; omega
  have hih := ihl_lt b
  have hv1 := val2_lt (l := b) (k := 2)
  have u0 : byteN b 0 = (b.getD 0 0).toNat := rfl
  have u6 : byteN b 6 = (b.getD 6 0).toNat := rfl
  have u8 : byteN b 8 = (b.getD 8 0).toNat := rfl
  refine Triple.enter Tryz.func130 rfl Tryz.ntmps130 rfl (fun W => ?_)
  dsimp only [argsF, Nat.reduceAdd]
  repeat' (first
   | refine WPl.nil ?_ | refine WPq.then ?_ | refine WPq.thenR ?_ | refine WPq.thenE ?_ | refine WPq.blockN ?_ | refine WPq.blockR ?_ | refine WPq.blockE ?_ | refine WPq.blockO rfl ?_ | refine WPc.seq ?_ | refine WPc.block ?_ | refine WPc.ret ?_ | refine WPc.exit ?_ | refine WPc.skip ?_ | refine WPc.region ?_
   | (refine isCond ?_; first | refine WPc.cT ?_ | refine WPc.cF ?_ | (refine WPc.cQ (fun hc => ?_) (fun hc => ?_) <;> try exact prA))
   | (refine isCl ?_; refine WPl.cV (fsize_t v b (by omega) hl) ?_)
   | (refine isLit ?_; refine WPl.lits fun v hv => ?_)
   | (refine isCl ?_; refine WPl.cV (igood_t _ [_] [seg b 0 (ihl b)] (decide (csum (seg b 0 (ihl b)) = 0)) (by simp) rfl (by simp [seg_len]; omega) (by simp)) ?_)
   | (show WPl _ _ _ _ _ _ _ (⟨_, .binOp .mul _ _ _ _, _, _, _, _⟩ :: _) _; refine WPl.rdX (ReadR.bin rfl rfl (BinR.mulT hihl (by simp only [kmin]; omega) (by simp only [kmax]; omega))) ?_)
   | (show WPl _ _ _ _ _ _ _ (⟨_, .binOp _ _ _ _ _, _, _, _, _⟩ :: _) _; refine WPl.rdX (ReadR.bin rfl rfl BinR.and128) ?_)
   | (refine isOp ?_; first | refine WPl.rd ?_ | refine WPl.sk ?_ | refine WPl.rdB ?_)
   | (show WPl _ _ _ _ _ _ _ (⟨_, .indexAddr _ _ _, _, _, _, _⟩ :: _) _; refine WPl.rdX (ReadR.indexE rfl rfl hasA (by first | assumption | omega)) ?_)
   | (show WPl _ _ _ _ _ _ _ (⟨_, .fieldAddr _ _ _, _, _, _, _⟩ :: _) _; refine WPl.rdX (ReadR.fieldE rfl hasA (by first | assumption | omega)) ?_)
   | (show WPl _ _ _ _ _ _ _ (⟨_, .load _ _, _, _, _, _⟩ :: _) _; first | refine WPl.rdX (ReadR.loadE rfl hasA (by assumption)) ?_ | refine WPl.rdX (ReadR.loadES (by assumption) (by first | assumption | omega) rfl hasA) ?_)
   | (show WPl _ _ _ _ _ _ _ (⟨_, .slice _ _ _ _ _, _, _, _, _⟩ :: _) _; first | refine WPl.rdX (ReadR.sliceH rfl rfl hasA (by omega)) ?_ | refine WPl.rdX (ReadR.sliceL rfl rfl hasA (by omega)) ?_ | refine WPl.rdX (ReadR.sliceLH rfl rfl rfl hasA (by omega) (by omega)) ?_)
   | (refine WPl.spQ (fun hc => ?_) (fun hc => ?_) <;> try exact prA)
   | fail)
  all_goals
    refine WPq.dV (hc := ?_)
    show Value.int .i64 _ = Value.int .i64 _
    congr 1
    unfold ferr
    repeat' (first | omega | split)
theorem ferr_zero {b : List UInt8} (h : ferr b = 0) : b.length ≤ 2048 ∧ 20 ≤ b.length ∧ byteN b 0 / 16 = 4 ∧ 20 ≤ ihl b ∧ ihl b ≤ b.length ∧ val (seg b 2 2) = b.length ∧ csum (seg b 0 (ihl b)) = 0 ∧ byteN b 8 ≠ 0 ∧ byteN b 6 < 128 := by
  unfold ferr at h
  repeat' (split at h)
  all_goals first | omega | (cases h; done) | skip
abbrev fVal (b : List UInt8) : Value := .tuple #[ag (hdc (fread b)), .int .i64 (ferr b)]
theorem fread_t (v : Value) (b : List UInt8) (hl : b.length ≤ 1000000) : Triple Tryz.prog 100 #[v] [rb v b] (RVal (fVal b)) := by
  have hlt := long_t v b hl
  by_cases he : ferr b = 0
  · rw [show fVal b = .tuple #[ag (hdc (fhead b)), .int .i64 0] by unfold fVal fread; rw [if_pos he, he]]
    rw [he] at hlt
    obtain ⟨h1, h2, h3, h4, h5, h6, h7, h8, h9⟩ := ferr_zero he
    have hb0 := byteN_lt b 0
    have hihl : (4 : Int) * (((b.getD 0 0).toNat : Nat) % (15 + 1)) = ((ihl b : Nat) : Int) := by unfold ihl byteN; omega
    have hih := ihl_lt b
    have hv6 := val2_lt (l := b) (k := 6)
    have hd : (!decide (((val (seg b 6 2) : Nat) : Int) % (16383 + 1) = 0)) = decide (¬ val (seg b 6 2) % 16384 = 0) := by
      rw [Bool.eq_iff_iff]; simp; omega
    have ha1 := (ofA (seg b 12 4)).len
    have ha2 := (ofA (seg b 16 4)).len
    have hc0 := (b.getD 0 0).toNat_lt
    refine Triple.enter Tryz.func100 rfl Tryz.ntmps100 rfl (fun W => ?_)
    dsimp only [argsF, Nat.reduceAdd]
    repeat' (first
     | refine WPl.nil ?_ | refine WPq.then ?_ | refine WPq.thenR ?_ | refine WPq.thenE ?_ | refine WPq.blockN ?_ | refine WPq.blockR ?_ | refine WPq.blockE ?_ | refine WPq.blockO rfl ?_ | refine WPc.seq ?_ | refine WPc.block ?_ | refine WPc.ret ?_ | refine WPc.exit ?_ | refine WPc.skip ?_ | refine WPc.region ?_
     | (refine isReg 7 ?_; refine WPc.drA [([20], [37, 38, 39, 40, 41, 42, 43, 44, 45, 46, 47, 48, 49, 50]), ([0, 20], [34, 37, 38, 39, 40, 41, 42, 43, 44, 45, 46, 47, 48, 49, 50]), ([0, 1, 20], [34, 35, 37, 38, 39, 40, 41, 42, 43, 44, 45, 46, 47, 48, 49, 50]), ([20], [34, 35, 36, 43, 44, 45, 46, 47, 48, 49, 50]), ([3, 20], [34, 35, 36, 37, 43, 44, 45, 46, 47, 48, 49, 50]), ([3, 4, 20], [34, 35, 36, 37, 38, 43, 44, 45, 46, 47, 48, 49, 50]), ([3, 4, 5, 20], [34, 35, 36, 37, 38, 39, 43, 44, 45, 46, 47, 48, 49, 50]), ([3, 4, 5, 6, 20], [34, 35, 36, 37, 38, 39, 40, 43, 44, 45, 46, 47, 48, 49, 50]), ([3, 4, 5, 6, 7, 20], [34, 35, 36, 37, 38, 39, 40, 41, 43, 44, 45, 46, 47, 48, 49, 50]), ([20], [34, 35, 36, 37, 38, 39, 40, 41, 42, 44, 45, 46, 47, 48, 49, 50]), ([20], [34, 35, 36, 37, 38, 39, 40, 41, 42, 43, 45, 46, 47, 48, 49, 50]), ([20], [34, 35, 36, 37, 38, 39, 40, 41, 42, 43, 44, 48, 49, 50]), ([11, 20], [34, 35, 36, 37, 38, 39, 40, 41, 42, 43, 44, 45, 48, 49, 50]), ([11, 12, 20], [34, 35, 36, 37, 38, 39, 40, 41, 42, 43, 44, 45, 46, 48, 49, 50]), ([20], [34, 35, 36, 37, 38, 39, 40, 41, 42, 43, 44, 45, 46, 47]), ([14, 20], [34, 35, 36, 37, 38, 39, 40, 41, 42, 43, 44, 45, 46, 47, 48]), ([14, 15, 20], [34, 35, 36, 37, 38, 39, 40, 41, 42, 43, 44, 45, 46, 47, 48, 49]), ([0, 1, 2, 3, 4, 5, 6, 7, 8, 9, 10, 11, 12, 13, 14, 15, 16, 20], [34, 35, 36, 37, 38, 39, 40, 41, 42, 43, 44, 45, 46, 47, 48, 49, 50]), ([0, 1, 2, 3, 4, 5, 6, 7, 8, 9, 10, 11, 12, 13, 14, 15, 16, 17, 20], [34, 35, 36, 37, 38, 39, 40, 41, 42, 43, 44, 45, 46, 47, 48, 49, 50, 51]), ([0, 1, 2, 3, 4, 5, 6, 7, 8, 9, 10, 11, 12, 13, 14, 15, 16, 17, 18, 20], [34, 35, 36, 37, 38, 39, 40, 41, 42, 43, 44, 45, 46, 47, 48, 49, 50, 51])] [(20, 18), (20, 0), (20, 1), (20, 2), (20, 3), (20, 4), (20, 5), (20, 6), (20, 7), (20, 8), (20, 9), (20, 10), (20, 11), (20, 12), (20, 13), (20, 14), (20, 15), (20, 16), (20, 17)] (Γx := [bx gr 47 (hdc Hd.none)]) ?_; dsimp only [prev0, List.length_nil, List.length_cons])
     | (refine gAny ?_; first | (refine gCl ?_; refine RGl.vl (fun e hk => OpT.callN (hlt)) ?_) | (refine gCl ?_; refine RGl.vl (fun e hk => OpT.callN (get_t v b 6 2 (by omega) (by omega) (by omega) (by omega))) ?_) | (refine gCl ?_; refine RGl.vl (fun e hk => OpT.callN (Of_t (subv 1 v 12 4) (seg b 12 4))) ?_) | (refine gCl ?_; refine RGl.vl (fun e hk => OpT.callN (Of_t (subv 1 v 16 4) (seg b 16 4))) ?_) | (show RGl _ _ _ _ _ _ _ _ (⟨_, .binOp .mul _ _ _ _, _, _, _, _⟩ :: _) _ _; refine RGl.rdX (fun e hk => by (try dsimp only [bndR, ensR, oksR, fcutR, List.append_nil, List.nil_append, List.cons_append, List.append_assoc] at hk ⊢); exact ReadR.bin rfl rfl (BinR.mulT hihl (by simp only [kmin]; omega) (by simp only [kmax]; omega))) ?_) | (show RGl _ _ _ _ _ _ _ _ (⟨_, .binOp .and _ _ _ _, _, _, _, _⟩ :: _) _ _; refine RGl.rdX (fun e hk => by (try dsimp only [bndR, ensR, oksR, fcutR, List.append_nil, List.nil_append, List.cons_append, List.append_assoc] at hk ⊢); exact ReadR.bin rfl rfl (BinR.andLow (n := 14) (m := 16383) rfl rfl rfl (by omega) (by simp only [kmax]; omega) (by simp only [kmax]; omega))) ?_) | (show RGl _ _ _ _ _ _ _ _ (⟨_, .binOp .neq _ _ _ _, _, _, _, _⟩ :: _) _ _; refine RGl.rdX (fun e hk => by (try dsimp only [bndR, ensR, oksR, fcutR, List.append_nil, List.nil_append, List.cons_append, List.append_assoc] at hk ⊢); exact ReadR.binE rfl rfl BinR.neq (congrArg Value.bool hd)) ?_) | (refine gOp ?_; first | refine RGl.rdA ?_ | refine RGl.rdX (fun e hk => by (try dsimp only [bndR, ensR, oksR, fcutR, List.append_nil, List.nil_append, List.cons_append, List.append_assoc] at hk ⊢); exact readB) ?_) | (refine gSt ?_; refine RGl.stA ?_) | (refine RGl.fin (fun e hk => ?_); (try dsimp only [bndA, ensAR, oksA, List.append_nil, List.nil_append, List.cons_append, List.append_assoc] at hk ⊢); (repeat (obtain ⟨hk1, hk⟩ := hk))) | fail)
     | (refine isCond ?_; first | refine WPc.cT ?_ | refine WPc.cF ?_ | (refine WPc.cQ (fun hc => ?_) (fun hc => ?_) <;> try exact prA))
     | (refine isD 2 ?_; first | (refine isAl ?_; refine WPl.nw fun gr => ?_) | (refine isBx ?_; refine WPl.nw fun gr => ?_))
     | (refine isCl ?_; refine WPl.cV (hlt) ?_)
     | (refine isCl ?_; refine WPl.cV (get_t v b 6 2 (by omega) (by omega) (by omega) (by omega)) ?_)
     | (refine isCl ?_; refine WPl.cV (Of_t (subv 1 v 12 4) (seg b 12 4)) ?_)
     | (refine isCl ?_; refine WPl.cV (Of_t (subv 1 v 16 4) (seg b 16 4)) ?_)
     | (show WPl _ _ _ _ _ _ _ (⟨_, .binOp .mul _ _ _ _, _, _, _, _⟩ :: _) _; refine WPl.rdX (ReadR.bin rfl rfl (BinR.mulT hihl (by simp only [kmin]; omega) (by simp only [kmax]; omega))) ?_)
     | (show WPl _ _ _ _ _ _ _ (⟨_, .binOp .and _ _ _ _, _, _, _, _⟩ :: _) _; refine WPl.rdX (ReadR.bin rfl rfl (BinR.andLow (n := 14) (m := 16383) rfl rfl rfl (by omega) (by simp only [kmax]; omega) (by simp only [kmax]; omega))) ?_)
     | (show WPl _ _ _ _ _ _ _ (⟨_, .binOp .neq _ _ _ _, _, _, _, _⟩ :: _) _; refine WPl.rdX (ReadR.binE rfl rfl BinR.neq (congrArg Value.bool hd)) ?_)
     | (refine isOp ?_; first | refine WPl.rd ?_ | refine WPl.sk ?_ | refine WPl.rdB ?_)
     | (refine isAl ?_; refine WPl.nw fun g => ?_)
     | (refine isSt ?_; first | refine WPl.st1 ?_ | refine WPl.stA ?_ | refine WPl.stEB ?_ | refine WPl.stRB ?_)
     | (show WPl _ _ _ _ _ _ _ (⟨_, .indexAddr _ _ _, _, _, _, _⟩ :: _) _; refine WPl.rdX (ReadR.indexE rfl rfl hasA (by first | assumption | omega)) ?_)
     | (show WPl _ _ _ _ _ _ _ (⟨_, .fieldAddr _ _ _, _, _, _, _⟩ :: _) _; refine WPl.rdX (ReadR.fieldE rfl hasA (by first | assumption | omega)) ?_)
     | (show WPl _ _ _ _ _ _ _ (⟨_, .load _ _, _, _, _, _⟩ :: _) _; first | refine WPl.rdX (ReadR.loadE rfl hasA (by assumption)) ?_ | refine WPl.rdX (ReadR.loadES (by assumption) (by first | assumption | omega) rfl hasA) ?_)
     | (show WPl _ _ _ _ _ _ _ (⟨_, .slice _ _ _ _ _, _, _, _, _⟩ :: _) _; first | refine WPl.rdX (ReadR.sliceH rfl rfl hasA (by omega)) ?_ | refine WPl.rdX (ReadR.sliceL rfl rfl hasA (by omega)) ?_ | refine WPl.rdX (ReadR.sliceLH rfl rfl rfl hasA (by omega) (by omega)) ?_)
     | (refine WPl.spQ (fun hc => ?_) (fun hc => ?_) <;> try exact prA)
     | fail)
    all_goals try (first | exact WPq.dTp | exact WPq.dTs | exact WPq.dV | exact WPq.dR | exact WPq.dR2 | exact WPq.dH | exact WPq.dBH | exact WPq.dT)
  · rw [show fVal b = .tuple #[ag (hdc Hd.none), .int .i64 (ferr b)] by unfold fVal fread; rw [if_neg he]]
    refine Triple.enter Tryz.func100 rfl Tryz.ntmps100 rfl (fun W => ?_)
    dsimp only [argsF, Nat.reduceAdd]
    repeat' (first
     | refine WPl.nil ?_ | refine WPq.then ?_ | refine WPq.thenR ?_ | refine WPq.thenE ?_ | refine WPq.blockN ?_ | refine WPq.blockR ?_ | refine WPq.blockE ?_ | refine WPq.blockO rfl ?_ | refine WPc.seq ?_ | refine WPc.block ?_ | refine WPc.ret ?_ | refine WPc.exit ?_ | refine WPc.skip ?_ | refine WPc.region ?_
     | (refine isReg 7 ?_; refine WPc.drA [([], [37, 38, 39, 40, 41, 42, 43, 44, 45, 46, 47, 48, 49, 50]), ([0], [34, 37, 38, 39, 40, 41, 42, 43, 44, 45, 46, 47, 48, 49, 50]), ([0, 1], [34, 35, 37, 38, 39, 40, 41, 42, 43, 44, 45, 46, 47, 48, 49, 50]), ([], [34, 35, 36, 43, 44, 45, 46, 47, 48, 49, 50]), ([3], [34, 35, 36, 37, 43, 44, 45, 46, 47, 48, 49, 50]), ([3, 4], [34, 35, 36, 37, 38, 43, 44, 45, 46, 47, 48, 49, 50]), ([3, 4, 5], [34, 35, 36, 37, 38, 39, 43, 44, 45, 46, 47, 48, 49, 50]), ([3, 4, 5, 6], [34, 35, 36, 37, 38, 39, 40, 43, 44, 45, 46, 47, 48, 49, 50]), ([3, 4, 5, 6, 7], [34, 35, 36, 37, 38, 39, 40, 41, 43, 44, 45, 46, 47, 48, 49, 50]), ([], [34, 35, 36, 37, 38, 39, 40, 41, 42, 44, 45, 46, 47, 48, 49, 50]), ([], [34, 35, 36, 37, 38, 39, 40, 41, 42, 43, 45, 46, 47, 48, 49, 50]), ([], [34, 35, 36, 37, 38, 39, 40, 41, 42, 43, 44, 48, 49, 50]), ([11], [34, 35, 36, 37, 38, 39, 40, 41, 42, 43, 44, 45, 48, 49, 50]), ([11, 12], [34, 35, 36, 37, 38, 39, 40, 41, 42, 43, 44, 45, 46, 48, 49, 50]), ([], [34, 35, 36, 37, 38, 39, 40, 41, 42, 43, 44, 45, 46, 47]), ([14], [34, 35, 36, 37, 38, 39, 40, 41, 42, 43, 44, 45, 46, 47, 48]), ([14, 15], [34, 35, 36, 37, 38, 39, 40, 41, 42, 43, 44, 45, 46, 47, 48, 49]), ([0, 1, 2, 3, 4, 5, 6, 7, 8, 9, 10, 11, 12, 13, 14, 15, 16], [34, 35, 36, 37, 38, 39, 40, 41, 42, 43, 44, 45, 46, 47, 48, 49, 50]), ([0, 1, 2, 3, 4, 5, 6, 7, 8, 9, 10, 11, 12, 13, 14, 15, 16, 17], [34, 35, 36, 37, 38, 39, 40, 41, 42, 43, 44, 45, 46, 47, 48, 49, 50, 51]), ([0, 1, 2, 3, 4, 5, 6, 7, 8, 9, 10, 11, 12, 13, 14, 15, 16, 17, 18], [34, 35, 36, 37, 38, 39, 40, 41, 42, 43, 44, 45, 46, 47, 48, 49, 50, 51])] [] (Γx := []) ?_; dsimp only [prev0, List.length_nil, List.length_cons])
     | (refine gAny ?_; first | (refine gCl ?_; refine RGl.vl (fun e hk => OpT.callN (hlt)) ?_) | (refine gOp ?_; first | refine RGl.rdA ?_ | refine RGl.rdX (fun e hk => by (try dsimp only [bndR, ensR, oksR, fcutR, List.append_nil, List.nil_append, List.cons_append, List.append_assoc] at hk ⊢); exact readB) ?_) | (refine gSt ?_; refine RGl.stA ?_) | (refine RGl.fin (fun e hk => ?_); (try dsimp only [bndA, ensAR, oksA, List.append_nil, List.nil_append, List.cons_append, List.append_assoc] at hk ⊢); (repeat (obtain ⟨hk1, hk⟩ := hk))) | fail)
     | (refine isCond ?_; first | refine WPc.cT ?_ | refine WPc.cF ?_ | (refine WPc.cQ (fun hc => ?_) (fun hc => ?_) <;> try exact prA))
     | (refine isCl ?_; refine WPl.cV (hlt) ?_)
     | (refine isOp ?_; first | refine WPl.rd ?_ | refine WPl.sk ?_ | refine WPl.rdB ?_)
     | (refine isAl ?_; refine WPl.nw fun g => ?_)
     | (refine isSt ?_; first | refine WPl.st1 ?_ | refine WPl.stA ?_ | refine WPl.stEB ?_ | refine WPl.stRB ?_)
     | (show WPl _ _ _ _ _ _ _ (⟨_, .indexAddr _ _ _, _, _, _, _⟩ :: _) _; refine WPl.rdX (ReadR.indexE rfl rfl hasA (by first | assumption | omega)) ?_)
     | (show WPl _ _ _ _ _ _ _ (⟨_, .fieldAddr _ _ _, _, _, _, _⟩ :: _) _; refine WPl.rdX (ReadR.fieldE rfl hasA (by first | assumption | omega)) ?_)
     | (show WPl _ _ _ _ _ _ _ (⟨_, .load _ _, _, _, _, _⟩ :: _) _; first | refine WPl.rdX (ReadR.loadE rfl hasA (by assumption)) ?_ | refine WPl.rdX (ReadR.loadES (by assumption) (by first | assumption | omega) rfl hasA) ?_)
     | (show WPl _ _ _ _ _ _ _ (⟨_, .slice _ _ _ _ _, _, _, _, _⟩ :: _) _; first | refine WPl.rdX (ReadR.sliceH rfl rfl hasA (by omega)) ?_ | refine WPl.rdX (ReadR.sliceL rfl rfl hasA (by omega)) ?_ | refine WPl.rdX (ReadR.sliceLH rfl rfl rfl hasA (by omega) (by omega)) ?_)
     | (refine WPl.spQ (fun hc => ?_) (fun hc => ?_) <;> try exact prA)
     | fail)
    all_goals try (first | exact WPq.dTp | exact WPq.dTs | exact WPq.dV | exact WPq.dR | exact WPq.dR2 | exact WPq.dH | exact WPq.dBH | exact WPq.dT)
end Go.Proofs.YtpilenbdimhegaaGreatDoor
/- Reference of layer 13 (ipfour): reading heads: contracts. -/
namespace Go.Proofs.YtpilenbdimhegaaGreatDoor
open Go.RowKit
set_option linter.unusedSimpArgs false
set_option linter.unusedVariables false
set_option maxRecDepth 20000
set_option maxHeartbeats 4000000
attribute [local irreducible] WPc WPl WPq ReadR OpT BinR HasS bx rdN rowN Take Takes Prov Triple ResF BuildP Done ag Int.decLt Int.decLe Int.instDecidableEq

theorem r13of_t (v : Value) (l : List UInt8) (h : l.length = 4) : Triple Tryz.prog 73 #[v] [rb v l] (RVal (ag (adc (ofA l)))) := by
  rw [show ofA l = Adr.of4 l h by simp [ofA, h]]
  refine Triple.enter Tryz.func73 rfl Tryz.ntmps73 rfl (fun W => ?_)
  dsimp only [argsF, Nat.reduceAdd]
  repeat' (first
   | refine WPl.nil ?_ | refine WPq.then ?_ | refine WPq.thenR ?_ | refine WPq.thenE ?_ | refine WPq.blockN ?_ | refine WPq.blockR ?_ | refine WPq.blockE ?_ | refine WPq.blockO rfl ?_ | refine WPc.seq ?_ | refine WPc.block ?_ | refine WPc.ret ?_ | refine WPc.exit ?_ | refine WPc.skip ?_ | refine WPc.region ?_
   | (refine isCond ?_; first | refine WPc.cT ?_ | refine WPc.cF ?_)
   | (refine isD 3 ?_; first | (refine isAl ?_; refine WPl.nw fun g => ?_) | (refine isBx ?_; refine WPl.nw fun g => ?_))
   | (refine isD 2 ?_; first | (refine isAl ?_; refine WPl.nw fun gr => ?_) | (refine isBx ?_; refine WPl.nw fun gr => ?_))
   | (refine isOp ?_; first | refine WPl.rd ?_ | refine WPl.sk ?_ | refine WPl.rdB ?_)
   | (refine isAl ?_; refine WPl.nw fun g => ?_)
   | (refine isSt ?_; first | refine WPl.st1 ?_ | refine WPl.stA ?_ | refine WPl.stEB ?_ | refine WPl.stRB ?_)
   | (show WPl _ _ _ _ _ _ _ (⟨_, .indexAddr _ _ _, _, _, _, _⟩ :: _) _; refine WPl.rdX (ReadR.indexE rfl rfl hasA (by first | assumption | omega)) ?_)
   | (show WPl _ _ _ _ _ _ _ (⟨_, .fieldAddr _ _ _, _, _, _, _⟩ :: _) _; refine WPl.rdX (ReadR.fieldE rfl hasA (by first | assumption | omega)) ?_)
   | (show WPl _ _ _ _ _ _ _ (⟨_, .load _ _, _, _, _, _⟩ :: _) _; first | refine WPl.rdX (ReadR.loadE rfl hasA (by assumption)) ?_ | refine WPl.rdX (ReadR.loadES (by assumption) (by first | assumption | omega) rfl hasA) ?_)
   | (show WPl _ _ _ _ _ _ _ (⟨_, .slice _ _ _ _ _, _, _, _, _⟩ :: _) _; first | refine WPl.rdX (ReadR.sliceH rfl rfl hasA (by omega)) ?_ | refine WPl.rdX (ReadR.sliceL rfl rfl hasA (by omega)) ?_ | refine WPl.rdX (ReadR.sliceLH rfl rfl rfl hasA (by omega) (by omega)) ?_)
   | fail)
  first | refine WPc.loop (σ := Nat × List UInt8) (fun p => p.1 ≤ 4 ∧ p.2 = over (List.replicate 16 0) 12 (seg l 0 p.1)) (fun p => [bx g 35 [(1, [.bool false]), (16, u8s p.2)], bx gr 35 [(1, [.bool false]), (16, u8s (List.replicate 16 0))], rb v l]) (fun p => [(0, v), (2, .pointer (some ⟨gr, 0, none⟩)), (3, .pointer (some ⟨g, 0, none⟩)), (4, .int .i64 p.1)]) (fun p => 4 - p.1) ((0, List.replicate 16 0)) ?_ takesA frsA (fun st km hx hk => ?_)
  · exact ⟨by omega, by simp [seg, over]⟩
  obtain ⟨i, c⟩ := st
  dsimp only at hx hk ⊢
  obtain ⟨hi, hc0⟩ := hx
  have hcl : c.length = 16 := by rw [hc0, over_length] <;> simp [seg_len]; omega
  by_cases hlt : i < 4
  · skip
    repeat' (first
     | refine WPl.nil ?_ | refine WPq.then ?_ | refine WPq.thenR ?_ | refine WPq.thenE ?_ | refine WPq.blockN ?_ | refine WPq.blockR ?_ | refine WPq.blockE ?_ | refine WPq.blockO rfl ?_ | refine WPc.seq ?_ | refine WPc.block ?_ | refine WPc.ret ?_ | refine WPc.exit ?_ | refine WPc.skip ?_ | refine WPc.region ?_
     | (refine isCond ?_; first | refine WPc.cT ?_ | refine WPc.cF ?_ | (refine WPc.cQ (fun hc => ?_) (fun hc => ?_) <;> try exact prA))
     | (refine isOp ?_; first | refine WPl.rd ?_ | refine WPl.sk ?_ | refine WPl.rdB ?_)
     | (refine isAl ?_; refine WPl.nw fun g => ?_)
     | (refine isSt ?_; first | refine WPl.st1 ?_ | refine WPl.stA ?_ | refine WPl.stEB ?_ | refine WPl.stRB ?_)
     | (show WPl _ _ _ _ _ _ _ (⟨_, .indexAddr _ _ _, _, _, _, _⟩ :: _) _; refine WPl.rdX (ReadR.indexE rfl rfl hasA (by first | assumption | omega)) ?_)
     | (show WPl _ _ _ _ _ _ _ (⟨_, .fieldAddr _ _ _, _, _, _, _⟩ :: _) _; refine WPl.rdX (ReadR.fieldE rfl hasA (by first | assumption | omega)) ?_)
     | (show WPl _ _ _ _ _ _ _ (⟨_, .load _ _, _, _, _, _⟩ :: _) _; first | refine WPl.rdX (ReadR.loadE rfl hasA (by assumption)) ?_ | refine WPl.rdX (ReadR.loadES (by assumption) (by first | assumption | omega) rfl hasA) ?_)
     | (show WPl _ _ _ _ _ _ _ (⟨_, .slice _ _ _ _ _, _, _, _, _⟩ :: _) _; first | refine WPl.rdX (ReadR.sliceH rfl rfl hasA (by omega)) ?_ | refine WPl.rdX (ReadR.sliceL rfl rfl hasA (by omega)) ?_ | refine WPl.rdX (ReadR.sliceLH rfl rfl rfl hasA (by omega) (by omega)) ?_)
     | (refine WPl.spQ (fun hc => ?_) (fun hc => ?_) <;> try exact prA)
     | fail)
    exact WPq.rnd (i + 1, c.set (12 + i) (l.getD i 0)) ⟨by show i + 1 ≤ 4; omega, by
      show _ = over _ _ (seg l 0 (i + 1))
      have e := seg_snoc (l := l) (k := 0) (n := i) (by omega)
      have hs : (seg l 0 i).length = i := seg_length (by omega)
      rw [e, over_snoc _ _ _ _ (by simp; omega), ← hc0, hs, Nat.zero_add]⟩ (by show 4 - (i + 1) < km; omega)
  · obtain rfl : i = 4 := by omega
    rw [seg, List.drop_zero, List.take_of_length_le (by omega)] at hc0
    subst hc0
    repeat' (first
     | refine WPl.nil ?_ | refine WPq.then ?_ | refine WPq.thenR ?_ | refine WPq.thenE ?_ | refine WPq.blockN ?_ | refine WPq.blockR ?_ | refine WPq.blockE ?_ | refine WPq.blockO rfl ?_ | refine WPc.seq ?_ | refine WPc.block ?_ | refine WPc.ret ?_ | refine WPc.exit ?_ | refine WPc.skip ?_ | refine WPc.region ?_
     | (refine isCond ?_; first | refine WPc.cT ?_ | refine WPc.cF ?_ | (refine WPc.cQ (fun hc => ?_) (fun hc => ?_) <;> try exact prA))
     | (refine isOp ?_; first | refine WPl.rd ?_ | refine WPl.sk ?_ | refine WPl.rdB ?_)
     | (refine isAl ?_; refine WPl.nw fun g => ?_)
     | (refine isSt ?_; first | refine WPl.st1 ?_ | refine WPl.stA ?_ | refine WPl.stEB ?_ | refine WPl.stRB ?_)
     | (show WPl _ _ _ _ _ _ _ (⟨_, .indexAddr _ _ _, _, _, _, _⟩ :: _) _; refine WPl.rdX (ReadR.indexE rfl rfl hasA (by first | assumption | omega)) ?_)
     | (show WPl _ _ _ _ _ _ _ (⟨_, .fieldAddr _ _ _, _, _, _, _⟩ :: _) _; refine WPl.rdX (ReadR.fieldE rfl hasA (by first | assumption | omega)) ?_)
     | (show WPl _ _ _ _ _ _ _ (⟨_, .load _ _, _, _, _, _⟩ :: _) _; first | refine WPl.rdX (ReadR.loadE rfl hasA (by assumption)) ?_ | refine WPl.rdX (ReadR.loadES (by assumption) (by first | assumption | omega) rfl hasA) ?_)
     | (show WPl _ _ _ _ _ _ _ (⟨_, .slice _ _ _ _ _, _, _, _, _⟩ :: _) _; first | refine WPl.rdX (ReadR.sliceH rfl rfl hasA (by omega)) ?_ | refine WPl.rdX (ReadR.sliceL rfl rfl hasA (by omega)) ?_ | refine WPl.rdX (ReadR.sliceLH rfl rfl rfl hasA (by omega) (by omega)) ?_)
     | (refine WPl.spQ (fun hc => ?_) (fun hc => ?_) <;> try exact prA)
     | fail)
    all_goals try (first | exact WPq.dTp | exact WPq.dTs | exact WPq.dV | exact WPq.dR | exact WPq.dR2 | exact WPq.dH | exact WPq.dBH | exact WPq.dT)
theorem ferr_ne {b : List UInt8} (h : ¬ ferr b = 0) : 2048 < b.length ∨ b.length < 20 ∨ byteN b 0 / 16 ≠ 4 ∨ ihl b < 20 ∨ b.length < ihl b ∨ val (seg b 2 2) ≠ b.length ∨ csum (seg b 0 (ihl b)) ≠ 0 ∨ byteN b 8 = 0 ∨ 128 ≤ byteN b 6 := by
  apply Classical.byContradiction
  intro hn
  apply h
  unfold ferr
  repeat' (first | omega | split)
theorem rf_t (v : Value) (b : List UInt8) (hl : b.length ≤ 1000000) : Triple Tryz.prog 40 #[v] [rb v b] (RVal (fVal b)) := by
  have hb0 := byteN_lt b 0
  have hb6 := byteN_lt b 6
  have hb8 := byteN_lt b 8
  have hihl : (4 : Int) * (((b.getD 0 0).toNat : Nat) % 16) = ((ihl b : Nat) : Int) := by unfold ihl byteN; omega
  have hih := ihl_lt b
  have hv1 := val2_lt (l := b) (k := 2)
  have u0 : byteN b 0 = (b.getD 0 0).toNat := rfl
  have u6 : byteN b 6 = (b.getD 6 0).toNat := rfl
  have u8 : byteN b 8 = (b.getD 8 0).toNat := rfl
  by_cases he : ferr b = 0
  · rw [show fVal b = .tuple #[ag (hdc (fhead b)), .int .i64 0] by unfold fVal fread; rw [if_pos he, he]]
    obtain ⟨h1, h2, h3, h4, h5, h6, h7, h8, h9⟩ := ferr_zero he
    have hv6 := val_seg2 (b := b) (i := 6) (by omega)
    have c6 := (b.getD 6 0).toNat_lt
    have c7 := (b.getD 7 0).toNat_lt
    have hd : (!decide (((((b.getD 6 0).toNat : Nat) : Int) * 256 + (((b.getD 7 0).toNat : Nat) : Int)) % 16384 = 0)) = decide (¬ val (seg b 6 2) % 16384 = 0) := by
      rw [hv6, Bool.eq_iff_iff]; unfold byteN; simp; omega
    have ha1 := (ofA (seg b 12 4)).len
    have ha2 := (ofA (seg b 16 4)).len
    refine Triple.enter Tryz.func40 rfl Tryz.ntmps40 rfl (fun W => ?_)
    dsimp only [argsF, Nat.reduceAdd]
    repeat' (first
     | refine WPl.nil ?_ | refine WPq.then ?_ | refine WPq.thenR ?_ | refine WPq.thenE ?_ | refine WPq.blockN ?_ | refine WPq.blockR ?_ | refine WPq.blockE ?_ | refine WPq.blockO rfl ?_ | refine WPc.seq ?_ | refine WPc.block ?_ | refine WPc.ret ?_ | refine WPc.exit ?_ | refine WPc.skip ?_ | refine WPc.region ?_
     | (refine isReg 8 ?_; refine WPc.drA [([], [28, 29, 30]), ([0], [22, 28, 29, 30]), ([0, 1], [22, 23, 28, 29, 30]), ([0, 1, 2], [22, 23, 24, 28, 29, 30]), ([0, 1, 2, 3], [22, 23, 24, 25, 28, 29, 30]), ([0, 1, 2, 3, 4], [22, 23, 24, 25, 26, 28, 29, 30]), ([], [22, 23, 24, 25, 26, 27]), ([6], [22, 23, 24, 25, 26, 27, 28]), ([6, 7], [5, 22, 23, 24, 25, 26, 27, 28, 29]), ([0, 1, 2, 3, 4, 5, 6, 7], [22, 23, 24, 25, 26, 27, 28, 29, 30]), ([0, 1, 2, 3, 4, 5, 6, 7, 8, 9], [5, 22, 23, 24, 25, 26, 27, 28, 29, 30])] [] (Γx := []) ?_; dsimp only [prev0, List.length_nil, List.length_cons])
     | (refine isReg 23 ?_; refine WPc.drA [([28], [73, 74, 75, 76, 77, 78, 79, 80, 81, 82, 83, 84, 85, 86, 87, 88, 89, 90, 91, 92, 93, 94]), ([0, 28], [70, 73, 74, 75, 76, 77, 78, 79, 80, 81, 82, 83, 84, 85, 86, 87, 88, 89, 90, 91, 92, 93, 94]), ([0, 1, 28], [70, 71, 73, 74, 75, 76, 77, 78, 79, 80, 81, 82, 83, 84, 85, 86, 87, 88, 89, 90, 91, 92, 93, 94]), ([28], [70, 71, 72, 74, 75, 76, 77, 78, 79, 80, 81, 82, 83, 84, 85, 86, 87, 88, 89, 90, 91, 92, 93, 94]), ([28], [70, 71, 72, 73, 77, 78, 80, 81, 82, 83, 84, 85, 86, 87, 88, 89, 90, 91, 92, 93, 94]), ([4, 28], [70, 71, 72, 73, 74, 77, 78, 80, 81, 82, 83, 84, 85, 86, 87, 88, 89, 90, 91, 92, 93, 94]), ([4, 5, 28], [70, 71, 72, 73, 74, 75, 77, 78, 80, 81, 82, 83, 84, 85, 86, 87, 88, 89, 90, 91, 92, 93, 94]), ([28], [70, 71, 72, 73, 74, 75, 76, 80, 81, 82, 83, 84, 85, 86, 87, 88, 89, 90, 91, 92, 93, 94]), ([7, 28], [70, 71, 72, 73, 74, 75, 76, 77, 80, 81, 82, 83, 84, 85, 86, 87, 88, 89, 90, 91, 92, 93, 94]), ([4, 5, 6, 7, 8, 28], [70, 71, 72, 73, 74, 75, 76, 77, 78, 80, 81, 82, 83, 84, 85, 86, 87, 88, 89, 90, 91, 92, 93, 94]), ([28], [70, 71, 72, 73, 74, 75, 76, 77, 78, 79, 85, 86, 87, 88, 92, 93, 94]), ([10, 28], [70, 71, 72, 73, 74, 75, 76, 77, 78, 79, 80, 85, 86, 87, 88, 92, 93, 94]), ([10, 11, 28], [70, 71, 72, 73, 74, 75, 76, 77, 78, 79, 80, 81, 85, 86, 87, 88, 92, 93, 94]), ([10, 11, 12, 28], [70, 71, 72, 73, 74, 75, 76, 77, 78, 79, 80, 81, 82, 85, 86, 87, 88, 92, 93, 94]), ([10, 11, 12, 13, 28], [70, 71, 72, 73, 74, 75, 76, 77, 78, 79, 80, 81, 82, 83, 85, 86, 87, 88, 92, 93, 94]), ([28], [70, 71, 72, 73, 74, 75, 76, 77, 78, 79, 80, 81, 82, 83, 84, 92, 93, 94]), ([15, 28], [70, 71, 72, 73, 74, 75, 76, 77, 78, 79, 80, 81, 82, 83, 84, 85, 92, 93, 94]), ([15, 16, 28], [70, 71, 72, 73, 74, 75, 76, 77, 78, 79, 80, 81, 82, 83, 84, 85, 86, 92, 93, 94]), ([15, 16, 17, 28], [70, 71, 72, 73, 74, 75, 76, 77, 78, 79, 80, 81, 82, 83, 84, 85, 86, 87, 92, 93, 94]), ([10, 11, 12, 13, 14, 15, 16, 17, 18, 28], [70, 71, 72, 73, 74, 75, 76, 77, 78, 79, 80, 81, 82, 83, 84, 85, 86, 87, 88, 92, 93, 94]), ([10, 11, 12, 13, 14, 15, 16, 17, 18, 19, 28], [70, 71, 72, 73, 74, 75, 76, 77, 78, 79, 80, 81, 82, 83, 84, 85, 86, 87, 88, 89, 92, 93, 94]), ([10, 11, 12, 13, 14, 15, 16, 17, 18, 19, 20, 28], [70, 71, 72, 73, 74, 75, 76, 77, 78, 79, 80, 81, 82, 83, 84, 85, 86, 87, 88, 89, 90, 92, 93, 94]), ([28], [70, 71, 72, 73, 74, 75, 76, 77, 78, 79, 80, 81, 82, 83, 84, 85, 86, 87, 88, 89, 90, 91]), ([22, 28], [70, 71, 72, 73, 74, 75, 76, 77, 78, 79, 80, 81, 82, 83, 84, 85, 86, 87, 88, 89, 90, 91, 92]), ([22, 23, 28], [70, 71, 72, 73, 74, 75, 76, 77, 78, 79, 80, 81, 82, 83, 84, 85, 86, 87, 88, 89, 90, 91, 92, 93]), ([0, 1, 2, 3, 4, 5, 6, 7, 8, 9, 10, 11, 12, 13, 14, 15, 16, 17, 18, 19, 20, 21, 22, 23, 24, 28], [70, 71, 72, 73, 74, 75, 76, 77, 78, 79, 80, 81, 82, 83, 84, 85, 86, 87, 88, 89, 90, 91, 92, 93, 94]), ([0, 1, 2, 3, 4, 5, 6, 7, 8, 9, 10, 11, 12, 13, 14, 15, 16, 17, 18, 19, 20, 21, 22, 23, 24, 25, 28], [70, 71, 72, 73, 74, 75, 76, 77, 78, 79, 80, 81, 82, 83, 84, 85, 86, 87, 88, 89, 90, 91, 92, 93, 94, 95]), ([0, 1, 2, 3, 4, 5, 6, 7, 8, 9, 10, 11, 12, 13, 14, 15, 16, 17, 18, 19, 20, 21, 22, 23, 24, 25, 26, 28], [70, 71, 72, 73, 74, 75, 76, 77, 78, 79, 80, 81, 82, 83, 84, 85, 86, 87, 88, 89, 90, 91, 92, 93, 94, 95])] [(28, 26), (28, 0), (28, 1), (28, 2), (28, 3), (28, 4), (28, 5), (28, 6), (28, 7), (28, 8), (28, 9), (28, 10), (28, 11), (28, 12), (28, 13), (28, 14), (28, 15), (28, 16), (28, 17), (28, 18), (28, 19), (28, 20), (28, 21), (28, 22), (28, 23), (28, 24), (28, 25)] (Γx := [bx gr 47 (hdc Hd.none)]) ?_; dsimp only [prev0, List.length_nil, List.length_cons])
     | (refine gAny ?_; first | (refine gCl ?_; refine RGl.vl (fun e hk => OpT.callN (rget_t v b 2 2 (by omega) (by omega) (by omega))) ?_) | (refine gCl ?_; refine RGl.vl (fun e hk => OpT.callN (rsum_t (subv 1 v 0 (ihl b)) (seg b 0 (ihl b)) (by simp [seg_len]; omega))) ?_) | (refine gCl ?_; refine RGl.vl (fun e hk => OpT.callN (r13of_t (subv 1 v 12 4) (seg b 12 4) (seg_length (by omega)))) ?_) | (refine gCl ?_; refine RGl.vl (fun e hk => OpT.callN (r13of_t (subv 1 v 16 4) (seg b 16 4) (seg_length (by omega)))) ?_) | (show RGl _ _ _ _ _ _ _ _ (⟨_, .binOp .mul _ _ _ _, _, _, _, _⟩ :: _) _ _; refine RGl.rdX (fun e hk => by (try dsimp only [bndR, ensR, oksR, fcutR, List.append_nil, List.nil_append, List.cons_append, List.append_assoc] at hk ⊢); exact ReadR.bin rfl rfl (BinR.mulT hihl (by simp only [kmin]; omega) (by simp only [kmax]; omega))) ?_) | (show RGl _ _ _ _ _ _ _ _ (⟨_, .binOp .neq _ _ _ _, _, _, _, _⟩ :: _) _ _; refine RGl.rdX (fun e hk => by (try dsimp only [bndR, ensR, oksR, fcutR, List.append_nil, List.nil_append, List.cons_append, List.append_assoc] at hk ⊢); exact ReadR.binE rfl rfl BinR.neq (congrArg Value.bool hd)) ?_) | (refine gOp ?_; first | refine RGl.rdA ?_ | refine RGl.rdX (fun e hk => by (try dsimp only [bndR, ensR, oksR, fcutR, List.append_nil, List.nil_append, List.cons_append, List.append_assoc] at hk ⊢); exact readB) ?_) | (refine gSt ?_; refine RGl.stA ?_) | (refine RGl.fin (fun e hk => ?_); (try dsimp only [bndA, ensAR, oksA, List.append_nil, List.nil_append, List.cons_append, List.append_assoc] at hk ⊢); (repeat (obtain ⟨hk1, hk⟩ := hk))) | fail)
     | (refine isCond ?_; first | refine WPc.cT ?_ | refine WPc.cF ?_ | (refine WPc.cQ (fun hc => ?_) (fun hc => ?_) <;> try exact prA))
     | (refine isD 2 ?_; first | (refine isAl ?_; refine WPl.nw fun gr => ?_) | (refine isBx ?_; refine WPl.nw fun gr => ?_))
     | (refine isCl ?_; refine WPl.cV (rget_t v b 2 2 (by omega) (by omega) (by omega)) ?_)
     | (refine isCl ?_; refine WPl.cV (rsum_t (subv 1 v 0 (ihl b)) (seg b 0 (ihl b)) (by simp [seg_len]; omega)) ?_)
     | (refine isCl ?_; refine WPl.cV (r13of_t (subv 1 v 12 4) (seg b 12 4) (seg_length (by omega))) ?_)
     | (refine isCl ?_; refine WPl.cV (r13of_t (subv 1 v 16 4) (seg b 16 4) (seg_length (by omega))) ?_)
     | (show WPl _ _ _ _ _ _ _ (⟨_, .binOp .mul _ _ _ _, _, _, _, _⟩ :: _) _; refine WPl.rdX (ReadR.bin rfl rfl (BinR.mulT hihl (by simp only [kmin]; omega) (by simp only [kmax]; omega))) ?_)
     | (refine isOp ?_; first | refine WPl.rd ?_ | refine WPl.sk ?_ | refine WPl.rdB ?_)
     | (refine isAl ?_; refine WPl.nw fun g => ?_)
     | (refine isSt ?_; first | refine WPl.st1 ?_ | refine WPl.stA ?_ | refine WPl.stEB ?_ | refine WPl.stRB ?_)
     | (show WPl _ _ _ _ _ _ _ (⟨_, .indexAddr _ _ _, _, _, _, _⟩ :: _) _; refine WPl.rdX (ReadR.indexE rfl rfl hasA (by first | assumption | omega)) ?_)
     | (show WPl _ _ _ _ _ _ _ (⟨_, .fieldAddr _ _ _, _, _, _, _⟩ :: _) _; refine WPl.rdX (ReadR.fieldE rfl hasA (by first | assumption | omega)) ?_)
     | (show WPl _ _ _ _ _ _ _ (⟨_, .load _ _, _, _, _, _⟩ :: _) _; first | refine WPl.rdX (ReadR.loadE rfl hasA (by assumption)) ?_ | refine WPl.rdX (ReadR.loadES (by assumption) (by first | assumption | omega) rfl hasA) ?_)
     | (show WPl _ _ _ _ _ _ _ (⟨_, .slice _ _ _ _ _, _, _, _, _⟩ :: _) _; first | refine WPl.rdX (ReadR.sliceH rfl rfl hasA (by omega)) ?_ | refine WPl.rdX (ReadR.sliceL rfl rfl hasA (by omega)) ?_ | refine WPl.rdX (ReadR.sliceLH rfl rfl rfl hasA (by omega) (by omega)) ?_)
     | (refine WPl.spQ (fun hc => ?_) (fun hc => ?_) <;> try exact prA)
     | fail)
    all_goals try (first | exact WPq.dTp | exact WPq.dTs | exact WPq.dV | exact WPq.dR | exact WPq.dR2 | exact WPq.dH | exact WPq.dBH | exact WPq.dT)
  · rw [show fVal b = .tuple #[ag (hdc Hd.none), .int .i64 (ferr b)] by unfold fVal fread; rw [if_neg he]]
    have hne := ferr_ne he
    refine Triple.enter Tryz.func40 rfl Tryz.ntmps40 rfl (fun W => ?_)
    dsimp only [argsF, Nat.reduceAdd]
    repeat' (first
     | refine WPl.nil ?_ | refine WPq.then ?_ | refine WPq.thenR ?_ | refine WPq.thenE ?_ | refine WPq.blockN ?_ | refine WPq.blockR ?_ | refine WPq.blockE ?_ | refine WPq.blockO rfl ?_ | refine WPc.seq ?_ | refine WPc.block ?_ | refine WPc.ret ?_ | refine WPc.exit ?_ | refine WPc.skip ?_ | refine WPc.region ?_
     | (refine isReg 8 ?_; refine WPc.drA [([], [28, 29, 30]), ([0], [22, 28, 29, 30]), ([0, 1], [22, 23, 28, 29, 30]), ([0, 1, 2], [22, 23, 24, 28, 29, 30]), ([0, 1, 2, 3], [22, 23, 24, 25, 28, 29, 30]), ([0, 1, 2, 3, 4], [22, 23, 24, 25, 26, 28, 29, 30]), ([], [22, 23, 24, 25, 26, 27]), ([6], [22, 23, 24, 25, 26, 27, 28]), ([6, 7], [5, 22, 23, 24, 25, 26, 27, 28, 29]), ([0, 1, 2, 3, 4, 5, 6, 7], [22, 23, 24, 25, 26, 27, 28, 29, 30]), ([0, 1, 2, 3, 4, 5, 6, 7, 8, 9], [5, 22, 23, 24, 25, 26, 27, 28, 29, 30])] [] (Γx := []) ?_; dsimp only [prev0, List.length_nil, List.length_cons])
     | (refine isReg 23 ?_; refine WPc.drA [([], [73, 74, 75, 76, 77, 78, 79, 80, 81, 82, 83, 84, 85, 86, 87, 88, 89, 90, 91, 92, 93, 94]), ([0], [70, 73, 74, 75, 76, 77, 78, 79, 80, 81, 82, 83, 84, 85, 86, 87, 88, 89, 90, 91, 92, 93, 94]), ([0, 1], [70, 71, 73, 74, 75, 76, 77, 78, 79, 80, 81, 82, 83, 84, 85, 86, 87, 88, 89, 90, 91, 92, 93, 94]), ([], [70, 71, 72, 74, 75, 76, 77, 78, 79, 80, 81, 82, 83, 84, 85, 86, 87, 88, 89, 90, 91, 92, 93, 94]), ([], [70, 71, 72, 73, 77, 78, 80, 81, 82, 83, 84, 85, 86, 87, 88, 89, 90, 91, 92, 93, 94]), ([4], [70, 71, 72, 73, 74, 77, 78, 80, 81, 82, 83, 84, 85, 86, 87, 88, 89, 90, 91, 92, 93, 94]), ([4, 5], [70, 71, 72, 73, 74, 75, 77, 78, 80, 81, 82, 83, 84, 85, 86, 87, 88, 89, 90, 91, 92, 93, 94]), ([], [70, 71, 72, 73, 74, 75, 76, 80, 81, 82, 83, 84, 85, 86, 87, 88, 89, 90, 91, 92, 93, 94]), ([7], [70, 71, 72, 73, 74, 75, 76, 77, 80, 81, 82, 83, 84, 85, 86, 87, 88, 89, 90, 91, 92, 93, 94]), ([4, 5, 6, 7, 8], [70, 71, 72, 73, 74, 75, 76, 77, 78, 80, 81, 82, 83, 84, 85, 86, 87, 88, 89, 90, 91, 92, 93, 94]), ([], [70, 71, 72, 73, 74, 75, 76, 77, 78, 79, 85, 86, 87, 88, 92, 93, 94]), ([10], [70, 71, 72, 73, 74, 75, 76, 77, 78, 79, 80, 85, 86, 87, 88, 92, 93, 94]), ([10, 11], [70, 71, 72, 73, 74, 75, 76, 77, 78, 79, 80, 81, 85, 86, 87, 88, 92, 93, 94]), ([10, 11, 12], [70, 71, 72, 73, 74, 75, 76, 77, 78, 79, 80, 81, 82, 85, 86, 87, 88, 92, 93, 94]), ([10, 11, 12, 13], [70, 71, 72, 73, 74, 75, 76, 77, 78, 79, 80, 81, 82, 83, 85, 86, 87, 88, 92, 93, 94]), ([], [70, 71, 72, 73, 74, 75, 76, 77, 78, 79, 80, 81, 82, 83, 84, 92, 93, 94]), ([15], [70, 71, 72, 73, 74, 75, 76, 77, 78, 79, 80, 81, 82, 83, 84, 85, 92, 93, 94]), ([15, 16], [70, 71, 72, 73, 74, 75, 76, 77, 78, 79, 80, 81, 82, 83, 84, 85, 86, 92, 93, 94]), ([15, 16, 17], [70, 71, 72, 73, 74, 75, 76, 77, 78, 79, 80, 81, 82, 83, 84, 85, 86, 87, 92, 93, 94]), ([10, 11, 12, 13, 14, 15, 16, 17, 18], [70, 71, 72, 73, 74, 75, 76, 77, 78, 79, 80, 81, 82, 83, 84, 85, 86, 87, 88, 92, 93, 94]), ([10, 11, 12, 13, 14, 15, 16, 17, 18, 19], [70, 71, 72, 73, 74, 75, 76, 77, 78, 79, 80, 81, 82, 83, 84, 85, 86, 87, 88, 89, 92, 93, 94]), ([10, 11, 12, 13, 14, 15, 16, 17, 18, 19, 20], [70, 71, 72, 73, 74, 75, 76, 77, 78, 79, 80, 81, 82, 83, 84, 85, 86, 87, 88, 89, 90, 92, 93, 94]), ([], [70, 71, 72, 73, 74, 75, 76, 77, 78, 79, 80, 81, 82, 83, 84, 85, 86, 87, 88, 89, 90, 91]), ([22], [70, 71, 72, 73, 74, 75, 76, 77, 78, 79, 80, 81, 82, 83, 84, 85, 86, 87, 88, 89, 90, 91, 92]), ([22, 23], [70, 71, 72, 73, 74, 75, 76, 77, 78, 79, 80, 81, 82, 83, 84, 85, 86, 87, 88, 89, 90, 91, 92, 93]), ([0, 1, 2, 3, 4, 5, 6, 7, 8, 9, 10, 11, 12, 13, 14, 15, 16, 17, 18, 19, 20, 21, 22, 23, 24], [70, 71, 72, 73, 74, 75, 76, 77, 78, 79, 80, 81, 82, 83, 84, 85, 86, 87, 88, 89, 90, 91, 92, 93, 94]), ([0, 1, 2, 3, 4, 5, 6, 7, 8, 9, 10, 11, 12, 13, 14, 15, 16, 17, 18, 19, 20, 21, 22, 23, 24, 25], [70, 71, 72, 73, 74, 75, 76, 77, 78, 79, 80, 81, 82, 83, 84, 85, 86, 87, 88, 89, 90, 91, 92, 93, 94, 95]), ([0, 1, 2, 3, 4, 5, 6, 7, 8, 9, 10, 11, 12, 13, 14, 15, 16, 17, 18, 19, 20, 21, 22, 23, 24, 25, 26], [70, 71, 72, 73, 74, 75, 76, 77, 78, 79, 80, 81, 82, 83, 84, 85, 86, 87, 88, 89, 90, 91, 92, 93, 94, 95])] [] (Γx := []) ?_; dsimp only [prev0, List.length_nil, List.length_cons])
     | (refine gAny ?_; first | (refine gCl ?_; refine RGl.vl (fun e hk => OpT.callN (rget_t v b 2 2 (by omega) (by omega) (by omega))) ?_) | (refine gCl ?_; refine RGl.vl (fun e hk => OpT.callN (rsum_t (subv 1 v 0 (ihl b)) (seg b 0 (ihl b)) (by simp [seg_len]; omega))) ?_) | (show RGl _ _ _ _ _ _ _ _ (⟨_, .binOp .mul _ _ _ _, _, _, _, _⟩ :: _) _ _; refine RGl.rdX (fun e hk => by (try dsimp only [bndR, ensR, oksR, fcutR, List.append_nil, List.nil_append, List.cons_append, List.append_assoc] at hk ⊢); exact ReadR.bin rfl rfl (BinR.mulT hihl (by simp only [kmin]; omega) (by simp only [kmax]; omega))) ?_) | (refine gOp ?_; first | refine RGl.rdA ?_ | refine RGl.rdX (fun e hk => by (try dsimp only [bndR, ensR, oksR, fcutR, List.append_nil, List.nil_append, List.cons_append, List.append_assoc] at hk ⊢); exact readB) ?_) | (refine gSt ?_; refine RGl.stA ?_) | (refine RGl.fin (fun e hk => ?_); (try dsimp only [bndA, ensAR, oksA, List.append_nil, List.nil_append, List.cons_append, List.append_assoc] at hk ⊢); (repeat (obtain ⟨hk1, hk⟩ := hk))) | fail)
     | (refine isCond ?_; first | refine WPc.cT ?_ | refine WPc.cF ?_ | (refine WPc.cQ (fun hc => ?_) (fun hc => ?_) <;> try exact prA))
     | (refine isD 2 ?_; first | (refine isAl ?_; refine WPl.nw fun gr => ?_) | (refine isBx ?_; refine WPl.nw fun gr => ?_))
     | (refine isCl ?_; refine WPl.cV (rget_t v b 2 2 (by omega) (by omega) (by omega)) ?_)
     | (refine isCl ?_; refine WPl.cV (rsum_t (subv 1 v 0 (ihl b)) (seg b 0 (ihl b)) (by simp [seg_len]; omega)) ?_)
     | (show WPl _ _ _ _ _ _ _ (⟨_, .binOp .mul _ _ _ _, _, _, _, _⟩ :: _) _; refine WPl.rdX (ReadR.bin rfl rfl (BinR.mulT hihl (by simp only [kmin]; omega) (by simp only [kmax]; omega))) ?_)
     | (refine isOp ?_; first | refine WPl.rd ?_ | refine WPl.sk ?_ | refine WPl.rdB ?_)
     | (refine isAl ?_; refine WPl.nw fun g => ?_)
     | (refine isSt ?_; first | refine WPl.st1 ?_ | refine WPl.stA ?_ | refine WPl.stEB ?_ | refine WPl.stRB ?_)
     | (show WPl _ _ _ _ _ _ _ (⟨_, .indexAddr _ _ _, _, _, _, _⟩ :: _) _; refine WPl.rdX (ReadR.indexE rfl rfl hasA (by first | assumption | omega)) ?_)
     | (show WPl _ _ _ _ _ _ _ (⟨_, .fieldAddr _ _ _, _, _, _, _⟩ :: _) _; refine WPl.rdX (ReadR.fieldE rfl hasA (by first | assumption | omega)) ?_)
     | (show WPl _ _ _ _ _ _ _ (⟨_, .load _ _, _, _, _, _⟩ :: _) _; first | refine WPl.rdX (ReadR.loadE rfl hasA (by assumption)) ?_ | refine WPl.rdX (ReadR.loadES (by assumption) (by first | assumption | omega) rfl hasA) ?_)
     | (show WPl _ _ _ _ _ _ _ (⟨_, .slice _ _ _ _ _, _, _, _, _⟩ :: _) _; first | refine WPl.rdX (ReadR.sliceH rfl rfl hasA (by omega)) ?_ | refine WPl.rdX (ReadR.sliceL rfl rfl hasA (by omega)) ?_ | refine WPl.rdX (ReadR.sliceLH rfl rfl rfl hasA (by omega) (by omega)) ?_)
     | (refine WPl.spQ (fun hc => ?_) (fun hc => ?_) <;> try exact prA)
     | fail)
    all_goals
      refine WPq.dV (hc := ?_)
      show Value.tuple #[_, Value.int .i64 _] = Value.tuple #[_, Value.int .i64 _]
      congr 5
      unfold ferr
      repeat' (first | omega | split)
end Go.Proofs.YtpilenbdimhegaaGreatDoor
/- Layer 13 (ipfour): writing heads: contracts. -/
namespace Go.Proofs.YtpilenbdimhegaaGreatDoor
open Go.RowKit
set_option linter.unusedSimpArgs false
set_option linter.unusedVariables false
set_option maxRecDepth 20000
set_option maxHeartbeats 4000000
attribute [local irreducible] WPc WPl WPq ReadR OpT BinR HasS bx rdN rowN Take Takes Prov Triple ResF BuildP Done ag Int.decLt Int.decLe Int.instDecidableEq

def fwBad (h : Hd) : Bool := h.six || (h.part || (decide (((h.hops.toNat : Nat) : Int) = 0) || (h.src.six || (h.dst.six || (!h.src.good || !h.dst.good)))))
def fwerr (h : Hd) (n : Nat) : Int := if fwBad h then 1 else if 2028 < n then 10 else 0
def fpre (h : Hd) (n : Nat) : List UInt8 := [nbs [69, 0] ++ be (20 + n) 2 ++ nbs [0, 0, 0, 0, (h.hops.toNat : Nat), (h.proto.toNat : Nat), 0, 0], h.src.bytes, h.dst.bytes].flatten
def fpkt (h : Hd) (d : List UInt8) : List UInt8 := [over (fpre h d.length) 10 (be (csum (fpre h d.length)) 2), d].flatten
def fwL (h : Hd) (d : List UInt8) : List UInt8 := if fwerr h d.length = 0 then fpkt h d else []
abbrev RW (l : List UInt8) (e : Int) : Value → List Asn → Prop := RRow2 5 1 l.length (u8s l) (.int .i64 e)
theorem fwBad_no {h : Hd} (hb : fwBad h = false) : h.six = false ∧ h.part = false ∧ ¬ ((h.hops.toNat : Nat) : Int) = 0 ∧ h.src.six = false ∧ h.dst.six = false ∧ h.src.good = true ∧ h.dst.good = true := by
  simpa [fwBad] using hb
theorem fpre_len {h : Hd} {n : Nat} (h1 : h.src.six = false) (h2 : h.dst.six = false) : (fpre h n).length = 20 := by
  have a1 := h.src.bytes_len
  have a2 := h.dst.bytes_len
  rw [h1, if_neg (by decide)] at a1
  rw [h2, if_neg (by decide)] at a2
  simp [fpre, nbs, be_length, a1, a2]
theorem fpre_eq (h : Hd) (n : Nat) : [nbs [69, 0] ++ be (20 + n) 2 ++ nbs [0, 0, 0, 0, (h.hops.toNat : Nat), (h.proto.toNat : Nat), 0, 0], h.src.bytes, h.dst.bytes].flatten = fpre h n := rfl
theorem fpkt_eq (h : Hd) (d : List UInt8) : [over (fpre h d.length) 10 (be (csum (fpre h d.length)) 2), d].flatten = fpkt h d := rfl
attribute [local irreducible] fpre fpkt csum over be
theorem fwrite_t (h : Hd) (v : Value) (d : List UInt8) (hd : d.length ≤ 100000) : Triple Tryz.prog 139 #[ag (hdc h), v] [rb v d] (RW (fwL h d) (fwerr h d.length)) := by
  have l1 := h.src.len
  have l2 := h.dst.len
  have g1 := Good_t h.src
  have g2 := Good_t h.dst
  cases hbad : fwBad h with
  | true =>
    have he : fwerr h d.length = 1 := by simp [fwerr, hbad]
    rw [show fwL h d = [] by simp [fwL, he], he]
    refine Triple.enter Tryz.func139 rfl Tryz.ntmps139 rfl (fun W => ?_)
    dsimp only [argsF, Nat.reduceAdd]
    refine WPc.nilRow 5 ?_
    repeat' (first
     | refine WPl.nil ?_ | refine WPq.then ?_ | refine WPq.thenR ?_ | refine WPq.blockR ?_ | refine WPc.seq ?_ | refine WPc.block ?_ | refine WPc.ret ?_ | refine WPc.region ?_
     | (refine isCond ?_; first | refine WPc.cT ?_ | refine WPc.cF ?_ | (refine WPc.cQ (fun hc => ?_) (fun hc => ?_) <;> try first | exact prA | (exfalso; first | (simp only [fwBad, *, decide_false, Bool.or_self, Bool.false_or, Bool.not_true, Bool.false_eq_true] at hbad; done))))
     | (refine isC 32 ?_; refine WPl.cV (g1) ?_)
     | (refine isC 38 ?_; refine WPl.cV (g2) ?_)
     | (refine isOp ?_; first | refine WPl.rd ?_ | refine WPl.sk ?_ | refine WPl.rdB ?_)
     | (refine isBx ?_; refine WPl.nw fun g => ?_)
     | (refine WPl.spQ (fun hc => ?_) (fun hc => ?_) <;> try first | exact prA | (exfalso; first | (simp only [fwBad, *, decide_false, Bool.or_self, Bool.false_or, Bool.not_true, Bool.false_eq_true] at hbad; done)))
     | fail)
    all_goals try (first | exact WPq.dTp | exact WPq.dTs | exact WPq.dV | exact WPq.dR | exact WPq.dR2 | exact WPq.dH | exact WPq.dBH | exact WPq.dT)
  | false =>
    obtain ⟨b1, b2, b3, b4, b5, b6, b7⟩ := fwBad_no hbad
    rw [b6] at g1
    rw [b7] at g2
    by_cases hlen : 2028 < d.length
    · have he : fwerr h d.length = 10 := by simp [fwerr, hbad, hlen]
      rw [show fwL h d = [] by simp [fwL, he], he]
      refine Triple.enter Tryz.func139 rfl Tryz.ntmps139 rfl (fun W => ?_)
      dsimp only [argsF, Nat.reduceAdd]
      refine WPc.nilRow 5 ?_
      repeat' (first
       | refine WPl.nil ?_ | refine WPq.then ?_ | refine WPq.thenR ?_ | refine WPq.blockR ?_ | refine WPc.seq ?_ | refine WPc.block ?_ | refine WPc.ret ?_ | refine WPc.region ?_
       | (refine isCond ?_; first | refine WPc.cT ?_ | refine WPc.cF ?_ | (refine WPc.cQ (fun hc => ?_) (fun hc => ?_) <;> try exact prA))
       | (refine isC 32 ?_; refine WPl.cV (g1) ?_)
       | (refine isC 38 ?_; refine WPl.cV (g2) ?_)
       | (refine isOp ?_; first | refine WPl.rd ?_ | refine WPl.sk ?_ | refine WPl.rdB ?_)
       | (refine isBx ?_; refine WPl.nw fun g => ?_)
       | (refine WPl.spQ (fun hc => ?_) (fun hc => ?_) <;> try exact prA)
       | fail)
      all_goals try (first | exact WPq.dTp | exact WPq.dTs | exact WPq.dV | exact WPq.dR | exact WPq.dR2 | exact WPq.dH | exact WPq.dBH | exact WPq.dT)
    · have he : fwerr h d.length = 0 := by simp [fwerr, hbad, hlen]
      rw [show fwL h d = fpkt h d by simp [fwL, he], he]
      have hpl := fpre_len (n := d.length) b4 b5
      have hcs := csum_le (fpre h d.length)
      have a1 := h.src.bytes_len
      have a2 := h.dst.bytes_len
      rw [b4, if_neg (by decide)] at a1
      rw [b5, if_neg (by decide)] at a2
      have hbe := be_length (20 + d.length) 2
      have hbc := be_length (csum (fpre h d.length)) 2
      have hov : (over (fpre h d.length) 10 (be (csum (fpre h d.length)) 2)).length = 20 := by rw [over_length (by omega), hpl]
      refine Triple.enter Tryz.func139 rfl Tryz.ntmps139 rfl (fun W => ?_)
      dsimp only [argsF, Nat.reduceAdd]
      repeat' (first
       | refine WPl.nil ?_ | refine WPq.then ?_ | refine WPq.blockN ?_ | refine WPc.seq ?_ | refine WPc.block ?_ | refine WPc.ret ?_ | refine WPc.skip ?_ | refine WPc.region ?_
       | (refine isReg 8 ?_; refine WPc.drA [([], [60, 61, 62, 63, 64, 65]), ([], [59, 63, 64]), ([1], [59, 60, 63, 64]), ([1, 2], [59, 60, 61, 63, 64]), ([], [59, 60, 61, 62]), ([4], [59, 60, 61, 62, 63]), ([1, 2, 3, 4, 5], [59, 60, 61, 62, 63, 64]), ([0, 1, 2, 3, 4, 5, 6], [59, 60, 61, 62, 63, 64, 65]), ([0, 1, 2, 3, 4, 5, 6, 7], [59, 60, 61, 62, 63, 64, 65, 66]), ([0, 1, 2, 3, 4, 5, 6, 7, 8], [59, 60, 61, 62, 63, 64, 65, 66, 67])] [] (Γx := []) ?_; dsimp only [prev0, List.length_nil, List.length_cons])
       | (refine isReg 9 ?_; refine WPc.drA [([8], [70, 71, 72, 73, 74]), ([0, 8], [68, 70, 71, 72, 73, 74]), ([8], [68, 69]), ([2, 8], [68, 69, 70]), ([2, 3, 8], [68, 69, 70, 71]), ([2, 3, 4, 8], [68, 69, 70, 71, 72]), ([2, 3, 4, 5, 8], [68, 69, 70, 71, 72, 73]), ([0, 1, 2, 3, 4, 5, 6, 8], [68, 69, 70, 71, 72, 73, 74])] [(8, 7), (8, 0), (8, 1), (8, 2), (8, 3), (8, 4), (8, 5), (8, 6)] (Γx := [ob (e 8).1 (fpre h d.length)]) ?_; dsimp only [prev0, List.length_nil, List.length_cons])
       | (refine gAny ?_; first | (refine gC 74 ?_; refine RGl.row (Γ1 := fun _ => []) (fun e hk => OpT.callN (put_t (.slice none 0 0) [] (csum (fpre h d.length)) 2 (by simp) (by omega) (by omega) (by omega))) ?_) | (refine gC 62 ?_; refine RGl.row (Γ1 := fun _ => []) (fun e hk => OpT.callN (addrBytes_t h.src)) ?_) | (refine gC 65 ?_; refine RGl.row (Γ1 := fun _ => []) (fun e hk => OpT.callN (addrBytes_t h.dst)) ?_) | (refine gC 67 ?_; refine RGl.row (Γ1 := fun _ => []) (fun e hk => OpT.callN (bytesE_t _ [_, _, _] [nbs [69, 0] ++ be (20 + d.length) 2 ++ nbs [0, 0, 0, 0, (h.hops.toNat : Nat), (h.proto.toNat : Nat), 0, 0], h.src.bytes, h.dst.bytes] (fpre h d.length) (fpre_eq h d.length) rfl (by rw [fpre_eq]; omega) (by simp))) ?_) | (refine gCl ?_; refine RGl.vl (fun e hk => OpT.callN (isum_t _ [_] [fpre h d.length] (csum (fpre h d.length)) (by simp [csum]) rfl (by simp [hpl]) (by simp))) ?_) | (refine gOp ?_; first | refine RGl.rdA ?_ | refine RGl.rdX (fun e hk => by (try dsimp only [bndR, ensR, oksR, fcutR, List.append_nil, List.nil_append, List.cons_append, List.append_assoc] at hk ⊢); exact readB) ?_) | (refine gLit ?_; refine RGl.litA ?_) | (refine gCp ?_; refine RGl.cpA ?_) | (refine RGl.fin (fun e hk => ?_); (try dsimp only [bndA, ensAR, oksA, List.append_nil, List.nil_append, List.cons_append, List.append_assoc] at hk ⊢); (repeat (obtain ⟨hk1, hk⟩ := hk))) | fail)
       | (refine isCond ?_; first | refine WPc.cT ?_ | refine WPc.cF ?_ | (refine WPc.cQ (fun hc => ?_) (fun hc => ?_) <;> try exact prA))
       | (refine isC 32 ?_; refine WPl.cV (g1) ?_)
       | (refine isC 38 ?_; refine WPl.cV (g2) ?_)
       | (refine isLit ?_; refine WPl.lit fun v hv => ?_)
       | (refine isApp ?_; refine WPl.app fun v hv => ?_)
       | (refine isLit ?_; refine WPl.lits fun v hv => ?_)
       | (refine isC 51 ?_; refine WPl.cR (put_t _ (nbs [69, 0]) (20 + d.length) 2 (by simp [nbs]) (by omega) (by omega) (by omega)) fun v hv => ?_)
       | (refine isC 79 ?_; refine WPl.cR (bytesE_t _ [_, _] [over (fpre h d.length) 10 (be (csum (fpre h d.length)) 2), d] (fpkt h d) (fpkt_eq h d) rfl (by simp only [List.flatten_cons, List.flatten_nil, List.length_append, List.length_nil]; omega) (by simp)) fun v hv => ?_)
       | (refine isOp ?_; first | refine WPl.rd ?_ | refine WPl.sk ?_ | refine WPl.rdB ?_)
       | (refine isBx ?_; refine WPl.nw fun g => ?_)
       | (refine WPl.spQ (fun hc => ?_) (fun hc => ?_) <;> try exact prA)
       | fail)
      all_goals try (first | exact WPq.dTp | exact WPq.dTs | exact WPq.dV | exact WPq.dR | exact WPq.dR2 | exact WPq.dH | exact WPq.dBH | exact WPq.dT)
end Go.Proofs.YtpilenbdimhegaaGreatDoor
/- Layer 13 (ipfour): plain facts of what is written: it is read, spoilt, cut. -/
namespace Go.Proofs.YtpilenbdimhegaaGreatDoor
open Go.RowKit
set_option linter.unusedSimpArgs false
set_option linter.unusedVariables false
set_option maxRecDepth 20000
set_option maxHeartbeats 4000000
attribute [local irreducible] WPc WPl WPq ReadR OpT BinR HasS bx rdN rowN Take Takes Prov Triple ResF BuildP Done ag Int.decLt Int.decLe Int.instDecidableEq

/-- The weight of a place in the sum. -/
def wgt (k : Nat) : Nat := if k % 2 = 0 then 256 else 1
theorem fwerr_zero {h : Hd} {n : Nat} (he : fwerr h n = 0) : fwBad h = false ∧ n ≤ 2028 := by
  unfold fwerr at he
  cases hb : fwBad h with
  | true => rw [hb] at he; simp at he
  | false =>
    rw [hb] at he
    refine ⟨rfl, ?_⟩
    simp only [Bool.false_eq_true, if_false] at he
    split at he <;> omega
end Go.Proofs.YtpilenbdimhegaaGreatDoor
/- Reference of layer 13 (ipfour): a packet is written: contracts. -/
namespace Go.Proofs.YtpilenbdimhegaaGreatDoor
open Go.RowKit
set_option linter.unusedSimpArgs false
set_option linter.unusedVariables false
set_option maxRecDepth 20000
set_option maxHeartbeats 4000000
attribute [local irreducible] WPc WPl WPq ReadR OpT BinR HasS bx rdN rowN Take Takes Prov Triple ResF BuildP Done ag Int.decLt Int.decLe Int.instDecidableEq
theorem ReadR.convT {P : Program} {n : Nat} {Γ : List Asn} {F : List (Nat × Value)} {d : Option Tmp} {ty : TypeId} {pos : String} {af : Array Edge} {gd : Option (Nat × Bool)} {T1 T2 : TypeId} {k1 k2 : IntKind} {x : Operand} {a c : Int} [h2 : IntI P T2 k2] (hc : k2.wrap a = c) (h1 : (P.underlying T1).isSome = true) (hx : evF F x = some (.int k1 a)) : ReadR P n Γ F ⟨d, .convert T1 T2 x, ty, pos, af, gd⟩ (.int k2 c) := hc ▸ ReadR.convW h1 hx
attribute [local irreducible] be
theorem rfour_t (a : Adr) (h : a.six = false) (hg : a.good = true) : Triple Tryz.prog 85 #[ag (adc a)] [] (RVal (.bool true)) := by
  have g1 := rgood_t a
  have l1 := a.len
  rw [hg] at g1
  refine Triple.enter Tryz.func85 rfl Tryz.ntmps85 rfl (fun W => ?_)
  dsimp only [argsF, Nat.reduceAdd]
  repeat' (first
   | refine WPl.nil ?_ | refine WPq.then ?_ | refine WPq.thenR ?_ | refine WPq.thenE ?_ | refine WPq.blockN ?_ | refine WPq.blockR ?_ | refine WPq.blockE ?_ | refine WPq.blockO rfl ?_ | refine WPc.seq ?_ | refine WPc.block ?_ | refine WPc.ret ?_ | refine WPc.exit ?_ | refine WPc.skip ?_ | refine WPc.region ?_
   | (refine isCond ?_; first | refine WPc.cT ?_ | refine WPc.cF ?_ | (refine WPc.cQ (fun hc => ?_) (fun hc => ?_) <;> try exact prA))
   | (refine isC 8 ?_; refine WPl.cV (g1) ?_)
   | (refine isOp ?_; first | refine WPl.rd ?_ | refine WPl.sk ?_ | refine WPl.rdB ?_)
   | (refine isBx ?_; refine WPl.nw fun g => ?_)
   | (show WPl _ _ _ _ _ _ _ (⟨_, .indexAddr _ _ _, _, _, _, _⟩ :: _) _; refine WPl.rdX (ReadR.indexE rfl rfl hasA (by first | assumption | omega)) ?_)
   | (show WPl _ _ _ _ _ _ _ (⟨_, .fieldAddr _ _ _, _, _, _, _⟩ :: _) _; refine WPl.rdX (ReadR.fieldE rfl hasA (by first | assumption | omega)) ?_)
   | (show WPl _ _ _ _ _ _ _ (⟨_, .load _ _, _, _, _, _⟩ :: _) _; first | refine WPl.rdX (ReadR.loadE rfl hasA (by assumption)) ?_ | refine WPl.rdX (ReadR.loadES (by assumption) (by first | assumption | omega) rfl hasA) ?_)
   | (show WPl _ _ _ _ _ _ _ (⟨_, .slice _ _ _ _ _, _, _, _, _⟩ :: _) _; first | refine WPl.rdX (ReadR.sliceH rfl rfl hasA (by omega)) ?_ | refine WPl.rdX (ReadR.sliceL rfl rfl hasA (by omega)) ?_ | refine WPl.rdX (ReadR.sliceLH rfl rfl rfl hasA (by omega) (by omega)) ?_)
   | (refine WPl.spQ (fun hc => ?_) (fun hc => ?_) <;> try exact prA)
   | fail)
  all_goals try (first | exact WPq.dTp | exact WPq.dTs | exact WPq.dV | exact WPq.dR | exact WPq.dR2 | exact WPq.dH | exact WPq.dBH | exact WPq.dT)
theorem over_cons (x : UInt8) (l n : List UInt8) (k : Nat) : over (x :: l) (k + 1) n = x :: over l k n := by
  unfold over
  rw [List.take_succ_cons, List.cons_append, show k + 1 + n.length = (k + n.length) + 1 by omega, List.drop_succ_cons]
theorem over2 (a b : UInt8) : ∀ (l : List UInt8) (k : Nat), k + 2 ≤ l.length → over l k [a, b] = (l.set k a).set (k + 1) b
  | x :: y :: l, 0, _ => by simp [over]
  | x :: l, k + 1, h => by
    rw [over_cons, over2 a b l k (by simpa using h)]
    rfl
  | [], 0, h => by simp at h
  | [x], 0, h => by simp at h
theorem over_set2 {l : List UInt8} {k n : Nat} (hk : k + 2 ≤ l.length) : (l.set k (UInt8.ofNat (n / 256))).set (k + 1) (UInt8.ofNat n) = over l k (be n 2) := by rw [be2, over2 _ _ l k hk]
theorem wrap_hi {n : Nat} (h : n ≤ 65535) : IntKind.u8.wrap ((n : Int) / 256) = (((UInt8.ofNat (n / 256)).toNat : Nat) : Int) := by rw [IntKind.wrap_u8, u8_of]; omega
theorem wrap_lo {n : Nat} (h : n ≤ 65535) : IntKind.u8.wrap ((n : Int) % 256) = (((UInt8.ofNat n).toNat : Nat) : Int) := by rw [IntKind.wrap_u8, u8_of]; omega
theorem rfwrite_t (h : Hd) (vd : Value) (d : List UInt8) (hd : d.length ≤ 1000) (hb : fwBad h = false) : Triple Tryz.prog 60 #[ag (hdc h), vd] [rb vd d] (RW (fpkt h d) 0) := by
  have l1 := h.src.len
  have l2 := h.dst.len
  obtain ⟨b1, b2, b3, b4, b5, b6, b7⟩ := fwBad_no hb
  have g1 := rfour_t h.src b4 b6
  have g2 := rfour_t h.dst b5 b7
  have a1 := h.src.bytes_le
  have a2 := h.dst.bytes_le
  have hb2 := be_length (20 + d.length) 2
  have hpl := fpre_len (h := h) (n := d.length) b4 b5
  have hpe : nbs [69, 0] ++ be (20 + d.length) 2 ++ nbs [0, 0, 0, 0, (h.hops.toNat : Nat), (h.proto.toNat : Nat), 0, 0] ++ h.src.bytes ++ h.dst.bytes = fpre h d.length := by unfold fpre; simp
  have hcl := csum_le (fpre h d.length)
  have c1 := fun v => rsum_t v (fpre h d.length) (by omega)
  have hres : (((fpre h d.length).set 10 (UInt8.ofNat (csum (fpre h d.length) / 256))).set 11 (UInt8.ofNat (csum (fpre h d.length)))) ++ d = fpkt h d := by rw [over_set2 (by omega)]; unfold fpkt; simp
  have hsl : ((fpre h d.length).set 10 (UInt8.ofNat (csum (fpre h d.length) / 256))).length = 20 := by rw [List.length_set]; exact hpl
  rw [← hres]
  obtain ⟨s, hs⟩ : ∃ s, s = csum (fpre h d.length) := ⟨_, rfl⟩
  rw [← hs] at c1 hcl hsl ⊢
  rw [← hpe] at c1 hpl hsl ⊢
  have hw1 := wrap_hi hcl
  have hw2 := wrap_lo hcl
  clear hs hpe hres
  refine Triple.enter Tryz.func60 rfl Tryz.ntmps60 rfl (fun W => ?_)
  dsimp only [argsF, Nat.reduceAdd]
  repeat' (first
   | refine WPl.nil ?_ | refine WPq.then ?_ | refine WPq.thenR ?_ | refine WPq.thenE ?_ | refine WPq.blockN ?_ | refine WPq.blockR ?_ | refine WPq.blockE ?_ | refine WPq.blockO rfl ?_ | refine WPc.seq ?_ | refine WPc.block ?_ | refine WPc.ret ?_ | refine WPc.exit ?_ | refine WPc.skip ?_ | refine WPc.region ?_
   | (refine isReg 7 ?_; refine WPc.drA [([10], [50, 51, 52, 54, 55]), ([10], [49, 54, 55]), ([1, 10], [49, 50, 54, 55]), ([1, 2, 10], [49, 50, 51, 54, 55]), ([0, 1, 2, 3, 10], [49, 50, 51, 52, 54, 55]), ([10], [49, 50, 51, 52, 53]), ([5, 10], [49, 50, 51, 52, 53, 54]), ([0, 1, 2, 3, 4, 5, 6, 10], [49, 50, 51, 52, 53, 54, 55]), ([0, 1, 2, 3, 4, 5, 6, 7, 10], [49, 50, 51, 52, 53, 54, 55, 56]), ([0, 1, 2, 3, 4, 5, 6, 7, 8, 10], [49, 50, 51, 52, 53, 54, 55, 56, 57])] [(10, 4), (4, 8), (10, 0), (10, 1), (10, 2), (10, 3), (4, 7)] (Γx := [ob w (nbs [69, 0] ++ be (20 + d.length) 2 ++ nbs [0, 0, 0, 0, (h.hops.toNat : Nat), (h.proto.toNat : Nat), 0, 0])]) ?_; dsimp only [prev0, List.length_nil, List.length_cons])
   | (refine gAny ?_; first | (refine gC 13 ?_; refine RGl.vl (fun e hk => OpT.callN (g1)) ?_) | (refine gC 19 ?_; refine RGl.vl (fun e hk => OpT.callN (g2)) ?_) | (refine gC 41 ?_; refine RGl.row (Γ1 := fun _ => []) (fun e hk => OpT.callN (rput_t _ (nbs [69, 0]) (20 + d.length) 2 (by omega) (by omega) (by simp [nbs]))) ?_) | (refine gC 52 ?_; refine RGl.row (Γ1 := fun _ => []) (fun e hk => OpT.callN (rbytes_t h.src)) ?_) | (refine gC 56 ?_; refine RGl.row (Γ1 := fun _ => []) (fun e hk => OpT.callN (rbytes_t h.dst)) ?_) | (refine gC 59 ?_; refine RGl.vl (fun e hk => OpT.callN (c1 _)) ?_) | (refine gD 64 ?_; refine RGl.rdX (fun e hk => by (try dsimp only [bndR, ensR, oksR, fcutR, List.append_nil, List.nil_append, List.cons_append, List.append_assoc] at hk ⊢); exact ReadR.convT hw1 rfl rfl) ?_) | (refine gD 67 ?_; refine RGl.rdX (fun e hk => by (try dsimp only [bndR, ensR, oksR, fcutR, List.append_nil, List.nil_append, List.cons_append, List.append_assoc] at hk ⊢); exact ReadR.convT hw2 rfl rfl) ?_) | (refine gOp ?_; first | refine RGl.rdA ?_ | refine RGl.rdX (fun e hk => by (try dsimp only [bndR, ensR, oksR, fcutR, List.append_nil, List.nil_append, List.cons_append, List.append_assoc] at hk ⊢); exact readB) ?_) | (refine gApp ?_; refine RGl.appA ?_) | (refine RGl.fin (fun e hk => ?_); (try dsimp only [bndA, ensAR, oksA, List.append_nil, List.nil_append, List.cons_append, List.append_assoc] at hk ⊢); (repeat (obtain ⟨hk1, hk⟩ := hk))) | fail)
   | (refine isCond ?_; first | refine WPc.cT ?_ | refine WPc.cF ?_ | (refine WPc.cQ (fun hc => ?_) (fun hc => ?_) <;> try exact prA))
   | (refine isLit ?_; refine WPl.lit fun v hv => ?_)
   | (refine isD 72 ?_; refine WPl.app (h63 := by rw [List.length_set, List.length_set]; omega) fun v hv => ?_)
   | (refine isApp ?_; refine WPl.app fun w hw => ?_)
   | (refine isC 13 ?_; refine WPl.cV (g1) ?_)
   | (refine isC 19 ?_; refine WPl.cV (g2) ?_)
   | (refine isC 41 ?_; refine WPl.cR (rput_t _ (nbs [69, 0]) (20 + d.length) 2 (by omega) (by omega) (by simp [nbs])) fun v hv => ?_)
   | (refine isC 52 ?_; refine WPl.cR (rbytes_t h.src) fun v hv => ?_)
   | (refine isC 56 ?_; refine WPl.cR (rbytes_t h.dst) fun v hv => ?_)
   | (refine isC 59 ?_; refine WPl.cV (c1 _) ?_)
   | (refine isD 64 ?_; refine WPl.rdX (ReadR.convT hw1 rfl rfl) ?_)
   | (refine isD 67 ?_; refine WPl.rdX (ReadR.convT hw2 rfl rfl) ?_)
   | (refine isOp ?_; first | refine WPl.rd ?_ | refine WPl.sk ?_ | refine WPl.rdB ?_)
   | (refine isBx ?_; refine WPl.nw fun g => ?_)
   | (refine isSt ?_; first | refine WPl.st1 ?_ | refine WPl.stA ?_ | refine WPl.stEB ?_ | refine WPl.stRB ?_)
   | (show WPl _ _ _ _ _ _ _ (⟨_, .indexAddr _ _ _, _, _, _, _⟩ :: _) _; refine WPl.rdX (ReadR.indexE rfl rfl hasA (by first | assumption | omega)) ?_)
   | (show WPl _ _ _ _ _ _ _ (⟨_, .fieldAddr _ _ _, _, _, _, _⟩ :: _) _; refine WPl.rdX (ReadR.fieldE rfl hasA (by first | assumption | omega)) ?_)
   | (show WPl _ _ _ _ _ _ _ (⟨_, .load _ _, _, _, _, _⟩ :: _) _; first | refine WPl.rdX (ReadR.loadE rfl hasA (by assumption)) ?_ | refine WPl.rdX (ReadR.loadES (by assumption) (by first | assumption | omega) rfl hasA) ?_)
   | (show WPl _ _ _ _ _ _ _ (⟨_, .slice _ _ _ _ _, _, _, _, _⟩ :: _) _; first | refine WPl.rdX (ReadR.sliceH rfl rfl hasA (by omega)) ?_ | refine WPl.rdX (ReadR.sliceL rfl rfl hasA (by omega)) ?_ | refine WPl.rdX (ReadR.sliceLH rfl rfl rfl hasA (by omega) (by omega)) ?_)
   | (refine WPl.spQ (fun hc => ?_) (fun hc => ?_) <;> try exact prA)
   | fail)
  all_goals try (first | exact WPq.dTp | exact WPq.dTs | exact WPq.dV | exact WPq.dR | exact WPq.dR2 | exact WPq.dH | exact WPq.dBH | exact WPq.dT)
end Go.Proofs.YtpilenbdimhegaaGreatDoor
/- Layer 15 (seg): what is summed, and reading: contracts. -/
namespace Go.Proofs.YtpilenbdimhegaaGreatDoor
open Go.RowKit
set_option linter.unusedSimpArgs false
set_option linter.unusedVariables false
set_option maxRecDepth 20000
set_option maxHeartbeats 4000000
attribute [local irreducible] WPc WPl WPq ReadR OpT BinR HasS bx rdN rowN Take Takes Prov Triple ResF BuildP Done ag Int.decLt Int.decLe Int.instDecidableEq

/-- What a segment is summed with. -/
def psu (h : Hd) (n : Nat) : List UInt8 :=
  if h.six then [h.src.bytes, h.dst.bytes].flatten ++ be n 4 ++ nbs [0, 0, 0, (h.proto.toNat : Nat)] else [h.src.bytes, h.dst.bytes].flatten ++ nbs [0, (h.proto.toNat : Nat)] ++ be n 2
theorem psu_len (h : Hd) (n : Nat) : (psu h n).length ≤ 40 := by
  have a1 := h.src.bytes_le
  have a2 := h.dst.bytes_le
  unfold psu
  split <;> simp [be_length, nbs] <;> omega
attribute [local irreducible] be
theorem pseudo_t (h : Hd) (k : Int) (n : Nat) (hkw : IntKind.u64.wrap k = (n : Int)) (hn : n < 18446744073709551616) : Triple Tryz.prog 165 #[ag (hdc h), .int .i64 k] [] (ROb (psu h n)) := by
  have l1 := h.src.len
  have l2 := h.dst.len
  have a1 := h.src.bytes_le
  have a2 := h.dst.bytes_le
  have hb4 := be_length n 4
  have hb2 := be_length n 2
  obtain ⟨p, hp⟩ : ∃ p, p = [h.src.bytes, h.dst.bytes].flatten := ⟨_, rfl⟩
  have hpl : p.length ≤ 32 := by rw [hp]; simp; omega
  cases hs : h.six with
  | true =>
    rw [show psu h n = p ++ be n 4 ++ nbs [0, 0, 0, (h.proto.toNat : Nat)] by unfold psu; rw [if_pos hs, hp]]
    refine Triple.enter Tryz.func165 rfl Tryz.ntmps165 rfl (fun W => ?_)
    dsimp only [argsF, Nat.reduceAdd]
    repeat' (first
     | refine WPl.nil ?_ | refine WPq.then ?_ | refine WPq.thenR ?_ | refine WPq.thenE ?_ | refine WPq.blockN ?_ | refine WPq.blockR ?_ | refine WPq.blockE ?_ | refine WPq.blockO rfl ?_ | refine WPc.seq ?_ | refine WPc.block ?_ | refine WPc.ret ?_ | refine WPc.exit ?_ | refine WPc.skip ?_ | refine WPc.region ?_
     | (refine isReg 1 ?_; refine WPc.drA [([], [9, 10]), ([0], [6, 9, 10]), ([0, 1], [6, 7, 9, 10]), ([], [6, 7, 8]), ([3], [6, 7, 8, 9]), ([0, 1, 2, 3, 4], [6, 7, 8, 9, 10]), ([0, 1, 2, 3, 4, 5], [6, 7, 8, 9, 10, 11]), ([0, 1, 2, 3, 4, 5, 6], [6, 7, 8, 9, 10, 11, 12]), ([0, 1, 2, 3, 4, 5, 6, 7], [6, 7, 8, 9, 10, 11, 12, 13])] [] (Γx := []) ?_; dsimp only [prev0, List.length_nil, List.length_cons])
     | (refine isReg 3 ?_; refine WPc.drA [([], [17, 18, 20, 21, 22]), ([], [16, 20, 21, 22]), ([1], [16, 17, 20, 21, 22]), ([0, 1, 2], [16, 17, 18, 20, 21, 22]), ([], [16, 17, 18, 19]), ([4], [16, 17, 18, 19, 20]), ([4, 5], [16, 17, 18, 19, 20, 21]), ([0, 1, 2, 3, 4, 5, 6], [16, 17, 18, 19, 20, 21, 22]), ([0, 1, 2, 3, 4, 5, 6, 7], [16, 17, 18, 19, 20, 21, 22, 23])] [(3, 7)] (Γx := []) ?_; dsimp only [prev0, List.length_nil, List.length_cons])
     | (refine gAny ?_; first | (refine gC 8 ?_; refine RGl.row (Γ1 := fun _ => []) (fun e hk => OpT.callN (addrBytes_t h.src)) ?_) | (refine gC 11 ?_; refine RGl.row (Γ1 := fun _ => []) (fun e hk => OpT.callN (addrBytes_t h.dst)) ?_) | (refine gC 13 ?_; refine RGl.row (Γ1 := fun _ => []) (fun e hk => OpT.callN (bytesE_t _ [_, _] [h.src.bytes, h.dst.bytes] p hp.symm rfl (by simp; omega) (by simp))) ?_) | (refine gC 19 ?_; refine RGl.row (Γ1 := fun _ => []) (fun e hk => OpT.callN (put_t _ p n 4 (by omega) (by omega) (by omega) (by omega))) ?_) | (refine gD 18 ?_; refine RGl.rdX (fun e hk => by (try dsimp only [bndR, ensR, oksR, fcutR, List.append_nil, List.nil_append, List.cons_append, List.append_assoc] at hk ⊢); exact ReadR.convT hkw rfl rfl) ?_) | (refine gOp ?_; first | refine RGl.rdA ?_ | refine RGl.rdX (fun e hk => by (try dsimp only [bndR, ensR, oksR, fcutR, List.append_nil, List.nil_append, List.cons_append, List.append_assoc] at hk ⊢); exact readB) ?_) | (refine gLit ?_; refine RGl.litA ?_) | (refine gApp ?_; refine RGl.appA ?_) | (refine RGl.fin (fun e hk => ?_); (try dsimp only [bndA, ensAR, oksA, List.append_nil, List.nil_append, List.cons_append, List.append_assoc] at hk ⊢); (repeat (obtain ⟨hk1, hk⟩ := hk))) | fail)
     | (refine isCond ?_; first | refine WPc.cT ?_ | refine WPc.cF ?_ | (refine WPc.cQ (fun hc => ?_) (fun hc => ?_) <;> try exact prA))
     | (refine isLit ?_; refine WPl.lit fun v hv => ?_)
     | (refine isLit ?_; refine WPl.lits fun v hv => ?_)
     | (refine isApp ?_; refine WPl.app fun v hv => ?_)
     | (refine isC 8 ?_; refine WPl.cR (addrBytes_t h.src) fun v hv => ?_)
     | (refine isC 11 ?_; refine WPl.cR (addrBytes_t h.dst) fun v hv => ?_)
     | (refine isC 13 ?_; refine WPl.cR (bytesE_t _ [_, _] [h.src.bytes, h.dst.bytes] p hp.symm rfl (by simp; omega) (by simp)) fun v hv => ?_)
     | (refine isD 18 ?_; refine WPl.rdX (ReadR.convT hkw rfl rfl) ?_)
     | (refine isC 19 ?_; refine WPl.cR (put_t _ p n 4 (by omega) (by omega) (by omega) (by omega)) fun v hv => ?_)
     | (refine isOp ?_; first | refine WPl.rd ?_ | refine WPl.sk ?_ | refine WPl.rdB ?_)
     | (refine isBx ?_; refine WPl.nw fun g => ?_)
     | (show WPl _ _ _ _ _ _ _ (⟨_, .indexAddr _ _ _, _, _, _, _⟩ :: _) _; refine WPl.rdX (ReadR.indexE rfl rfl hasA (by first | assumption | omega)) ?_)
     | (show WPl _ _ _ _ _ _ _ (⟨_, .fieldAddr _ _ _, _, _, _, _⟩ :: _) _; refine WPl.rdX (ReadR.fieldE rfl hasA (by first | assumption | omega)) ?_)
     | (show WPl _ _ _ _ _ _ _ (⟨_, .load _ _, _, _, _, _⟩ :: _) _; first | refine WPl.rdX (ReadR.loadE rfl hasA (by assumption)) ?_ | refine WPl.rdX (ReadR.loadES (by assumption) (by first | assumption | omega) rfl hasA) ?_)
     | (show WPl _ _ _ _ _ _ _ (⟨_, .slice _ _ _ _ _, _, _, _, _⟩ :: _) _; first | refine WPl.rdX (ReadR.sliceH rfl rfl hasA (by omega)) ?_ | refine WPl.rdX (ReadR.sliceL rfl rfl hasA (by omega)) ?_ | refine WPl.rdX (ReadR.sliceLH rfl rfl rfl hasA (by omega) (by omega)) ?_)
     | (refine WPl.spQ (fun hc => ?_) (fun hc => ?_) <;> try exact prA)
     | fail)
    all_goals try (first | exact WPq.dTp | exact WPq.dTs | exact WPq.dV | exact WPq.dR | exact WPq.dR2 | exact WPq.dH | exact WPq.dBH | exact WPq.dT)
  | false =>
    rw [show psu h n = p ++ nbs [0, (h.proto.toNat : Nat)] ++ be n 2 by unfold psu; rw [if_neg (by rw [hs]; decide), hp]]
    refine Triple.enter Tryz.func165 rfl Tryz.ntmps165 rfl (fun W => ?_)
    dsimp only [argsF, Nat.reduceAdd]
    repeat' (first
     | refine WPl.nil ?_ | refine WPq.then ?_ | refine WPq.thenR ?_ | refine WPq.thenE ?_ | refine WPq.blockN ?_ | refine WPq.blockR ?_ | refine WPq.blockE ?_ | refine WPq.blockO rfl ?_ | refine WPc.seq ?_ | refine WPc.block ?_ | refine WPc.ret ?_ | refine WPc.exit ?_ | refine WPc.skip ?_ | refine WPc.region ?_
     | (refine isReg 1 ?_; refine WPc.drA [([], [9, 10]), ([0], [6, 9, 10]), ([0, 1], [6, 7, 9, 10]), ([], [6, 7, 8]), ([3], [6, 7, 8, 9]), ([0, 1, 2, 3, 4], [6, 7, 8, 9, 10]), ([0, 1, 2, 3, 4, 5], [6, 7, 8, 9, 10, 11]), ([0, 1, 2, 3, 4, 5, 6], [6, 7, 8, 9, 10, 11, 12]), ([0, 1, 2, 3, 4, 5, 6, 7], [6, 7, 8, 9, 10, 11, 12, 13])] [] (Γx := []) ?_; dsimp only [prev0, List.length_nil, List.length_cons])
     | (refine isReg 3 ?_; refine WPc.drA [([], [17, 18, 20, 21, 22]), ([], [16, 20, 21, 22]), ([1], [16, 17, 20, 21, 22]), ([0, 1, 2], [16, 17, 18, 20, 21, 22]), ([], [16, 17, 18, 19]), ([4], [16, 17, 18, 19, 20]), ([4, 5], [16, 17, 18, 19, 20, 21]), ([0, 1, 2, 3, 4, 5, 6], [16, 17, 18, 19, 20, 21, 22]), ([0, 1, 2, 3, 4, 5, 6, 7], [16, 17, 18, 19, 20, 21, 22, 23])] [(3, 7)] (Γx := []) ?_; dsimp only [prev0, List.length_nil, List.length_cons])
     | (refine gAny ?_; first | (refine gC 8 ?_; refine RGl.row (Γ1 := fun _ => []) (fun e hk => OpT.callN (addrBytes_t h.src)) ?_) | (refine gC 11 ?_; refine RGl.row (Γ1 := fun _ => []) (fun e hk => OpT.callN (addrBytes_t h.dst)) ?_) | (refine gC 13 ?_; refine RGl.row (Γ1 := fun _ => []) (fun e hk => OpT.callN (bytesE_t _ [_, _] [h.src.bytes, h.dst.bytes] p hp.symm rfl (by simp; omega) (by simp))) ?_) | (refine gC 31 ?_; refine RGl.row (Γ1 := fun _ => []) (fun e hk => OpT.callN (put_t _ (p ++ nbs [0, (h.proto.toNat : Nat)]) n 2 (by simp [nbs]; omega) (by omega) (by omega) (by omega))) ?_) | (refine gD 30 ?_; refine RGl.rdX (fun e hk => by (try dsimp only [bndR, ensR, oksR, fcutR, List.append_nil, List.nil_append, List.cons_append, List.append_assoc] at hk ⊢); exact ReadR.convT hkw rfl rfl) ?_) | (refine gOp ?_; first | refine RGl.rdA ?_ | refine RGl.rdX (fun e hk => by (try dsimp only [bndR, ensR, oksR, fcutR, List.append_nil, List.nil_append, List.cons_append, List.append_assoc] at hk ⊢); exact readB) ?_) | (refine gLit ?_; refine RGl.litA ?_) | (refine gApp ?_; refine RGl.appA ?_) | (refine RGl.fin (fun e hk => ?_); (try dsimp only [bndA, ensAR, oksA, List.append_nil, List.nil_append, List.cons_append, List.append_assoc] at hk ⊢); (repeat (obtain ⟨hk1, hk⟩ := hk))) | fail)
     | (refine isCond ?_; first | refine WPc.cT ?_ | refine WPc.cF ?_ | (refine WPc.cQ (fun hc => ?_) (fun hc => ?_) <;> try exact prA))
     | (refine isLit ?_; refine WPl.lit fun v hv => ?_)
     | (refine isLit ?_; refine WPl.lits fun v hv => ?_)
     | (refine isApp ?_; refine WPl.app fun v hv => ?_)
     | (refine isC 8 ?_; refine WPl.cR (addrBytes_t h.src) fun v hv => ?_)
     | (refine isC 11 ?_; refine WPl.cR (addrBytes_t h.dst) fun v hv => ?_)
     | (refine isC 13 ?_; refine WPl.cR (bytesE_t _ [_, _] [h.src.bytes, h.dst.bytes] p hp.symm rfl (by simp; omega) (by simp)) fun v hv => ?_)
     | (refine isD 30 ?_; refine WPl.rdX (ReadR.convT hkw rfl rfl) ?_)
     | (refine isC 31 ?_; refine WPl.cR (put_t _ (p ++ nbs [0, (h.proto.toNat : Nat)]) n 2 (by simp [nbs]; omega) (by omega) (by omega) (by omega)) fun v hv => ?_)
     | (refine isOp ?_; first | refine WPl.rd ?_ | refine WPl.sk ?_ | refine WPl.rdB ?_)
     | (refine isBx ?_; refine WPl.nw fun g => ?_)
     | (show WPl _ _ _ _ _ _ _ (⟨_, .indexAddr _ _ _, _, _, _, _⟩ :: _) _; refine WPl.rdX (ReadR.indexE rfl rfl hasA (by first | assumption | omega)) ?_)
     | (show WPl _ _ _ _ _ _ _ (⟨_, .fieldAddr _ _ _, _, _, _, _⟩ :: _) _; refine WPl.rdX (ReadR.fieldE rfl hasA (by first | assumption | omega)) ?_)
     | (show WPl _ _ _ _ _ _ _ (⟨_, .load _ _, _, _, _, _⟩ :: _) _; first | refine WPl.rdX (ReadR.loadE rfl hasA (by assumption)) ?_ | refine WPl.rdX (ReadR.loadES (by assumption) (by first | assumption | omega) rfl hasA) ?_)
     | (show WPl _ _ _ _ _ _ _ (⟨_, .slice _ _ _ _ _, _, _, _, _⟩ :: _) _; first | refine WPl.rdX (ReadR.sliceH rfl rfl hasA (by omega)) ?_ | refine WPl.rdX (ReadR.sliceL rfl rfl hasA (by omega)) ?_ | refine WPl.rdX (ReadR.sliceLH rfl rfl rfl hasA (by omega) (by omega)) ?_)
     | (refine WPl.spQ (fun hc => ?_) (fun hc => ?_) <;> try exact prA)
     | fail)
    all_goals try (first | exact WPq.dTp | exact WPq.dTs | exact WPq.dV | exact WPq.dR | exact WPq.dR2 | exact WPq.dH | exact WPq.dBH | exact WPq.dT)
theorem rpseudo_t (h : Hd) (k : Int) (n : Nat) (hkw : IntKind.u64.wrap k = (n : Int)) (hn : n < 18446744073709551616) : Triple Tryz.prog 98 #[ag (hdc h), .int .i64 k] [] (ROb (psu h n)) := by
  have l1 := h.src.len
  have l2 := h.dst.len
  have a1 := h.src.bytes_le
  have a2 := h.dst.bytes_le
  have hb4 := be_length n 4
  have hb2 := be_length n 2
  have hpe : [h.src.bytes, h.dst.bytes].flatten = h.src.bytes ++ h.dst.bytes := by simp
  cases hs : h.six with
  | true =>
    rw [show psu h n = h.src.bytes ++ h.dst.bytes ++ be n 4 ++ nbs [0, 0, 0, (h.proto.toNat : Nat)] by unfold psu; rw [if_pos hs, hpe]]
    refine Triple.enter Tryz.func98 rfl Tryz.ntmps98 rfl (fun W => ?_)
    dsimp only [argsF, Nat.reduceAdd]
    repeat' (first
     | refine WPl.nil ?_ | refine WPq.then ?_ | refine WPq.thenR ?_ | refine WPq.thenE ?_ | refine WPq.blockN ?_ | refine WPq.blockR ?_ | refine WPq.blockE ?_ | refine WPq.blockO rfl ?_ | refine WPc.seq ?_ | refine WPc.block ?_ | refine WPc.ret ?_ | refine WPc.exit ?_ | refine WPc.skip ?_ | refine WPc.region ?_
     | (refine isReg 1 ?_; refine WPc.drA [([], [9, 10]), ([0], [6, 9, 10]), ([0, 1], [6, 7, 9, 10]), ([], [6, 7, 8]), ([3], [6, 7, 8, 9]), ([0, 1, 2, 3, 4], [6, 7, 8, 9, 10]), ([0, 1, 2, 3, 4, 5], [6, 7, 8, 9, 10, 11]), ([0, 1, 2, 3, 4, 5, 6], [6, 7, 8, 9, 10, 11, 12])] [(2, 6), (2, 5)] (Γx := []) ?_; dsimp only [prev0, List.length_nil, List.length_cons])
     | (refine isReg 3 ?_; refine WPc.drA [([], [16, 17, 19, 20, 21]), ([], [15, 19, 20, 21]), ([1], [15, 16, 19, 20, 21]), ([0, 1, 2], [15, 16, 17, 19, 20, 21]), ([], [15, 16, 17, 18]), ([4], [15, 16, 17, 18, 19]), ([4, 5], [15, 16, 17, 18, 19, 20]), ([0, 1, 2, 3, 4, 5, 6], [15, 16, 17, 18, 19, 20, 21]), ([0, 1, 2, 3, 4, 5, 6, 7], [15, 16, 17, 18, 19, 20, 21, 22])] [(3, 7)] (Γx := []) ?_; dsimp only [prev0, List.length_nil, List.length_cons])
     | (refine gAny ?_; first | (refine gC 8 ?_; refine RGl.row (Γ1 := fun _ => []) (fun e hk => OpT.callN (rbytes_t h.src)) ?_) | (refine gC 11 ?_; refine RGl.row (Γ1 := fun _ => []) (fun e hk => OpT.callN (rbytes_t h.dst)) ?_) | (refine gC 18 ?_; refine RGl.row (Γ1 := fun _ => []) (fun e hk => OpT.callN (rput_t _ (h.src.bytes ++ h.dst.bytes) n 4 (by omega) (by omega) (by simp; omega))) ?_) | (refine gD 17 ?_; refine RGl.rdX (fun e hk => by (try dsimp only [bndR, ensR, oksR, fcutR, List.append_nil, List.nil_append, List.cons_append, List.append_assoc] at hk ⊢); exact ReadR.convT hkw rfl rfl) ?_) | (refine gOp ?_; first | refine RGl.rdA ?_ | refine RGl.rdX (fun e hk => by (try dsimp only [bndR, ensR, oksR, fcutR, List.append_nil, List.nil_append, List.cons_append, List.append_assoc] at hk ⊢); exact readB) ?_) | (refine gLit ?_; refine RGl.litA ?_) | (refine gApp ?_; refine RGl.appA ?_) | (refine RGl.fin (fun e hk => ?_); (try dsimp only [bndA, ensAR, oksA, List.append_nil, List.nil_append, List.cons_append, List.append_assoc] at hk ⊢); (repeat (obtain ⟨hk1, hk⟩ := hk))) | fail)
     | (refine isCond ?_; first | refine WPc.cT ?_ | refine WPc.cF ?_ | (refine WPc.cQ (fun hc => ?_) (fun hc => ?_) <;> try exact prA))
     | (refine isLit ?_; refine WPl.lit fun v hv => ?_)
     | (refine isApp ?_; refine WPl.app fun v hv => ?_)
     | (refine isC 8 ?_; refine WPl.cR (rbytes_t h.src) fun v hv => ?_)
     | (refine isC 11 ?_; refine WPl.cR (rbytes_t h.dst) fun v hv => ?_)
     | (refine isD 17 ?_; refine WPl.rdX (ReadR.convT hkw rfl rfl) ?_)
     | (refine isC 18 ?_; refine WPl.cR (rput_t _ (h.src.bytes ++ h.dst.bytes) n 4 (by omega) (by omega) (by simp; omega)) fun v hv => ?_)
     | (refine isOp ?_; first | refine WPl.rd ?_ | refine WPl.sk ?_ | refine WPl.rdB ?_)
     | (refine isBx ?_; refine WPl.nw fun g => ?_)
     | (show WPl _ _ _ _ _ _ _ (⟨_, .indexAddr _ _ _, _, _, _, _⟩ :: _) _; refine WPl.rdX (ReadR.indexE rfl rfl hasA (by first | assumption | omega)) ?_)
     | (show WPl _ _ _ _ _ _ _ (⟨_, .fieldAddr _ _ _, _, _, _, _⟩ :: _) _; refine WPl.rdX (ReadR.fieldE rfl hasA (by first | assumption | omega)) ?_)
     | (show WPl _ _ _ _ _ _ _ (⟨_, .load _ _, _, _, _, _⟩ :: _) _; first | refine WPl.rdX (ReadR.loadE rfl hasA (by assumption)) ?_ | refine WPl.rdX (ReadR.loadES (by assumption) (by first | assumption | omega) rfl hasA) ?_)
     | (show WPl _ _ _ _ _ _ _ (⟨_, .slice _ _ _ _ _, _, _, _, _⟩ :: _) _; first | refine WPl.rdX (ReadR.sliceH rfl rfl hasA (by omega)) ?_ | refine WPl.rdX (ReadR.sliceL rfl rfl hasA (by omega)) ?_ | refine WPl.rdX (ReadR.sliceLH rfl rfl rfl hasA (by omega) (by omega)) ?_)
     | (refine WPl.spQ (fun hc => ?_) (fun hc => ?_) <;> try exact prA)
     | fail)
    all_goals try (first | exact WPq.dTp | exact WPq.dTs | exact WPq.dV | exact WPq.dR | exact WPq.dR2 | exact WPq.dH | exact WPq.dBH | exact WPq.dT)
  | false =>
    rw [show psu h n = h.src.bytes ++ h.dst.bytes ++ nbs [0, (h.proto.toNat : Nat)] ++ be n 2 by unfold psu; rw [if_neg (by rw [hs]; decide), hpe]]
    refine Triple.enter Tryz.func98 rfl Tryz.ntmps98 rfl (fun W => ?_)
    dsimp only [argsF, Nat.reduceAdd]
    repeat' (first
     | refine WPl.nil ?_ | refine WPq.then ?_ | refine WPq.thenR ?_ | refine WPq.thenE ?_ | refine WPq.blockN ?_ | refine WPq.blockR ?_ | refine WPq.blockE ?_ | refine WPq.blockO rfl ?_ | refine WPc.seq ?_ | refine WPc.block ?_ | refine WPc.ret ?_ | refine WPc.exit ?_ | refine WPc.skip ?_ | refine WPc.region ?_
     | (refine isReg 1 ?_; refine WPc.drA [([], [9, 10]), ([0], [6, 9, 10]), ([0, 1], [6, 7, 9, 10]), ([], [6, 7, 8]), ([3], [6, 7, 8, 9]), ([0, 1, 2, 3, 4], [6, 7, 8, 9, 10]), ([0, 1, 2, 3, 4, 5], [6, 7, 8, 9, 10, 11]), ([0, 1, 2, 3, 4, 5, 6], [6, 7, 8, 9, 10, 11, 12])] [(2, 6), (2, 5)] (Γx := []) ?_; dsimp only [prev0, List.length_nil, List.length_cons])
     | (refine isReg 3 ?_; refine WPc.drA [([], [16, 17, 19, 20, 21]), ([], [15, 19, 20, 21]), ([1], [15, 16, 19, 20, 21]), ([0, 1, 2], [15, 16, 17, 19, 20, 21]), ([], [15, 16, 17, 18]), ([4], [15, 16, 17, 18, 19]), ([4, 5], [15, 16, 17, 18, 19, 20]), ([0, 1, 2, 3, 4, 5, 6], [15, 16, 17, 18, 19, 20, 21]), ([0, 1, 2, 3, 4, 5, 6, 7], [15, 16, 17, 18, 19, 20, 21, 22])] [(3, 7)] (Γx := []) ?_; dsimp only [prev0, List.length_nil, List.length_cons])
     | (refine gAny ?_; first | (refine gC 8 ?_; refine RGl.row (Γ1 := fun _ => []) (fun e hk => OpT.callN (rbytes_t h.src)) ?_) | (refine gC 11 ?_; refine RGl.row (Γ1 := fun _ => []) (fun e hk => OpT.callN (rbytes_t h.dst)) ?_) | (refine gC 30 ?_; refine RGl.row (Γ1 := fun _ => []) (fun e hk => OpT.callN (rput_t _ (h.src.bytes ++ h.dst.bytes ++ nbs [0, (h.proto.toNat : Nat)]) n 2 (by omega) (by omega) (by simp [nbs]; omega))) ?_) | (refine gD 29 ?_; refine RGl.rdX (fun e hk => by (try dsimp only [bndR, ensR, oksR, fcutR, List.append_nil, List.nil_append, List.cons_append, List.append_assoc] at hk ⊢); exact ReadR.convT hkw rfl rfl) ?_) | (refine gOp ?_; first | refine RGl.rdA ?_ | refine RGl.rdX (fun e hk => by (try dsimp only [bndR, ensR, oksR, fcutR, List.append_nil, List.nil_append, List.cons_append, List.append_assoc] at hk ⊢); exact readB) ?_) | (refine gLit ?_; refine RGl.litA ?_) | (refine gApp ?_; refine RGl.appA ?_) | (refine RGl.fin (fun e hk => ?_); (try dsimp only [bndA, ensAR, oksA, List.append_nil, List.nil_append, List.cons_append, List.append_assoc] at hk ⊢); (repeat (obtain ⟨hk1, hk⟩ := hk))) | fail)
     | (refine isCond ?_; first | refine WPc.cT ?_ | refine WPc.cF ?_ | (refine WPc.cQ (fun hc => ?_) (fun hc => ?_) <;> try exact prA))
     | (refine isLit ?_; refine WPl.lit fun v hv => ?_)
     | (refine isApp ?_; refine WPl.app fun v hv => ?_)
     | (refine isC 8 ?_; refine WPl.cR (rbytes_t h.src) fun v hv => ?_)
     | (refine isC 11 ?_; refine WPl.cR (rbytes_t h.dst) fun v hv => ?_)
     | (refine isD 29 ?_; refine WPl.rdX (ReadR.convT hkw rfl rfl) ?_)
     | (refine isC 30 ?_; refine WPl.cR (rput_t _ (h.src.bytes ++ h.dst.bytes ++ nbs [0, (h.proto.toNat : Nat)]) n 2 (by omega) (by omega) (by simp [nbs]; omega)) fun v hv => ?_)
     | (refine isOp ?_; first | refine WPl.rd ?_ | refine WPl.sk ?_ | refine WPl.rdB ?_)
     | (refine isBx ?_; refine WPl.nw fun g => ?_)
     | (show WPl _ _ _ _ _ _ _ (⟨_, .indexAddr _ _ _, _, _, _, _⟩ :: _) _; refine WPl.rdX (ReadR.indexE rfl rfl hasA (by first | assumption | omega)) ?_)
     | (show WPl _ _ _ _ _ _ _ (⟨_, .fieldAddr _ _ _, _, _, _, _⟩ :: _) _; refine WPl.rdX (ReadR.fieldE rfl hasA (by first | assumption | omega)) ?_)
     | (show WPl _ _ _ _ _ _ _ (⟨_, .load _ _, _, _, _, _⟩ :: _) _; first | refine WPl.rdX (ReadR.loadE rfl hasA (by assumption)) ?_ | refine WPl.rdX (ReadR.loadES (by assumption) (by first | assumption | omega) rfl hasA) ?_)
     | (show WPl _ _ _ _ _ _ _ (⟨_, .slice _ _ _ _ _, _, _, _, _⟩ :: _) _; first | refine WPl.rdX (ReadR.sliceH rfl rfl hasA (by omega)) ?_ | refine WPl.rdX (ReadR.sliceL rfl rfl hasA (by omega)) ?_ | refine WPl.rdX (ReadR.sliceLH rfl rfl rfl hasA (by omega) (by omega)) ?_)
     | (refine WPl.spQ (fun hc => ?_) (fun hc => ?_) <;> try exact prA)
     | fail)
    all_goals try (first | exact WPq.dTp | exact WPq.dTs | exact WPq.dV | exact WPq.dR | exact WPq.dR2 | exact WPq.dH | exact WPq.dBH | exact WPq.dT)
attribute [local irreducible] psu
def sgood (h : Hd) (b : List UInt8) : Bool := decide (csum (psu h b.length ++ b) = 0)
theorem wrapLen {n : Nat} (h : n < 9223372036854775808) : IntKind.u64.wrap ((n : Nat) : Int) = (n : Int) := by rw [IntKind.wrap_u64]; omega
theorem sgood_t (h : Hd) (vb : Value) (b : List UInt8) (hl : b.length ≤ 100000) : Triple Tryz.prog 141 #[ag (hdc h), vb] [rb vb b] (RVal (.bool (sgood h b))) := by
  have l1 := h.src.len
  have l2 := h.dst.len
  have hp := psu_len h b.length
  refine Triple.enter Tryz.func141 rfl Tryz.ntmps141 rfl (fun W => ?_)
  dsimp only [argsF, Nat.reduceAdd]
  repeat' (first
   | refine WPl.nil ?_ | refine WPq.then ?_ | refine WPq.thenR ?_ | refine WPq.thenE ?_ | refine WPq.blockN ?_ | refine WPq.blockR ?_ | refine WPq.blockE ?_ | refine WPq.blockO rfl ?_ | refine WPc.seq ?_ | refine WPc.block ?_ | refine WPc.ret ?_ | refine WPc.exit ?_ | refine WPc.skip ?_ | refine WPc.region ?_
   | (refine isCond ?_; first | refine WPc.cT ?_ | refine WPc.cF ?_ | (refine WPc.cQ (fun hc => ?_) (fun hc => ?_) <;> try exact prA))
   | (refine isLit ?_; refine WPl.lits fun v hv => ?_)
   | (refine isC 8 ?_; refine WPl.cR (pseudo_t h b.length b.length (wrapLen (by omega)) (by omega)) fun v hv => ?_)
   | (refine isC 11 ?_; refine WPl.cV (igood_t _ [_, _] [psu h b.length, b] (sgood h b) (by simp [sgood]) rfl (by simp; omega) (by simp)) ?_)
   | (refine isOp ?_; first | refine WPl.rd ?_ | refine WPl.sk ?_ | refine WPl.rdB ?_)
   | (refine isBx ?_; refine WPl.nw fun g => ?_)
   | (show WPl _ _ _ _ _ _ _ (⟨_, .indexAddr _ _ _, _, _, _, _⟩ :: _) _; refine WPl.rdX (ReadR.indexE rfl rfl hasA (by first | assumption | omega)) ?_)
   | (show WPl _ _ _ _ _ _ _ (⟨_, .fieldAddr _ _ _, _, _, _, _⟩ :: _) _; refine WPl.rdX (ReadR.fieldE rfl hasA (by first | assumption | omega)) ?_)
   | (show WPl _ _ _ _ _ _ _ (⟨_, .load _ _, _, _, _, _⟩ :: _) _; first | refine WPl.rdX (ReadR.loadE rfl hasA (by assumption)) ?_ | refine WPl.rdX (ReadR.loadES (by assumption) (by first | assumption | omega) rfl hasA) ?_)
   | (show WPl _ _ _ _ _ _ _ (⟨_, .slice _ _ _ _ _, _, _, _, _⟩ :: _) _; first | refine WPl.rdX (ReadR.sliceH rfl rfl hasA (by omega)) ?_ | refine WPl.rdX (ReadR.sliceL rfl rfl hasA (by omega)) ?_ | refine WPl.rdX (ReadR.sliceLH rfl rfl rfl hasA (by omega) (by omega)) ?_)
   | (refine WPl.spQ (fun hc => ?_) (fun hc => ?_) <;> try exact prA)
   | fail)
  all_goals try (first | exact WPq.dTp | exact WPq.dTs | exact WPq.dV | exact WPq.dR | exact WPq.dR2 | exact WPq.dH | exact WPq.dBH | exact WPq.dT)
theorem port_t (vb : Value) (b : List UInt8) (k : Nat) (hk : k + 2 ≤ b.length) (hl : b.length ≤ 100000) : Triple Tryz.prog 108 #[vb, .int .i64 (k : Int)] [rb vb b] (RVal (.int .u16 (val (seg b k 2) : Nat))) := by
  have hv := val2_lt (l := b) (k := k)
  refine Triple.enter Tryz.func108 rfl Tryz.ntmps108 rfl (fun W => ?_)
  dsimp only [argsF, Nat.reduceAdd]
  repeat' (first
   | refine WPl.nil ?_ | refine WPq.then ?_ | refine WPq.thenR ?_ | refine WPq.thenE ?_ | refine WPq.blockN ?_ | refine WPq.blockR ?_ | refine WPq.blockE ?_ | refine WPq.blockO rfl ?_ | refine WPc.seq ?_ | refine WPc.block ?_ | refine WPc.ret ?_ | refine WPc.exit ?_ | refine WPc.skip ?_ | refine WPc.region ?_
   | (refine isCond ?_; first | refine WPc.cT ?_ | refine WPc.cF ?_ | (refine WPc.cQ (fun hc => ?_) (fun hc => ?_) <;> try exact prA))
   | (refine isC 10 ?_; refine WPl.cV (get_t vb b k 2 (by omega) (by omega) (by omega) (by omega)) ?_)
   | (refine isOp ?_; first | refine WPl.rd ?_ | refine WPl.sk ?_ | refine WPl.rdB ?_)
   | (show WPl _ _ _ _ _ _ _ (⟨_, .indexAddr _ _ _, _, _, _, _⟩ :: _) _; refine WPl.rdX (ReadR.indexE rfl rfl hasA (by first | assumption | omega)) ?_)
   | (show WPl _ _ _ _ _ _ _ (⟨_, .fieldAddr _ _ _, _, _, _, _⟩ :: _) _; refine WPl.rdX (ReadR.fieldE rfl hasA (by first | assumption | omega)) ?_)
   | (show WPl _ _ _ _ _ _ _ (⟨_, .load _ _, _, _, _, _⟩ :: _) _; first | refine WPl.rdX (ReadR.loadE rfl hasA (by assumption)) ?_ | refine WPl.rdX (ReadR.loadES (by assumption) (by first | assumption | omega) rfl hasA) ?_)
   | (show WPl _ _ _ _ _ _ _ (⟨_, .slice _ _ _ _ _, _, _, _, _⟩ :: _) _; first | refine WPl.rdX (ReadR.sliceH rfl rfl hasA (by omega)) ?_ | refine WPl.rdX (ReadR.sliceL rfl rfl hasA (by omega)) ?_ | refine WPl.rdX (ReadR.sliceLH rfl rfl rfl hasA (by omega) (by omega)) ?_)
   | (refine WPl.spQ (fun hc => ?_) (fun hc => ?_) <;> try exact prA)
   | fail)
  all_goals try (first | exact WPq.dTp | exact WPq.dTs | exact WPq.dV | exact WPq.dR | exact WPq.dR2 | exact WPq.dH | exact WPq.dBH | exact WPq.dT)
/-- A segment's head. -/
structure Sg where
  src : Nat
  dst : Nat
  flags : UInt8
  sumAt : Int
  zero : Bool
  data : Int
abbrev sgc (s : Sg) : Ch := [(1, [.int .u16 (s.src : Int)]), (1, [.int .u16 (s.dst : Int)]), (1, [.int .u8 ((s.flags.toNat : Nat) : Int)]), (1, [.int .i64 s.sumAt]), (1, [.bool s.zero]), (1, [.int .i64 s.data])]
def Sg.none : Sg := ⟨0, 0, 0, 0, false, 0⟩
def tN (b : List UInt8) : Nat := 4 * (byteN b 12 / 16)
def tcpE (h : Hd) (b : List UInt8) : Int := if b.length < 20 then 9 else if tN b < 20 then 4 else if b.length < tN b then 9 else if sgood h b = false then 5 else 0
def udpE (h : Hd) (b : List UInt8) : Int :=
  if b.length < 8 then 9 else if val (seg b 4 2) < 8 then 4 else if b.length < val (seg b 4 2) then 9 else if val (seg b 4 2) < b.length then 10
  else if val (seg b 6 2) = 0 ∧ h.six = true then 4 else if ¬ val (seg b 6 2) = 0 ∧ sgood h b = false then 5 else 0
def tcpS (b : List UInt8) : Sg := ⟨0, 0, b.getD 13 0, 16, false, tN b⟩
def udpS (b : List UInt8) : Sg := ⟨0, 0, 0, 6, decide (val (seg b 6 2) = 0), 8⟩
attribute [local irreducible] sgood
theorem tcp_no (h : Hd) (vb : Value) (b : List UInt8) (hl : b.length ≤ 100000) (he : tcpE h b ≠ 0) : Triple Tryz.prog 106 #[ag (hdc h), vb] [rb vb b] (RVal (.tuple #[ag (sgc Sg.none), .int .i64 (tcpE h b)])) := by
  have l1 := h.src.len
  have l2 := h.dst.len
  have u0 : byteN b 12 = (b.getD 12 0).toNat := rfl
  have hu := byteN_lt b 12
  have hg := sgood_t h vb b hl
  have htn : tN b = 4 * (byteN b 12 / 16) := rfl
  cases hsg : sgood h b with
  | true =>
    rw [hsg] at hg
    have h0 : tcpE h b = (if b.length < 20 then 9 else if tN b < 20 then 4 else if b.length < tN b then 9 else 0) := by unfold tcpE; rw [hsg]; simp
    rw [h0] at he ⊢
    have hne : b.length < 20 ∨ tN b < 20 ∨ b.length < tN b := by
      apply Classical.byContradiction
      intro hn
      apply he
      repeat' (first | omega | split)
    refine Triple.enter Tryz.func106 rfl Tryz.ntmps106 rfl (fun W => ?_)
    dsimp only [argsF, Nat.reduceAdd]
    repeat' (first
     | refine WPl.nil ?_ | refine WPq.then ?_ | refine WPq.thenR ?_ | refine WPq.thenE ?_ | refine WPq.blockN ?_ | refine WPq.blockR ?_ | refine WPq.blockE ?_ | refine WPq.blockO rfl ?_ | refine WPc.seq ?_ | refine WPc.block ?_ | refine WPc.ret ?_ | refine WPc.exit ?_ | refine WPc.skip ?_ | refine WPc.region ?_
     | (refine isCond ?_; first | refine WPc.cT ?_ | refine WPc.cF ?_ | (refine WPc.cQ (fun hc => ?_) (fun hc => ?_) <;> try exact prA))
     | (refine isC 30 ?_; refine WPl.cV (hg) ?_)
     | (refine isOp ?_; first | refine WPl.rd ?_ | refine WPl.sk ?_ | refine WPl.rdB ?_)
     | (refine isAl ?_; refine WPl.nw fun g => ?_)
     | (refine isBx ?_; refine WPl.nw fun g => ?_)
     | (refine isSt ?_; first | refine WPl.st1 ?_ | refine WPl.stA ?_ | refine WPl.stEB ?_ | refine WPl.stRB ?_)
     | (show WPl _ _ _ _ _ _ _ (⟨_, .indexAddr _ _ _, _, _, _, _⟩ :: _) _; refine WPl.rdX (ReadR.indexE rfl rfl hasA (by first | assumption | omega)) ?_)
     | (show WPl _ _ _ _ _ _ _ (⟨_, .fieldAddr _ _ _, _, _, _, _⟩ :: _) _; refine WPl.rdX (ReadR.fieldE rfl hasA (by first | assumption | omega)) ?_)
     | (show WPl _ _ _ _ _ _ _ (⟨_, .load _ _, _, _, _, _⟩ :: _) _; first | refine WPl.rdX (ReadR.loadE rfl hasA (by assumption)) ?_ | refine WPl.rdX (ReadR.loadES (by assumption) (by first | assumption | omega) rfl hasA) ?_)
     | (show WPl _ _ _ _ _ _ _ (⟨_, .slice _ _ _ _ _, _, _, _, _⟩ :: _) _; first | refine WPl.rdX (ReadR.sliceH rfl rfl hasA (by omega)) ?_ | refine WPl.rdX (ReadR.sliceL rfl rfl hasA (by omega)) ?_ | refine WPl.rdX (ReadR.sliceLH rfl rfl rfl hasA (by omega) (by omega)) ?_)
     | (refine WPl.spQ (fun hc => ?_) (fun hc => ?_) <;> try exact prA)
     | fail)
    all_goals
      refine WPq.dV (hc := ?_)
      show Value.tuple #[_, Value.int .i64 _] = Value.tuple #[_, Value.int .i64 _]
      congr 5
      repeat' (first | omega | split)
  | false =>
    rw [hsg] at hg
    have h0 : tcpE h b = (if b.length < 20 then 9 else if tN b < 20 then 4 else if b.length < tN b then 9 else 5) := by unfold tcpE; rw [hsg]; simp
    rw [h0]
    refine Triple.enter Tryz.func106 rfl Tryz.ntmps106 rfl (fun W => ?_)
    dsimp only [argsF, Nat.reduceAdd]
    repeat' (first
     | refine WPl.nil ?_ | refine WPq.then ?_ | refine WPq.thenR ?_ | refine WPq.thenE ?_ | refine WPq.blockN ?_ | refine WPq.blockR ?_ | refine WPq.blockE ?_ | refine WPq.blockO rfl ?_ | refine WPc.seq ?_ | refine WPc.block ?_ | refine WPc.ret ?_ | refine WPc.exit ?_ | refine WPc.skip ?_ | refine WPc.region ?_
     | (refine isCond ?_; first | refine WPc.cT ?_ | refine WPc.cF ?_ | (refine WPc.cQ (fun hc => ?_) (fun hc => ?_) <;> try exact prA))
     | (refine isC 30 ?_; refine WPl.cV (hg) ?_)
     | (refine isOp ?_; first | refine WPl.rd ?_ | refine WPl.sk ?_ | refine WPl.rdB ?_)
     | (refine isAl ?_; refine WPl.nw fun g => ?_)
     | (refine isBx ?_; refine WPl.nw fun g => ?_)
     | (refine isSt ?_; first | refine WPl.st1 ?_ | refine WPl.stA ?_ | refine WPl.stEB ?_ | refine WPl.stRB ?_)
     | (show WPl _ _ _ _ _ _ _ (⟨_, .indexAddr _ _ _, _, _, _, _⟩ :: _) _; refine WPl.rdX (ReadR.indexE rfl rfl hasA (by first | assumption | omega)) ?_)
     | (show WPl _ _ _ _ _ _ _ (⟨_, .fieldAddr _ _ _, _, _, _, _⟩ :: _) _; refine WPl.rdX (ReadR.fieldE rfl hasA (by first | assumption | omega)) ?_)
     | (show WPl _ _ _ _ _ _ _ (⟨_, .load _ _, _, _, _, _⟩ :: _) _; first | refine WPl.rdX (ReadR.loadE rfl hasA (by assumption)) ?_ | refine WPl.rdX (ReadR.loadES (by assumption) (by first | assumption | omega) rfl hasA) ?_)
     | (show WPl _ _ _ _ _ _ _ (⟨_, .slice _ _ _ _ _, _, _, _, _⟩ :: _) _; first | refine WPl.rdX (ReadR.sliceH rfl rfl hasA (by omega)) ?_ | refine WPl.rdX (ReadR.sliceL rfl rfl hasA (by omega)) ?_ | refine WPl.rdX (ReadR.sliceLH rfl rfl rfl hasA (by omega) (by omega)) ?_)
     | (refine WPl.spQ (fun hc => ?_) (fun hc => ?_) <;> try exact prA)
     | fail)
    all_goals
      refine WPq.dV (hc := ?_)
      show Value.tuple #[_, Value.int .i64 _] = Value.tuple #[_, Value.int .i64 _]
      congr 5
      repeat' (first | omega | split)
theorem tcp_yes (h : Hd) (vb : Value) (b : List UInt8) (hl : b.length ≤ 100000) (he : tcpE h b = 0) : Triple Tryz.prog 106 #[ag (hdc h), vb] [rb vb b] (RVal (.tuple #[ag (sgc (tcpS b)), .int .i64 0])) := by
  have l1 := h.src.len
  have l2 := h.dst.len
  have hu := byteN_lt b 12
  have hg := sgood_t h vb b hl
  have htn : tN b = 4 * (byteN b 12 / 16) := rfl
  have hmul : (4 : Int) * ((((b.getD 12 0).toNat : Nat) : Int) / 2 ^ 4) = ((tN b : Nat) : Int) := by rw [htn]; unfold byteN; omega
  have hf : 20 ≤ b.length ∧ 20 ≤ tN b ∧ tN b ≤ b.length ∧ sgood h b = true := by
    unfold tcpE at he
    repeat' (split at he)
    all_goals first | omega | (cases he; done) | skip
    exact ⟨by omega, by omega, by omega, by simpa using ‹¬ sgood h b = false›⟩
  obtain ⟨f1, f2, f3, f4⟩ := hf
  rw [f4] at hg
  refine Triple.enter Tryz.func106 rfl Tryz.ntmps106 rfl (fun W => ?_)
  dsimp only [argsF, Nat.reduceAdd]
  repeat' (first
   | refine WPl.nil ?_ | refine WPq.then ?_ | refine WPq.thenR ?_ | refine WPq.thenE ?_ | refine WPq.blockN ?_ | refine WPq.blockR ?_ | refine WPq.blockE ?_ | refine WPq.blockO rfl ?_ | refine WPc.seq ?_ | refine WPc.block ?_ | refine WPc.ret ?_ | refine WPc.exit ?_ | refine WPc.skip ?_ | refine WPc.region ?_
   | (refine isCond ?_; first | refine WPc.cT ?_ | refine WPc.cF ?_ | (refine WPc.cQ (fun hc => ?_) (fun hc => ?_) <;> try exact prA))
   | (refine isC 30 ?_; refine WPl.cV (hg) ?_)
   | (refine isD 16 ?_; refine WPl.rdX (ReadR.bin rfl rfl (BinR.mulT hmul (by simp only [kmin]; omega) (by simp only [kmax]; omega))) ?_)
   | (refine isOp ?_; first | refine WPl.rd ?_ | refine WPl.sk ?_ | refine WPl.rdB ?_)
   | (refine isAl ?_; refine WPl.nw fun g => ?_)
   | (refine isBx ?_; refine WPl.nw fun g => ?_)
   | (refine isSt ?_; first | refine WPl.st1 ?_ | refine WPl.stA ?_ | refine WPl.stEB ?_ | refine WPl.stRB ?_)
   | (show WPl _ _ _ _ _ _ _ (⟨_, .indexAddr _ _ _, _, _, _, _⟩ :: _) _; refine WPl.rdX (ReadR.indexE rfl rfl hasA (by first | assumption | omega)) ?_)
   | (show WPl _ _ _ _ _ _ _ (⟨_, .fieldAddr _ _ _, _, _, _, _⟩ :: _) _; refine WPl.rdX (ReadR.fieldE rfl hasA (by first | assumption | omega)) ?_)
   | (show WPl _ _ _ _ _ _ _ (⟨_, .load _ _, _, _, _, _⟩ :: _) _; first | refine WPl.rdX (ReadR.loadE rfl hasA (by assumption)) ?_ | refine WPl.rdX (ReadR.loadES (by assumption) (by first | assumption | omega) rfl hasA) ?_)
   | (show WPl _ _ _ _ _ _ _ (⟨_, .slice _ _ _ _ _, _, _, _, _⟩ :: _) _; first | refine WPl.rdX (ReadR.sliceH rfl rfl hasA (by omega)) ?_ | refine WPl.rdX (ReadR.sliceL rfl rfl hasA (by omega)) ?_ | refine WPl.rdX (ReadR.sliceLH rfl rfl rfl hasA (by omega) (by omega)) ?_)
   | (refine WPl.spQ (fun hc => ?_) (fun hc => ?_) <;> try exact prA)
   | fail)
  all_goals try (first | exact WPq.dTp | exact WPq.dTs | exact WPq.dV | exact WPq.dR | exact WPq.dR2 | exact WPq.dH | exact WPq.dBH | exact WPq.dT)
theorem udp_no (h : Hd) (vb : Value) (b : List UInt8) (hl : b.length ≤ 100000) (he : udpE h b ≠ 0) : Triple Tryz.prog 107 #[ag (hdc h), vb] [rb vb b] (RVal (.tuple #[ag (sgc Sg.none), .int .i64 (udpE h b)])) := by
  have l1 := h.src.len
  have l2 := h.dst.len
  have hv4 := val2_lt (l := b) (k := 4)
  have hv6 := val2_lt (l := b) (k := 6)
  have hg := sgood_t h vb b hl
  cases hsx : h.six with
  | true =>
    cases hsg : sgood h b with
    | true =>
      rw [hsg] at hg
      have h0 : udpE h b = (if b.length < 8 then 9 else if val (seg b 4 2) < 8 then 4 else if b.length < val (seg b 4 2) then 9 else if val (seg b 4 2) < b.length then 10 else if val (seg b 6 2) = 0 then 4 else 0) := by unfold udpE; rw [hsg, hsx]; simp
      rw [h0] at he ⊢
      have hne : b.length < 8 ∨ val (seg b 4 2) < 8 ∨ val (seg b 4 2) ≠ b.length ∨ val (seg b 6 2) = 0 := by
        apply Classical.byContradiction
        intro hn
        apply he
        repeat' (first | omega | split)
      refine Triple.enter Tryz.func107 rfl Tryz.ntmps107 rfl (fun W => ?_)
      dsimp only [argsF, Nat.reduceAdd]
      repeat' (first
       | refine WPl.nil ?_ | refine WPq.then ?_ | refine WPq.thenR ?_ | refine WPq.thenE ?_ | refine WPq.blockN ?_ | refine WPq.blockR ?_ | refine WPq.blockE ?_ | refine WPq.blockO rfl ?_ | refine WPc.seq ?_ | refine WPc.block ?_ | refine WPc.ret ?_ | refine WPc.exit ?_ | refine WPc.skip ?_ | refine WPc.region ?_
       | (refine isCond ?_; first | refine WPc.cT ?_ | refine WPc.cF ?_ | (refine WPc.cQ (fun hc => ?_) (fun hc => ?_) <;> try exact prA))
       | (refine isC 47 ?_; refine WPl.cV (hg) ?_)
       | (refine isC 13 ?_; refine WPl.cV (port_t vb b 4 (by omega) hl) ?_)
       | (refine isC 16 ?_; refine WPl.cV (port_t vb b 6 (by omega) hl) ?_)
       | (refine isOp ?_; first | refine WPl.rd ?_ | refine WPl.sk ?_ | refine WPl.rdB ?_)
       | (refine isAl ?_; refine WPl.nw fun g => ?_)
       | (refine isBx ?_; refine WPl.nw fun g => ?_)
       | (refine isSt ?_; first | refine WPl.st1 ?_ | refine WPl.stA ?_ | refine WPl.stEB ?_ | refine WPl.stRB ?_)
       | (show WPl _ _ _ _ _ _ _ (⟨_, .indexAddr _ _ _, _, _, _, _⟩ :: _) _; refine WPl.rdX (ReadR.indexE rfl rfl hasA (by first | assumption | omega)) ?_)
       | (show WPl _ _ _ _ _ _ _ (⟨_, .fieldAddr _ _ _, _, _, _, _⟩ :: _) _; refine WPl.rdX (ReadR.fieldE rfl hasA (by first | assumption | omega)) ?_)
       | (show WPl _ _ _ _ _ _ _ (⟨_, .load _ _, _, _, _, _⟩ :: _) _; first | refine WPl.rdX (ReadR.loadE rfl hasA (by assumption)) ?_ | refine WPl.rdX (ReadR.loadES (by assumption) (by first | assumption | omega) rfl hasA) ?_)
       | (show WPl _ _ _ _ _ _ _ (⟨_, .slice _ _ _ _ _, _, _, _, _⟩ :: _) _; first | refine WPl.rdX (ReadR.sliceH rfl rfl hasA (by omega)) ?_ | refine WPl.rdX (ReadR.sliceL rfl rfl hasA (by omega)) ?_ | refine WPl.rdX (ReadR.sliceLH rfl rfl rfl hasA (by omega) (by omega)) ?_)
       | (refine WPl.spQ (fun hc => ?_) (fun hc => ?_) <;> try exact prA)
       | fail)
      all_goals
        refine WPq.dV (hc := ?_)
        show Value.tuple #[_, Value.int .i64 _] = Value.tuple #[_, Value.int .i64 _]
        congr 5
        repeat' (first | omega | split)
    | false =>
      rw [hsg] at hg
      have h0 : udpE h b = (if b.length < 8 then 9 else if val (seg b 4 2) < 8 then 4 else if b.length < val (seg b 4 2) then 9 else if val (seg b 4 2) < b.length then 10 else if val (seg b 6 2) = 0 then 4 else 5) := by unfold udpE; rw [hsg, hsx]; by_cases hz : val (seg b 6 2) = 0 <;> simp [hz]
      rw [h0]
      refine Triple.enter Tryz.func107 rfl Tryz.ntmps107 rfl (fun W => ?_)
      dsimp only [argsF, Nat.reduceAdd]
      repeat' (first
       | refine WPl.nil ?_ | refine WPq.then ?_ | refine WPq.thenR ?_ | refine WPq.thenE ?_ | refine WPq.blockN ?_ | refine WPq.blockR ?_ | refine WPq.blockE ?_ | refine WPq.blockO rfl ?_ | refine WPc.seq ?_ | refine WPc.block ?_ | refine WPc.ret ?_ | refine WPc.exit ?_ | refine WPc.skip ?_ | refine WPc.region ?_
       | (refine isCond ?_; first | refine WPc.cT ?_ | refine WPc.cF ?_ | (refine WPc.cQ (fun hc => ?_) (fun hc => ?_) <;> try exact prA))
       | (refine isC 47 ?_; refine WPl.cV (hg) ?_)
       | (refine isC 13 ?_; refine WPl.cV (port_t vb b 4 (by omega) hl) ?_)
       | (refine isC 16 ?_; refine WPl.cV (port_t vb b 6 (by omega) hl) ?_)
       | (refine isOp ?_; first | refine WPl.rd ?_ | refine WPl.sk ?_ | refine WPl.rdB ?_)
       | (refine isAl ?_; refine WPl.nw fun g => ?_)
       | (refine isBx ?_; refine WPl.nw fun g => ?_)
       | (refine isSt ?_; first | refine WPl.st1 ?_ | refine WPl.stA ?_ | refine WPl.stEB ?_ | refine WPl.stRB ?_)
       | (show WPl _ _ _ _ _ _ _ (⟨_, .indexAddr _ _ _, _, _, _, _⟩ :: _) _; refine WPl.rdX (ReadR.indexE rfl rfl hasA (by first | assumption | omega)) ?_)
       | (show WPl _ _ _ _ _ _ _ (⟨_, .fieldAddr _ _ _, _, _, _, _⟩ :: _) _; refine WPl.rdX (ReadR.fieldE rfl hasA (by first | assumption | omega)) ?_)
       | (show WPl _ _ _ _ _ _ _ (⟨_, .load _ _, _, _, _, _⟩ :: _) _; first | refine WPl.rdX (ReadR.loadE rfl hasA (by assumption)) ?_ | refine WPl.rdX (ReadR.loadES (by assumption) (by first | assumption | omega) rfl hasA) ?_)
       | (show WPl _ _ _ _ _ _ _ (⟨_, .slice _ _ _ _ _, _, _, _, _⟩ :: _) _; first | refine WPl.rdX (ReadR.sliceH rfl rfl hasA (by omega)) ?_ | refine WPl.rdX (ReadR.sliceL rfl rfl hasA (by omega)) ?_ | refine WPl.rdX (ReadR.sliceLH rfl rfl rfl hasA (by omega) (by omega)) ?_)
       | (refine WPl.spQ (fun hc => ?_) (fun hc => ?_) <;> try exact prA)
       | fail)
      all_goals
        refine WPq.dV (hc := ?_)
        show Value.tuple #[_, Value.int .i64 _] = Value.tuple #[_, Value.int .i64 _]
        congr 5
        repeat' (first | omega | split)
  | false =>
    cases hsg : sgood h b with
    | true =>
      rw [hsg] at hg
      have h0 : udpE h b = (if b.length < 8 then 9 else if val (seg b 4 2) < 8 then 4 else if b.length < val (seg b 4 2) then 9 else if val (seg b 4 2) < b.length then 10 else 0) := by unfold udpE; rw [hsg, hsx]; simp
      rw [h0] at he ⊢
      have hne : b.length < 8 ∨ val (seg b 4 2) < 8 ∨ val (seg b 4 2) ≠ b.length := by
        apply Classical.byContradiction
        intro hn
        apply he
        repeat' (first | omega | split)
      refine Triple.enter Tryz.func107 rfl Tryz.ntmps107 rfl (fun W => ?_)
      dsimp only [argsF, Nat.reduceAdd]
      repeat' (first
       | refine WPl.nil ?_ | refine WPq.then ?_ | refine WPq.thenR ?_ | refine WPq.thenE ?_ | refine WPq.blockN ?_ | refine WPq.blockR ?_ | refine WPq.blockE ?_ | refine WPq.blockO rfl ?_ | refine WPc.seq ?_ | refine WPc.block ?_ | refine WPc.ret ?_ | refine WPc.exit ?_ | refine WPc.skip ?_ | refine WPc.region ?_
       | (refine isCond ?_; first | refine WPc.cT ?_ | refine WPc.cF ?_ | (refine WPc.cQ (fun hc => ?_) (fun hc => ?_) <;> try exact prA))
       | (refine isC 47 ?_; refine WPl.cV (hg) ?_)
       | (refine isC 13 ?_; refine WPl.cV (port_t vb b 4 (by omega) hl) ?_)
       | (refine isC 16 ?_; refine WPl.cV (port_t vb b 6 (by omega) hl) ?_)
       | (refine isOp ?_; first | refine WPl.rd ?_ | refine WPl.sk ?_ | refine WPl.rdB ?_)
       | (refine isAl ?_; refine WPl.nw fun g => ?_)
       | (refine isBx ?_; refine WPl.nw fun g => ?_)
       | (refine isSt ?_; first | refine WPl.st1 ?_ | refine WPl.stA ?_ | refine WPl.stEB ?_ | refine WPl.stRB ?_)
       | (show WPl _ _ _ _ _ _ _ (⟨_, .indexAddr _ _ _, _, _, _, _⟩ :: _) _; refine WPl.rdX (ReadR.indexE rfl rfl hasA (by first | assumption | omega)) ?_)
       | (show WPl _ _ _ _ _ _ _ (⟨_, .fieldAddr _ _ _, _, _, _, _⟩ :: _) _; refine WPl.rdX (ReadR.fieldE rfl hasA (by first | assumption | omega)) ?_)
       | (show WPl _ _ _ _ _ _ _ (⟨_, .load _ _, _, _, _, _⟩ :: _) _; first | refine WPl.rdX (ReadR.loadE rfl hasA (by assumption)) ?_ | refine WPl.rdX (ReadR.loadES (by assumption) (by first | assumption | omega) rfl hasA) ?_)
       | (show WPl _ _ _ _ _ _ _ (⟨_, .slice _ _ _ _ _, _, _, _, _⟩ :: _) _; first | refine WPl.rdX (ReadR.sliceH rfl rfl hasA (by omega)) ?_ | refine WPl.rdX (ReadR.sliceL rfl rfl hasA (by omega)) ?_ | refine WPl.rdX (ReadR.sliceLH rfl rfl rfl hasA (by omega) (by omega)) ?_)
       | (refine WPl.spQ (fun hc => ?_) (fun hc => ?_) <;> try exact prA)
       | fail)
      all_goals
        refine WPq.dV (hc := ?_)
        show Value.tuple #[_, Value.int .i64 _] = Value.tuple #[_, Value.int .i64 _]
        congr 5
        repeat' (first | omega | split)
    | false =>
      rw [hsg] at hg
      have h0 : udpE h b = (if b.length < 8 then 9 else if val (seg b 4 2) < 8 then 4 else if b.length < val (seg b 4 2) then 9 else if val (seg b 4 2) < b.length then 10 else if ¬ val (seg b 6 2) = 0 then 5 else 0) := by unfold udpE; rw [hsg, hsx]; simp
      rw [h0] at he ⊢
      have hne : b.length < 8 ∨ val (seg b 4 2) < 8 ∨ val (seg b 4 2) ≠ b.length ∨ ¬ val (seg b 6 2) = 0 := by
        apply Classical.byContradiction
        intro hn
        apply he
        repeat' (first | omega | split)
      refine Triple.enter Tryz.func107 rfl Tryz.ntmps107 rfl (fun W => ?_)
      dsimp only [argsF, Nat.reduceAdd]
      repeat' (first
       | refine WPl.nil ?_ | refine WPq.then ?_ | refine WPq.thenR ?_ | refine WPq.thenE ?_ | refine WPq.blockN ?_ | refine WPq.blockR ?_ | refine WPq.blockE ?_ | refine WPq.blockO rfl ?_ | refine WPc.seq ?_ | refine WPc.block ?_ | refine WPc.ret ?_ | refine WPc.exit ?_ | refine WPc.skip ?_ | refine WPc.region ?_
       | (refine isCond ?_; first | refine WPc.cT ?_ | refine WPc.cF ?_ | (refine WPc.cQ (fun hc => ?_) (fun hc => ?_) <;> try exact prA))
       | (refine isC 47 ?_; refine WPl.cV (hg) ?_)
       | (refine isC 13 ?_; refine WPl.cV (port_t vb b 4 (by omega) hl) ?_)
       | (refine isC 16 ?_; refine WPl.cV (port_t vb b 6 (by omega) hl) ?_)
       | (refine isOp ?_; first | refine WPl.rd ?_ | refine WPl.sk ?_ | refine WPl.rdB ?_)
       | (refine isAl ?_; refine WPl.nw fun g => ?_)
       | (refine isBx ?_; refine WPl.nw fun g => ?_)
       | (refine isSt ?_; first | refine WPl.st1 ?_ | refine WPl.stA ?_ | refine WPl.stEB ?_ | refine WPl.stRB ?_)
       | (show WPl _ _ _ _ _ _ _ (⟨_, .indexAddr _ _ _, _, _, _, _⟩ :: _) _; refine WPl.rdX (ReadR.indexE rfl rfl hasA (by first | assumption | omega)) ?_)
       | (show WPl _ _ _ _ _ _ _ (⟨_, .fieldAddr _ _ _, _, _, _, _⟩ :: _) _; refine WPl.rdX (ReadR.fieldE rfl hasA (by first | assumption | omega)) ?_)
       | (show WPl _ _ _ _ _ _ _ (⟨_, .load _ _, _, _, _, _⟩ :: _) _; first | refine WPl.rdX (ReadR.loadE rfl hasA (by assumption)) ?_ | refine WPl.rdX (ReadR.loadES (by assumption) (by first | assumption | omega) rfl hasA) ?_)
       | (show WPl _ _ _ _ _ _ _ (⟨_, .slice _ _ _ _ _, _, _, _, _⟩ :: _) _; first | refine WPl.rdX (ReadR.sliceH rfl rfl hasA (by omega)) ?_ | refine WPl.rdX (ReadR.sliceL rfl rfl hasA (by omega)) ?_ | refine WPl.rdX (ReadR.sliceLH rfl rfl rfl hasA (by omega) (by omega)) ?_)
       | (refine WPl.spQ (fun hc => ?_) (fun hc => ?_) <;> try exact prA)
       | fail)
      all_goals
        refine WPq.dV (hc := ?_)
        show Value.tuple #[_, Value.int .i64 _] = Value.tuple #[_, Value.int .i64 _]
        congr 5
        repeat' (first | omega | split)
theorem udpE_zero {h : Hd} {b : List UInt8} (he : udpE h b = 0) : 8 ≤ b.length ∧ val (seg b 4 2) = b.length ∧ (val (seg b 6 2) = 0 ∧ h.six = false ∨ ¬ val (seg b 6 2) = 0 ∧ sgood h b = true) := by
  unfold udpE at he
  repeat' (split at he)
  all_goals first | omega | (cases he; done) | skip
  rename_i h1 h2 h3 h4 h5 h6
  refine ⟨by omega, by omega, ?_⟩
  by_cases hz : val (seg b 6 2) = 0
  · exact .inl ⟨hz, by simpa [hz] using h5⟩
  · exact .inr ⟨hz, by simpa [hz] using h6⟩
theorem udp_yes (h : Hd) (vb : Value) (b : List UInt8) (hl : b.length ≤ 100000) (he : udpE h b = 0) : Triple Tryz.prog 107 #[ag (hdc h), vb] [rb vb b] (RVal (.tuple #[ag (sgc (udpS b)), .int .i64 0])) := by
  have l1 := h.src.len
  have l2 := h.dst.len
  have hv4 := val2_lt (l := b) (k := 4)
  have hv6 := val2_lt (l := b) (k := 6)
  have hg := sgood_t h vb b hl
  obtain ⟨f1, f2, f3⟩ := udpE_zero he
  rcases f3 with ⟨f3, f4⟩ | ⟨f3, f4⟩
  · rw [show udpS b = ⟨0, 0, 0, 6, true, 8⟩ by unfold udpS; rw [decide_eq_true f3]]
    refine Triple.enter Tryz.func107 rfl Tryz.ntmps107 rfl (fun W => ?_)
    dsimp only [argsF, Nat.reduceAdd]
    repeat' (first
     | refine WPl.nil ?_ | refine WPq.then ?_ | refine WPq.thenR ?_ | refine WPq.thenE ?_ | refine WPq.blockN ?_ | refine WPq.blockR ?_ | refine WPq.blockE ?_ | refine WPq.blockO rfl ?_ | refine WPc.seq ?_ | refine WPc.block ?_ | refine WPc.ret ?_ | refine WPc.exit ?_ | refine WPc.skip ?_ | refine WPc.region ?_
     | (refine isCond ?_; first | refine WPc.cT ?_ | refine WPc.cF ?_ | (refine WPc.cQ (fun hc => ?_) (fun hc => ?_) <;> try exact prA))
     | (refine isC 13 ?_; refine WPl.cV (port_t vb b 4 (by omega) hl) ?_)
     | (refine isC 16 ?_; refine WPl.cV (port_t vb b 6 (by omega) hl) ?_)
     | (refine isD 17 ?_; refine WPl.rdX (ReadR.binE rfl rfl BinR.eql (congrArg Value.bool (decide_eq_true (by rw [f3]; rfl)))) ?_)
     | (refine isOp ?_; first | refine WPl.rd ?_ | refine WPl.sk ?_ | refine WPl.rdB ?_)
     | (refine isAl ?_; refine WPl.nw fun g => ?_)
     | (refine isBx ?_; refine WPl.nw fun g => ?_)
     | (refine isSt ?_; first | refine WPl.st1 ?_ | refine WPl.stA ?_ | refine WPl.stEB ?_ | refine WPl.stRB ?_)
     | (show WPl _ _ _ _ _ _ _ (⟨_, .indexAddr _ _ _, _, _, _, _⟩ :: _) _; refine WPl.rdX (ReadR.indexE rfl rfl hasA (by first | assumption | omega)) ?_)
     | (show WPl _ _ _ _ _ _ _ (⟨_, .fieldAddr _ _ _, _, _, _, _⟩ :: _) _; refine WPl.rdX (ReadR.fieldE rfl hasA (by first | assumption | omega)) ?_)
     | (show WPl _ _ _ _ _ _ _ (⟨_, .load _ _, _, _, _, _⟩ :: _) _; first | refine WPl.rdX (ReadR.loadE rfl hasA (by assumption)) ?_ | refine WPl.rdX (ReadR.loadES (by assumption) (by first | assumption | omega) rfl hasA) ?_)
     | (show WPl _ _ _ _ _ _ _ (⟨_, .slice _ _ _ _ _, _, _, _, _⟩ :: _) _; first | refine WPl.rdX (ReadR.sliceH rfl rfl hasA (by omega)) ?_ | refine WPl.rdX (ReadR.sliceL rfl rfl hasA (by omega)) ?_ | refine WPl.rdX (ReadR.sliceLH rfl rfl rfl hasA (by omega) (by omega)) ?_)
     | (refine WPl.spQ (fun hc => ?_) (fun hc => ?_) <;> try exact prA)
     | fail)
    all_goals try (first | exact WPq.dTp | exact WPq.dTs | exact WPq.dV | exact WPq.dR | exact WPq.dR2 | exact WPq.dH | exact WPq.dBH | exact WPq.dT)
  · rw [f4] at hg
    rw [show udpS b = ⟨0, 0, 0, 6, false, 8⟩ by unfold udpS; rw [decide_eq_false f3]]
    refine Triple.enter Tryz.func107 rfl Tryz.ntmps107 rfl (fun W => ?_)
    dsimp only [argsF, Nat.reduceAdd]
    repeat' (first
     | refine WPl.nil ?_ | refine WPq.then ?_ | refine WPq.thenR ?_ | refine WPq.thenE ?_ | refine WPq.blockN ?_ | refine WPq.blockR ?_ | refine WPq.blockE ?_ | refine WPq.blockO rfl ?_ | refine WPc.seq ?_ | refine WPc.block ?_ | refine WPc.ret ?_ | refine WPc.exit ?_ | refine WPc.skip ?_ | refine WPc.region ?_
     | (refine isCond ?_; first | refine WPc.cT ?_ | refine WPc.cF ?_ | (refine WPc.cQ (fun hc => ?_) (fun hc => ?_) <;> try exact prA))
     | (refine isC 47 ?_; refine WPl.cV (hg) ?_)
     | (refine isC 13 ?_; refine WPl.cV (port_t vb b 4 (by omega) hl) ?_)
     | (refine isC 16 ?_; refine WPl.cV (port_t vb b 6 (by omega) hl) ?_)
     | (refine isD 17 ?_; refine WPl.rdX (ReadR.binE rfl rfl BinR.eql (congrArg Value.bool (decide_eq_false (by omega)))) ?_)
     | (refine isOp ?_; first | refine WPl.rd ?_ | refine WPl.sk ?_ | refine WPl.rdB ?_)
     | (refine isAl ?_; refine WPl.nw fun g => ?_)
     | (refine isBx ?_; refine WPl.nw fun g => ?_)
     | (refine isSt ?_; first | refine WPl.st1 ?_ | refine WPl.stA ?_ | refine WPl.stEB ?_ | refine WPl.stRB ?_)
     | (show WPl _ _ _ _ _ _ _ (⟨_, .indexAddr _ _ _, _, _, _, _⟩ :: _) _; refine WPl.rdX (ReadR.indexE rfl rfl hasA (by first | assumption | omega)) ?_)
     | (show WPl _ _ _ _ _ _ _ (⟨_, .fieldAddr _ _ _, _, _, _, _⟩ :: _) _; refine WPl.rdX (ReadR.fieldE rfl hasA (by first | assumption | omega)) ?_)
     | (show WPl _ _ _ _ _ _ _ (⟨_, .load _ _, _, _, _, _⟩ :: _) _; first | refine WPl.rdX (ReadR.loadE rfl hasA (by assumption)) ?_ | refine WPl.rdX (ReadR.loadES (by assumption) (by first | assumption | omega) rfl hasA) ?_)
     | (show WPl _ _ _ _ _ _ _ (⟨_, .slice _ _ _ _ _, _, _, _, _⟩ :: _) _; first | refine WPl.rdX (ReadR.sliceH rfl rfl hasA (by omega)) ?_ | refine WPl.rdX (ReadR.sliceL rfl rfl hasA (by omega)) ?_ | refine WPl.rdX (ReadR.sliceLH rfl rfl rfl hasA (by omega) (by omega)) ?_)
     | (refine WPl.spQ (fun hc => ?_) (fun hc => ?_) <;> try exact prA)
     | fail)
    all_goals try (first | exact WPq.dTp | exact WPq.dTs | exact WPq.dV | exact WPq.dR | exact WPq.dR2 | exact WPq.dH | exact WPq.dBH | exact WPq.dT)
end Go.Proofs.YtpilenbdimhegaaGreatDoor
/- Layer 15 (seg): reading, whole, and the reference's: contracts. -/
namespace Go.Proofs.YtpilenbdimhegaaGreatDoor
open Go.RowKit
set_option linter.unusedSimpArgs false
set_option linter.unusedVariables false
set_option maxRecDepth 20000
set_option maxHeartbeats 4000000
attribute [local irreducible] WPc WPl WPq ReadR OpT BinR HasS bx rdN rowN Take Takes Prov Triple ResF BuildP Done ag Int.decLt Int.decLe Int.instDecidableEq
attribute [local irreducible] psu sgood tcpE udpE

def sgE0 (h : Hd) (b : List UInt8) : Int := if h.proto.toNat = 6 then tcpE h b else if h.proto.toNat = 17 then udpE h b else 6
def sg0 (h : Hd) (b : List UInt8) : Sg := if h.proto.toNat = 6 then tcpS b else udpS b
def pz (b : List UInt8) : Bool := decide (val (seg b 0 2) = 0 ∨ val (seg b 2 2) = 0)
def sgE (h : Hd) (b : List UInt8) : Int := if sgE0 h b = 0 then (if pz b then 4 else 0) else sgE0 h b
def Sg.at (s : Sg) (b : List UInt8) : Sg := ⟨val (seg b 0 2), val (seg b 2 2), s.flags, s.sumAt, s.zero, s.data⟩
def sgR (h : Hd) (b : List UInt8) : Sg := if sgE h b = 0 then (sg0 h b).at b else Sg.none
abbrev gVal (h : Hd) (b : List UInt8) : Value := .tuple #[ag (sgc (sgR h b)), .int .i64 (sgE h b)]
theorem tcpE_zero {h : Hd} {b : List UInt8} (he : tcpE h b = 0) : 20 ≤ b.length ∧ 20 ≤ tN b ∧ tN b ≤ b.length ∧ sgood h b = true := by
  unfold tcpE at he
  repeat' (split at he)
  all_goals first | omega | (cases he; done) | skip
  exact ⟨by omega, by omega, by omega, by simpa using ‹¬ sgood h b = false›⟩
theorem sgE0_len {h : Hd} {b : List UInt8} (he : sgE0 h b = 0) : 8 ≤ b.length := by
  unfold sgE0 at he
  repeat' (split at he)
  · exact Nat.le_trans (by omega) (tcpE_zero he).1
  · exact (udpE_zero he).1
  · cases he
theorem pz_no {b : List UInt8} (h : pz b = false) : ¬ val (seg b 0 2) = 0 ∧ ¬ val (seg b 2 2) = 0 := by simpa [pz] using h
theorem sread_t (h : Hd) (vb : Value) (b : List UInt8) (hl : b.length ≤ 100000) : Triple Tryz.prog 63 #[ag (hdc h), vb] [rb vb b] (RVal (gVal h b)) := by
  have l1 := h.src.len
  have l2 := h.dst.len
  have hv0 := val2_lt (l := b) (k := 0)
  have hv2 := val2_lt (l := b) (k := 2)
  by_cases he : sgE0 h b = 0
  · have hbl := sgE0_len he
    cases hz : pz b with
    | true =>
      have hz' : val (seg b 0 2) = 0 ∨ val (seg b 2 2) = 0 := by simpa [pz] using hz
      have hE : sgE h b = 4 := by unfold sgE; rw [if_pos he, hz]; rfl
      rw [show gVal h b = .tuple #[ag (sgc Sg.none), .int .i64 4] by unfold gVal sgR; rw [hE, if_neg (by omega)]]
      by_cases h6 : h.proto.toNat = 6
      · have ht := tcp_yes h vb b hl (by unfold sgE0 at he; rw [if_pos h6] at he; exact he)
        refine Triple.enter Tryz.func63 rfl Tryz.ntmps63 rfl (fun W => ?_)
        dsimp only [argsF, Nat.reduceAdd]
        repeat' (first
         | refine WPl.nil ?_ | refine WPq.then ?_ | refine WPq.thenR ?_ | refine WPq.thenE ?_ | refine WPq.blockN ?_ | refine WPq.blockR ?_ | refine WPq.blockE ?_ | refine WPq.blockO rfl ?_ | refine WPc.seq ?_ | refine WPc.block ?_ | refine WPc.ret ?_ | refine WPc.exit ?_ | refine WPc.skip ?_ | refine WPc.region ?_
         | (refine isCond ?_; first | refine WPc.cT ?_ | refine WPc.cF ?_ | (refine WPc.cQ (fun hc => ?_) (fun hc => ?_) <;> try exact prA))
         | (refine isC 13 ?_; refine WPl.cV (ht) ?_)
         | (refine isC 29 ?_; refine WPl.cV (port_t vb b 0 (by omega) hl) ?_)
         | (refine isC 31 ?_; refine WPl.cV (port_t vb b 2 (by omega) hl) ?_)
         | (refine isOp ?_; first | refine WPl.rd ?_ | refine WPl.sk ?_ | refine WPl.rdB ?_)
         | (refine isAl ?_; refine WPl.nw fun g => ?_)
         | (refine isBx ?_; refine WPl.nw fun g => ?_)
         | (refine isSt ?_; first | refine WPl.st1 ?_ | refine WPl.stA ?_ | refine WPl.stEB ?_ | refine WPl.stRB ?_)
         | (show WPl _ _ _ _ _ _ _ (⟨_, .indexAddr _ _ _, _, _, _, _⟩ :: _) _; refine WPl.rdX (ReadR.indexE rfl rfl hasA (by first | assumption | omega)) ?_)
         | (show WPl _ _ _ _ _ _ _ (⟨_, .fieldAddr _ _ _, _, _, _, _⟩ :: _) _; refine WPl.rdX (ReadR.fieldE rfl hasA (by first | assumption | omega)) ?_)
         | (show WPl _ _ _ _ _ _ _ (⟨_, .load _ _, _, _, _, _⟩ :: _) _; first | refine WPl.rdX (ReadR.loadE rfl hasA (by assumption)) ?_ | refine WPl.rdX (ReadR.loadES (by assumption) (by first | assumption | omega) rfl hasA) ?_)
         | (show WPl _ _ _ _ _ _ _ (⟨_, .slice _ _ _ _ _, _, _, _, _⟩ :: _) _; first | refine WPl.rdX (ReadR.sliceH rfl rfl hasA (by omega)) ?_ | refine WPl.rdX (ReadR.sliceL rfl rfl hasA (by omega)) ?_ | refine WPl.rdX (ReadR.sliceLH rfl rfl rfl hasA (by omega) (by omega)) ?_)
         | (refine WPl.spQ (fun hc => ?_) (fun hc => ?_) <;> try exact prA)
         | fail)
        all_goals try (first | exact WPq.dTp | exact WPq.dTs | exact WPq.dV | exact WPq.dR | exact WPq.dR2 | exact WPq.dH | exact WPq.dBH | exact WPq.dT)
      · by_cases h17 : h.proto.toNat = 17
        · have ht := udp_yes h vb b hl (by unfold sgE0 at he; rw [if_neg h6, if_pos h17] at he; exact he)
          refine Triple.enter Tryz.func63 rfl Tryz.ntmps63 rfl (fun W => ?_)
          dsimp only [argsF, Nat.reduceAdd]
          repeat' (first
           | refine WPl.nil ?_ | refine WPq.then ?_ | refine WPq.thenR ?_ | refine WPq.thenE ?_ | refine WPq.blockN ?_ | refine WPq.blockR ?_ | refine WPq.blockE ?_ | refine WPq.blockO rfl ?_ | refine WPc.seq ?_ | refine WPc.block ?_ | refine WPc.ret ?_ | refine WPc.exit ?_ | refine WPc.skip ?_ | refine WPc.region ?_
           | (refine isCond ?_; first | refine WPc.cT ?_ | refine WPc.cF ?_ | (refine WPc.cQ (fun hc => ?_) (fun hc => ?_) <;> try exact prA))
           | (refine isC 21 ?_; refine WPl.cV (ht) ?_)
           | (refine isC 29 ?_; refine WPl.cV (port_t vb b 0 (by omega) hl) ?_)
           | (refine isC 31 ?_; refine WPl.cV (port_t vb b 2 (by omega) hl) ?_)
           | (refine isOp ?_; first | refine WPl.rd ?_ | refine WPl.sk ?_ | refine WPl.rdB ?_)
           | (refine isAl ?_; refine WPl.nw fun g => ?_)
           | (refine isBx ?_; refine WPl.nw fun g => ?_)
           | (refine isSt ?_; first | refine WPl.st1 ?_ | refine WPl.stA ?_ | refine WPl.stEB ?_ | refine WPl.stRB ?_)
           | (show WPl _ _ _ _ _ _ _ (⟨_, .indexAddr _ _ _, _, _, _, _⟩ :: _) _; refine WPl.rdX (ReadR.indexE rfl rfl hasA (by first | assumption | omega)) ?_)
           | (show WPl _ _ _ _ _ _ _ (⟨_, .fieldAddr _ _ _, _, _, _, _⟩ :: _) _; refine WPl.rdX (ReadR.fieldE rfl hasA (by first | assumption | omega)) ?_)
           | (show WPl _ _ _ _ _ _ _ (⟨_, .load _ _, _, _, _, _⟩ :: _) _; first | refine WPl.rdX (ReadR.loadE rfl hasA (by assumption)) ?_ | refine WPl.rdX (ReadR.loadES (by assumption) (by first | assumption | omega) rfl hasA) ?_)
           | (show WPl _ _ _ _ _ _ _ (⟨_, .slice _ _ _ _ _, _, _, _, _⟩ :: _) _; first | refine WPl.rdX (ReadR.sliceH rfl rfl hasA (by omega)) ?_ | refine WPl.rdX (ReadR.sliceL rfl rfl hasA (by omega)) ?_ | refine WPl.rdX (ReadR.sliceLH rfl rfl rfl hasA (by omega) (by omega)) ?_)
           | (refine WPl.spQ (fun hc => ?_) (fun hc => ?_) <;> try exact prA)
           | fail)
          all_goals try (first | exact WPq.dTp | exact WPq.dTs | exact WPq.dV | exact WPq.dR | exact WPq.dR2 | exact WPq.dH | exact WPq.dBH | exact WPq.dT)
        · unfold sgE0 at he; rw [if_neg h6, if_neg h17] at he; cases he
    | false =>
      obtain ⟨z1, z2⟩ := pz_no hz
      have hE : sgE h b = 0 := by unfold sgE; rw [if_pos he, hz]; rfl
      by_cases h6 : h.proto.toNat = 6
      · have ht := tcp_yes h vb b hl (by unfold sgE0 at he; rw [if_pos h6] at he; exact he)
        rw [show gVal h b = .tuple #[ag (sgc ((tcpS b).at b)), .int .i64 0] by unfold gVal sgR sg0; rw [hE, if_pos rfl, if_pos h6]]
        refine Triple.enter Tryz.func63 rfl Tryz.ntmps63 rfl (fun W => ?_)
        dsimp only [argsF, Nat.reduceAdd]
        repeat' (first
         | refine WPl.nil ?_ | refine WPq.then ?_ | refine WPq.thenR ?_ | refine WPq.thenE ?_ | refine WPq.blockN ?_ | refine WPq.blockR ?_ | refine WPq.blockE ?_ | refine WPq.blockO rfl ?_ | refine WPc.seq ?_ | refine WPc.block ?_ | refine WPc.ret ?_ | refine WPc.exit ?_ | refine WPc.skip ?_ | refine WPc.region ?_
         | (refine isCond ?_; first | refine WPc.cT ?_ | refine WPc.cF ?_ | (refine WPc.cQ (fun hc => ?_) (fun hc => ?_) <;> try exact prA))
         | (refine isC 13 ?_; refine WPl.cV (ht) ?_)
         | (refine isC 29 ?_; refine WPl.cV (port_t vb b 0 (by omega) hl) ?_)
         | (refine isC 31 ?_; refine WPl.cV (port_t vb b 2 (by omega) hl) ?_)
         | (refine isOp ?_; first | refine WPl.rd ?_ | refine WPl.sk ?_ | refine WPl.rdB ?_)
         | (refine isAl ?_; refine WPl.nw fun g => ?_)
         | (refine isBx ?_; refine WPl.nw fun g => ?_)
         | (refine isSt ?_; first | refine WPl.st1 ?_ | refine WPl.stA ?_ | refine WPl.stEB ?_ | refine WPl.stRB ?_)
         | (show WPl _ _ _ _ _ _ _ (⟨_, .indexAddr _ _ _, _, _, _, _⟩ :: _) _; refine WPl.rdX (ReadR.indexE rfl rfl hasA (by first | assumption | omega)) ?_)
         | (show WPl _ _ _ _ _ _ _ (⟨_, .fieldAddr _ _ _, _, _, _, _⟩ :: _) _; refine WPl.rdX (ReadR.fieldE rfl hasA (by first | assumption | omega)) ?_)
         | (show WPl _ _ _ _ _ _ _ (⟨_, .load _ _, _, _, _, _⟩ :: _) _; first | refine WPl.rdX (ReadR.loadE rfl hasA (by assumption)) ?_ | refine WPl.rdX (ReadR.loadES (by assumption) (by first | assumption | omega) rfl hasA) ?_)
         | (show WPl _ _ _ _ _ _ _ (⟨_, .slice _ _ _ _ _, _, _, _, _⟩ :: _) _; first | refine WPl.rdX (ReadR.sliceH rfl rfl hasA (by omega)) ?_ | refine WPl.rdX (ReadR.sliceL rfl rfl hasA (by omega)) ?_ | refine WPl.rdX (ReadR.sliceLH rfl rfl rfl hasA (by omega) (by omega)) ?_)
         | (refine WPl.spQ (fun hc => ?_) (fun hc => ?_) <;> try exact prA)
         | fail)
        all_goals try (first | exact WPq.dTp | exact WPq.dTs | exact WPq.dV | exact WPq.dR | exact WPq.dR2 | exact WPq.dH | exact WPq.dBH | exact WPq.dT)
      · by_cases h17 : h.proto.toNat = 17
        · have ht := udp_yes h vb b hl (by unfold sgE0 at he; rw [if_neg h6, if_pos h17] at he; exact he)
          rw [show gVal h b = .tuple #[ag (sgc ((udpS b).at b)), .int .i64 0] by unfold gVal sgR sg0; rw [hE, if_pos rfl, if_neg h6]]
          refine Triple.enter Tryz.func63 rfl Tryz.ntmps63 rfl (fun W => ?_)
          dsimp only [argsF, Nat.reduceAdd]
          repeat' (first
           | refine WPl.nil ?_ | refine WPq.then ?_ | refine WPq.thenR ?_ | refine WPq.thenE ?_ | refine WPq.blockN ?_ | refine WPq.blockR ?_ | refine WPq.blockE ?_ | refine WPq.blockO rfl ?_ | refine WPc.seq ?_ | refine WPc.block ?_ | refine WPc.ret ?_ | refine WPc.exit ?_ | refine WPc.skip ?_ | refine WPc.region ?_
           | (refine isCond ?_; first | refine WPc.cT ?_ | refine WPc.cF ?_ | (refine WPc.cQ (fun hc => ?_) (fun hc => ?_) <;> try exact prA))
           | (refine isC 21 ?_; refine WPl.cV (ht) ?_)
           | (refine isC 29 ?_; refine WPl.cV (port_t vb b 0 (by omega) hl) ?_)
           | (refine isC 31 ?_; refine WPl.cV (port_t vb b 2 (by omega) hl) ?_)
           | (refine isOp ?_; first | refine WPl.rd ?_ | refine WPl.sk ?_ | refine WPl.rdB ?_)
           | (refine isAl ?_; refine WPl.nw fun g => ?_)
           | (refine isBx ?_; refine WPl.nw fun g => ?_)
           | (refine isSt ?_; first | refine WPl.st1 ?_ | refine WPl.stA ?_ | refine WPl.stEB ?_ | refine WPl.stRB ?_)
           | (show WPl _ _ _ _ _ _ _ (⟨_, .indexAddr _ _ _, _, _, _, _⟩ :: _) _; refine WPl.rdX (ReadR.indexE rfl rfl hasA (by first | assumption | omega)) ?_)
           | (show WPl _ _ _ _ _ _ _ (⟨_, .fieldAddr _ _ _, _, _, _, _⟩ :: _) _; refine WPl.rdX (ReadR.fieldE rfl hasA (by first | assumption | omega)) ?_)
           | (show WPl _ _ _ _ _ _ _ (⟨_, .load _ _, _, _, _, _⟩ :: _) _; first | refine WPl.rdX (ReadR.loadE rfl hasA (by assumption)) ?_ | refine WPl.rdX (ReadR.loadES (by assumption) (by first | assumption | omega) rfl hasA) ?_)
           | (show WPl _ _ _ _ _ _ _ (⟨_, .slice _ _ _ _ _, _, _, _, _⟩ :: _) _; first | refine WPl.rdX (ReadR.sliceH rfl rfl hasA (by omega)) ?_ | refine WPl.rdX (ReadR.sliceL rfl rfl hasA (by omega)) ?_ | refine WPl.rdX (ReadR.sliceLH rfl rfl rfl hasA (by omega) (by omega)) ?_)
           | (refine WPl.spQ (fun hc => ?_) (fun hc => ?_) <;> try exact prA)
           | fail)
          all_goals try (first | exact WPq.dTp | exact WPq.dTs | exact WPq.dV | exact WPq.dR | exact WPq.dR2 | exact WPq.dH | exact WPq.dBH | exact WPq.dT)
        · unfold sgE0 at he; rw [if_neg h6, if_neg h17] at he; cases he
  · have hE : sgE h b = sgE0 h b := by unfold sgE; rw [if_neg he]
    rw [show gVal h b = .tuple #[ag (sgc Sg.none), .int .i64 (sgE0 h b)] by unfold gVal sgR; rw [hE, if_neg he]]
    by_cases h6 : h.proto.toNat = 6
    · have h0 : sgE0 h b = tcpE h b := by unfold sgE0; rw [if_pos h6]
      rw [h0] at he ⊢
      have ht := tcp_no h vb b hl he
      refine Triple.enter Tryz.func63 rfl Tryz.ntmps63 rfl (fun W => ?_)
      dsimp only [argsF, Nat.reduceAdd]
      repeat' (first
       | refine WPl.nil ?_ | refine WPq.then ?_ | refine WPq.thenR ?_ | refine WPq.thenE ?_ | refine WPq.blockN ?_ | refine WPq.blockR ?_ | refine WPq.blockE ?_ | refine WPq.blockO rfl ?_ | refine WPc.seq ?_ | refine WPc.block ?_ | refine WPc.ret ?_ | refine WPc.exit ?_ | refine WPc.skip ?_ | refine WPc.region ?_
       | (refine isCond ?_; first | refine WPc.cT ?_ | refine WPc.cF ?_ | (refine WPc.cQ (fun hc => ?_) (fun hc => ?_) <;> try exact prA))
       | (refine isC 13 ?_; refine WPl.cV (ht) ?_)
       | (refine isOp ?_; first | refine WPl.rd ?_ | refine WPl.sk ?_ | refine WPl.rdB ?_)
       | (refine isAl ?_; refine WPl.nw fun g => ?_)
       | (refine isBx ?_; refine WPl.nw fun g => ?_)
       | (refine isSt ?_; first | refine WPl.st1 ?_ | refine WPl.stA ?_ | refine WPl.stEB ?_ | refine WPl.stRB ?_)
       | (show WPl _ _ _ _ _ _ _ (⟨_, .indexAddr _ _ _, _, _, _, _⟩ :: _) _; refine WPl.rdX (ReadR.indexE rfl rfl hasA (by first | assumption | omega)) ?_)
       | (show WPl _ _ _ _ _ _ _ (⟨_, .fieldAddr _ _ _, _, _, _, _⟩ :: _) _; refine WPl.rdX (ReadR.fieldE rfl hasA (by first | assumption | omega)) ?_)
       | (show WPl _ _ _ _ _ _ _ (⟨_, .load _ _, _, _, _, _⟩ :: _) _; first | refine WPl.rdX (ReadR.loadE rfl hasA (by assumption)) ?_ | refine WPl.rdX (ReadR.loadES (by assumption) (by first | assumption | omega) rfl hasA) ?_)
       | (show WPl _ _ _ _ _ _ _ (⟨_, .slice _ _ _ _ _, _, _, _, _⟩ :: _) _; first | refine WPl.rdX (ReadR.sliceH rfl rfl hasA (by omega)) ?_ | refine WPl.rdX (ReadR.sliceL rfl rfl hasA (by omega)) ?_ | refine WPl.rdX (ReadR.sliceLH rfl rfl rfl hasA (by omega) (by omega)) ?_)
       | (refine WPl.spQ (fun hc => ?_) (fun hc => ?_) <;> try exact prA)
       | fail)
      all_goals try (first | exact WPq.dTp | exact WPq.dTs | exact WPq.dV | exact WPq.dR | exact WPq.dR2 | exact WPq.dH | exact WPq.dBH | exact WPq.dT)
    · by_cases h17 : h.proto.toNat = 17
      · have h0 : sgE0 h b = udpE h b := by unfold sgE0; rw [if_neg h6, if_pos h17]
        rw [h0] at he ⊢
        have ht := udp_no h vb b hl he
        refine Triple.enter Tryz.func63 rfl Tryz.ntmps63 rfl (fun W => ?_)
        dsimp only [argsF, Nat.reduceAdd]
        repeat' (first
         | refine WPl.nil ?_ | refine WPq.then ?_ | refine WPq.thenR ?_ | refine WPq.thenE ?_ | refine WPq.blockN ?_ | refine WPq.blockR ?_ | refine WPq.blockE ?_ | refine WPq.blockO rfl ?_ | refine WPc.seq ?_ | refine WPc.block ?_ | refine WPc.ret ?_ | refine WPc.exit ?_ | refine WPc.skip ?_ | refine WPc.region ?_
         | (refine isCond ?_; first | refine WPc.cT ?_ | refine WPc.cF ?_ | (refine WPc.cQ (fun hc => ?_) (fun hc => ?_) <;> try exact prA))
         | (refine isC 21 ?_; refine WPl.cV (ht) ?_)
         | (refine isOp ?_; first | refine WPl.rd ?_ | refine WPl.sk ?_ | refine WPl.rdB ?_)
         | (refine isAl ?_; refine WPl.nw fun g => ?_)
         | (refine isBx ?_; refine WPl.nw fun g => ?_)
         | (refine isSt ?_; first | refine WPl.st1 ?_ | refine WPl.stA ?_ | refine WPl.stEB ?_ | refine WPl.stRB ?_)
         | (show WPl _ _ _ _ _ _ _ (⟨_, .indexAddr _ _ _, _, _, _, _⟩ :: _) _; refine WPl.rdX (ReadR.indexE rfl rfl hasA (by first | assumption | omega)) ?_)
         | (show WPl _ _ _ _ _ _ _ (⟨_, .fieldAddr _ _ _, _, _, _, _⟩ :: _) _; refine WPl.rdX (ReadR.fieldE rfl hasA (by first | assumption | omega)) ?_)
         | (show WPl _ _ _ _ _ _ _ (⟨_, .load _ _, _, _, _, _⟩ :: _) _; first | refine WPl.rdX (ReadR.loadE rfl hasA (by assumption)) ?_ | refine WPl.rdX (ReadR.loadES (by assumption) (by first | assumption | omega) rfl hasA) ?_)
         | (show WPl _ _ _ _ _ _ _ (⟨_, .slice _ _ _ _ _, _, _, _, _⟩ :: _) _; first | refine WPl.rdX (ReadR.sliceH rfl rfl hasA (by omega)) ?_ | refine WPl.rdX (ReadR.sliceL rfl rfl hasA (by omega)) ?_ | refine WPl.rdX (ReadR.sliceLH rfl rfl rfl hasA (by omega) (by omega)) ?_)
         | (refine WPl.spQ (fun hc => ?_) (fun hc => ?_) <;> try exact prA)
         | fail)
        all_goals try (first | exact WPq.dTp | exact WPq.dTs | exact WPq.dV | exact WPq.dR | exact WPq.dR2 | exact WPq.dH | exact WPq.dBH | exact WPq.dT)
      · have h0 : sgE0 h b = 6 := by unfold sgE0; rw [if_neg h6, if_neg h17]
        rw [h0]
        refine Triple.enter Tryz.func63 rfl Tryz.ntmps63 rfl (fun W => ?_)
        dsimp only [argsF, Nat.reduceAdd]
        repeat' (first
         | refine WPl.nil ?_ | refine WPq.then ?_ | refine WPq.thenR ?_ | refine WPq.thenE ?_ | refine WPq.blockN ?_ | refine WPq.blockR ?_ | refine WPq.blockE ?_ | refine WPq.blockO rfl ?_ | refine WPc.seq ?_ | refine WPc.block ?_ | refine WPc.ret ?_ | refine WPc.exit ?_ | refine WPc.skip ?_ | refine WPc.region ?_
         | (refine isCond ?_; first | refine WPc.cT ?_ | refine WPc.cF ?_ | (refine WPc.cQ (fun hc => ?_) (fun hc => ?_) <;> try exact prA))
         | (refine isOp ?_; first | refine WPl.rd ?_ | refine WPl.sk ?_ | refine WPl.rdB ?_)
         | (refine isAl ?_; refine WPl.nw fun g => ?_)
         | (refine isBx ?_; refine WPl.nw fun g => ?_)
         | (refine isSt ?_; first | refine WPl.st1 ?_ | refine WPl.stA ?_ | refine WPl.stEB ?_ | refine WPl.stRB ?_)
         | (show WPl _ _ _ _ _ _ _ (⟨_, .indexAddr _ _ _, _, _, _, _⟩ :: _) _; refine WPl.rdX (ReadR.indexE rfl rfl hasA (by first | assumption | omega)) ?_)
         | (show WPl _ _ _ _ _ _ _ (⟨_, .fieldAddr _ _ _, _, _, _, _⟩ :: _) _; refine WPl.rdX (ReadR.fieldE rfl hasA (by first | assumption | omega)) ?_)
         | (show WPl _ _ _ _ _ _ _ (⟨_, .load _ _, _, _, _, _⟩ :: _) _; first | refine WPl.rdX (ReadR.loadE rfl hasA (by assumption)) ?_ | refine WPl.rdX (ReadR.loadES (by assumption) (by first | assumption | omega) rfl hasA) ?_)
         | (show WPl _ _ _ _ _ _ _ (⟨_, .slice _ _ _ _ _, _, _, _, _⟩ :: _) _; first | refine WPl.rdX (ReadR.sliceH rfl rfl hasA (by omega)) ?_ | refine WPl.rdX (ReadR.sliceL rfl rfl hasA (by omega)) ?_ | refine WPl.rdX (ReadR.sliceLH rfl rfl rfl hasA (by omega) (by omega)) ?_)
         | (refine WPl.spQ (fun hc => ?_) (fun hc => ?_) <;> try exact prA)
         | fail)
        all_goals try (first | exact WPq.dTp | exact WPq.dTs | exact WPq.dV | exact WPq.dR | exact WPq.dR2 | exact WPq.dH | exact WPq.dBH | exact WPq.dT)
end Go.Proofs.YtpilenbdimhegaaGreatDoor
/- Layer 15 (seg): writing: contracts. -/
namespace Go.Proofs.YtpilenbdimhegaaGreatDoor
open Go.RowKit
set_option linter.unusedSimpArgs false
set_option linter.unusedVariables false
set_option maxRecDepth 20000
set_option maxHeartbeats 4000000
attribute [local irreducible] WPc WPl WPq ReadR OpT BinR HasS bx rdN rowN Take Takes Prov Triple ResF BuildP Done ag Int.decLt Int.decLe Int.instDecidableEq
attribute [local irreducible] psu sgood

def sumN (h : Hd) (l : List UInt8) : Nat := if csum (psu h l.length ++ l) = 0 ∧ h.proto.toNat = 17 then 65535 else csum (psu h l.length ++ l)
def summ (h : Hd) (l : List UInt8) (k : Nat) : List UInt8 := over l k (be (sumN h l) 2)
theorem summ_len {h : Hd} {l : List UInt8} {k : Nat} (hk : k + 2 ≤ l.length) : (summ h l k).length = l.length := by unfold summ; rw [over_length (by rw [be_length]; exact hk)]
theorem sumN_le (h : Hd) (l : List UInt8) : sumN h l ≤ 65535 := by
  have := csum_le (psu h l.length ++ l)
  unfold sumN; split <;> omega
attribute [local irreducible] be over
def swBad (h : Hd) (s : Sg) : Bool := decide ((s.src : Int) = 0) || (decide ((s.dst : Int) = 0) || (!h.src.good || (!h.dst.good || (!(h.src.six == h.six) || !(h.dst.six == h.six)))))
def swE (h : Hd) (s : Sg) (n : Nat) : Int := if ¬ h.proto.toNat = 6 ∧ ¬ h.proto.toNat = 17 then 6 else if swBad h s then 1 else if 1900 < n then 10 else 0
def swT (s : Sg) (d : List UInt8) : List UInt8 := [[] ++ be s.src 2 ++ be s.dst 2, List.replicate 8 0, nbs [80, (s.flags.toNat : Nat)], List.replicate 6 0, d].flatten
def swU (s : Sg) (d : List UInt8) : List UInt8 := [[] ++ be s.src 2 ++ be s.dst 2 ++ be (8 + d.length) 2, nbs [0, 0], d].flatten
def swL (h : Hd) (s : Sg) (d : List UInt8) : List UInt8 := if swE h s d.length = 0 then (if h.proto.toNat = 6 then summ h (swT s d) 16 else if s.zero = true ∧ h.six = false then swU s d else summ h (swU s d) 6) else []
theorem swT_len (s : Sg) (d : List UInt8) : (swT s d).length = 20 + d.length := by simp [swT, be_length, nbs]; omega
theorem swU_len (s : Sg) (d : List UInt8) : (swU s d).length = 8 + d.length := by simp [swU, be_length, nbs]; omega
theorem swBad_no {h : Hd} {s : Sg} (hb : swBad h s = false) : ¬ (s.src : Int) = 0 ∧ ¬ (s.dst : Int) = 0 ∧ h.src.good = true ∧ h.dst.good = true ∧ (h.src.six == h.six) = true ∧ (h.dst.six == h.six) = true := by
  simpa [swBad] using hb
attribute [local irreducible] swT swU summ
end Go.Proofs.YtpilenbdimhegaaGreatDoor
/- Layer 15 (seg): plain facts of what is written: it is read, spoilt, of others. -/
namespace Go.Proofs.YtpilenbdimhegaaGreatDoor
open Go.RowKit
set_option linter.unusedSimpArgs false
set_option linter.unusedVariables false
set_option maxRecDepth 20000
set_option maxHeartbeats 4000000
attribute [local irreducible] WPc WPl WPq ReadR OpT BinR HasS bx rdN rowN Take Takes Prov Triple ResF BuildP Done ag Int.decLt Int.decLe Int.instDecidableEq

theorem swE_zero {h : Hd} {s : Sg} {n : Nat} (he : swE h s n = 0) : (h.proto.toNat = 6 ∨ h.proto.toNat = 17) ∧ swBad h s = false ∧ n ≤ 1900 := by
  unfold swE at he
  repeat' (split at he)
  all_goals first | omega | (cases he; done) | skip
  rename_i h1 h2 h3
  exact ⟨by omega, by simpa using h2, by omega⟩
end Go.Proofs.YtpilenbdimhegaaGreatDoor
