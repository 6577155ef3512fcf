/- Reference of layer 12 (addr): masks. -/
import Derived.Test.YteofjhjhaaafjaaRb
namespace Go.Proofs.Yteofjhjhaaafjaa
open Go.RowKit
set_option linter.unusedSimpArgs false
set_option linter.unusedVariables false
set_option maxRecDepth 20000
set_option maxHeartbeats 4000000
attribute [local irreducible] WPc WPl WPq ReadR OpT BinR HasS bx rdN rowN Take Takes Prov Triple ResF BuildP Done ag Int.decLt Int.decLe Int.instDecidableEq

theorem BinR.shrE {P : Program} {T : TypeId} {k k2 : IntKind} {a m z : Nat} {s : Int} (h : s = (m : Int)) (hs : m ≤ kw k) (hz : a / 2 ^ m = z) : BinR P .shr T (.int k (a : Int)) (.int k2 s) (.int k (z : Int)) := by
  subst hz; exact h ▸ BinR.shrN hs
theorem BinR.shl1 {P : Program} {T : TypeId} {k2 : IntKind} {m : Nat} {s : Int} (h : s = (m : Int)) (hs : m < 8) : BinR P .shl T (.int .u8 1) (.int k2 s) (.int .u8 ((2 ^ m : Nat) : Int)) := by
  have := BinR.shlN (P := P) (T := T) (k := .u8) (k2 := k2) (a := 1) (s := m) rfl (by show m ≤ 8; omega)
  have e : 1 * 2 ^ m % 2 ^ kw .u8 = 2 ^ m := by rw [Nat.one_mul]; exact Nat.mod_eq_of_lt (Nat.pow_lt_pow_right (by decide) hs)
  rw [e] at this
  exact h ▸ this
theorem BinR.addT {P : Program} {T : TypeId} {k : IntKind} {a b c : Int} (h : a + b = c) (h1 : kmin k ≤ c) (h2 : c ≤ kmax k) : BinR P .add T (.int k a) (.int k b) (.int k c) := h ▸ BinR.addK (h ▸ h1) (h ▸ h2)
theorem u8_le (b : UInt8) : ((b.toNat : Nat) : Int) ≤ 255 := by have := b.toNat_lt; omega
/-- The first n bits behind the place f. -/
def mB (f : Nat) (l : List UInt8) (n : Nat) : List UInt8 := List.replicate f 0 ++ maskB (l.drop f) n
theorem getD_drop (l : List UInt8) (f i : Nat) : (l.drop f).getD i 0 = l.getD (f + i) 0 := by simp [List.getD_eq_getElem?_getD]
theorem mB_length {f : Nat} {l : List UInt8} {n : Nat} (h : f ≤ l.length) : (mB f l n).length = l.length := by simp [mB]; omega
theorem mB_succ {f : Nat} {l : List UInt8} {n : Nat} (h : f + n / 8 < l.length) : mB f l (n + 1) = (mB f l n).set (f + n / 8) (mskb (n % 8 + 1) (l.getD (f + n / 8) 0)) := by
  unfold mB
  rw [maskB_succ (by rw [List.length_drop]; omega), List.set_append_right _ _ (by simp), getD_drop, List.length_replicate, Nat.add_sub_cancel_left]
theorem mB_at {f : Nat} {l : List UInt8} {n : Nat} (h : f + n / 8 < l.length) : (mB f l n).getD (f + n / 8) 0 = mskb (n % 8) (l.getD (f + n / 8) 0) := by
  unfold mB
  rw [← getD_drop l, ← maskB_at (by rw [List.length_drop]; omega), List.getD_eq_getElem?_getD, List.getElem?_append_right (by simp), List.length_replicate, Nat.add_sub_cancel_left, ← List.getD_eq_getElem?_getD]
theorem mB_zero {f : Nat} {l : List UInt8} (h : f ≤ l.length) : mB f l 0 = List.replicate l.length 0 := by
  unfold mB
  rw [maskB_zero, List.length_drop, List.replicate_append_replicate, Nat.add_sub_cancel' h]
def Adr.from (a : Adr) : Nat := if a.six then 0 else 12
theorem Adr.from_le (a : Adr) : a.from ≤ 12 := by unfold Adr.from; split <;> omega
theorem Adr.from_bits (a : Adr) : 8 * (16 - a.from) = a.bits := by unfold Adr.from Adr.bits; split <;> rfl
theorem Adr.masked_b (a : Adr) (n : Nat) : (a.masked n).b = mB a.from a.b n := by
  have := a.len
  cases h : a.six with
  | true => simp [Adr.masked, Adr.from, mB, h]
  | false => simp [Adr.masked, Adr.from, mB, h, seg, List.take_of_length_le, this]
theorem mskb_bit {k : Nat} (hk : k < 8) {c : UInt8} (h : c.toNat / 2 ^ (7 - k) % 2 = 1) : ((mskb (k + 1) c).toNat : Int) = (mskb k c).toNat + 2 ^ (7 - k) ∧ (mskb (k + 1) c).toNat < 256 := by
  have := mskb_succ k hk c
  rw [h, Nat.one_mul] at this
  exact ⟨by rw [this]; simp, (mskb (k + 1) c).toNat_lt⟩
theorem mskb_nobit {k : Nat} (hk : k < 8) {c : UInt8} (h : ¬ c.toNat / 2 ^ (7 - k) % 2 = 1) : mskb (k + 1) c = mskb k c := by
  have := mskb_succ k hk c
  rw [show c.toNat / 2 ^ (7 - k) % 2 = 0 by omega, Nat.zero_mul] at this
  exact UInt8.toNat_inj.1 this
theorem mB_bit {f : Nat} {l : List UInt8} {n : Nat} (h : f + n / 8 < l.length) (hb : ¬ (l.getD (f + n / 8) 0).toNat / 2 ^ (7 - n % 8) % 2 = 1) : mB f l (n + 1) = mB f l n := by
  rw [mB_succ h, mskb_nobit (by omega) hb, ← mB_at h]
  have hl := mB_length (f := f) (l := l) (n := n) (by omega)
  apply List.ext_getElem (by simp)
  intro i h1 h2
  rw [List.getElem_set]
  split
  · rename_i e; subst e; rw [List.getD_eq_getElem?_getD, List.getElem?_eq_getElem h2]; rfl
  · rfl
theorem maskNo'_t (a : Adr) (n : Int) (h : a.maskOk n = false) (h1 : -9223372036854775808 ≤ n) (h2 : n ≤ 9223372036854775807) : Triple Try.prog 72 #[ag (adc a), .int .i64 n] [] (RVal (.tuple #[ag (pfc Adr.zero 0), .bool false])) := by
  have hl := a.from_bits
  have hf := a.from_le
  have hlen := a.len
  have hgt := rgood_t a
  have hfr := rfrom_t a a.from (by unfold Adr.from; cases a.six <;> rfl)
  cases hg : a.good with
  | true =>
    rw [hg] at hgt
    simp only [Adr.maskOk, hg, Bool.true_and, decide_eq_false_iff_not] at h
    by_cases hn : n < 0
    · skip
      refine Triple.enter Try.func72 rfl Try.ntmps72 rfl (fun W => ?_)
      dsimp only [argsF, Nat.reduceAdd]
      repeat' (first
       | refine WPl.nil ?_ | refine WPq.then ?_ | refine WPq.thenR ?_ | refine WPq.thenE ?_ | refine WPq.blockN ?_ | refine WPq.blockR ?_ | refine WPq.blockE ?_ | refine WPq.blockO rfl ?_ | refine WPc.seq ?_ | refine WPc.block ?_ | refine WPc.ret ?_ | refine WPc.exit ?_ | refine WPc.skip ?_ | refine WPc.region ?_
       | (refine isCond ?_; first | refine WPc.cT ?_ | refine WPc.cF ?_ | (refine WPc.cQ (fun hc => ?_) (fun hc => ?_) <;> try exact prA))
       | (refine isCl ?_; refine WPl.cV (hfr) ?_)
       | (refine isCl ?_; refine WPl.cV (hgt) ?_)
       | (refine isOp ?_; first | refine WPl.rd ?_ | refine WPl.sk ?_ | refine WPl.rdB ?_)
       | (refine isAl ?_; refine WPl.nw fun g => ?_)
       | (refine isBx ?_; refine WPl.nw fun g => ?_)
       | (refine isSt ?_; first | refine WPl.st1 ?_ | refine WPl.stA ?_ | refine WPl.stEB ?_ | refine WPl.stRB ?_)
       | (refine WPl.spQ (fun hc => ?_) (fun hc => ?_) <;> try exact prA)
       | fail)
      all_goals try (first | exact WPq.dV | exact WPq.dR | exact WPq.dR2 | exact WPq.dH | exact WPq.dBH | exact WPq.dT)
    · have h : (a.bits : Int) < n := by omega
      refine Triple.enter Try.func72 rfl Try.ntmps72 rfl (fun W => ?_)
      dsimp only [argsF, Nat.reduceAdd]
      repeat' (first
       | refine WPl.nil ?_ | refine WPq.then ?_ | refine WPq.thenR ?_ | refine WPq.thenE ?_ | refine WPq.blockN ?_ | refine WPq.blockR ?_ | refine WPq.blockE ?_ | refine WPq.blockO rfl ?_ | refine WPc.seq ?_ | refine WPc.block ?_ | refine WPc.ret ?_ | refine WPc.exit ?_ | refine WPc.skip ?_ | refine WPc.region ?_
       | (refine isCond ?_; first | refine WPc.cT ?_ | refine WPc.cF ?_ | (refine WPc.cQ (fun hc => ?_) (fun hc => ?_) <;> try exact prA))
       | (refine isCl ?_; refine WPl.cV (hfr) ?_)
       | (refine isCl ?_; refine WPl.cV (hgt) ?_)
       | (refine isOp ?_; first | refine WPl.rd ?_ | refine WPl.sk ?_ | refine WPl.rdB ?_)
       | (refine isAl ?_; refine WPl.nw fun g => ?_)
       | (refine isBx ?_; refine WPl.nw fun g => ?_)
       | (refine isSt ?_; first | refine WPl.st1 ?_ | refine WPl.stA ?_ | refine WPl.stEB ?_ | refine WPl.stRB ?_)
       | (refine WPl.spQ (fun hc => ?_) (fun hc => ?_) <;> try exact prA)
       | fail)
      all_goals try (first | exact WPq.dV | exact WPq.dR | exact WPq.dR2 | exact WPq.dH | exact WPq.dBH | exact WPq.dT)
  | false =>
    rw [hg] at hgt
    refine Triple.enter Try.func72 rfl Try.ntmps72 rfl (fun W => ?_)
    dsimp only [argsF, Nat.reduceAdd]
    repeat' (first
     | refine WPl.nil ?_ | refine WPq.then ?_ | refine WPq.thenR ?_ | refine WPq.thenE ?_ | refine WPq.blockN ?_ | refine WPq.blockR ?_ | refine WPq.blockE ?_ | refine WPq.blockO rfl ?_ | refine WPc.seq ?_ | refine WPc.block ?_ | refine WPc.ret ?_ | refine WPc.exit ?_ | refine WPc.skip ?_ | refine WPc.region ?_
     | (refine isCond ?_; first | refine WPc.cT ?_ | refine WPc.cF ?_ | (refine WPc.cQ (fun hc => ?_) (fun hc => ?_) <;> try exact prA))
     | (refine isCl ?_; refine WPl.cV (hfr) ?_)
     | (refine isCl ?_; refine WPl.cV (hgt) ?_)
     | (refine isOp ?_; first | refine WPl.rd ?_ | refine WPl.sk ?_ | refine WPl.rdB ?_)
     | (refine isAl ?_; refine WPl.nw fun g => ?_)
     | (refine isBx ?_; refine WPl.nw fun g => ?_)
     | (refine isSt ?_; first | refine WPl.st1 ?_ | refine WPl.stA ?_ | refine WPl.stEB ?_ | refine WPl.stRB ?_)
     | (refine WPl.spQ (fun hc => ?_) (fun hc => ?_) <;> try exact prA)
     | fail)
    all_goals try (first | exact WPq.dV | exact WPq.dR | exact WPq.dR2 | exact WPq.dH | exact WPq.dBH | exact WPq.dT)
theorem maskYes'_t (a : Adr) (n : Nat) (hg : a.good = true) (hn : n ≤ a.bits) : Triple Try.prog 72 #[ag (adc a), .int .i64 n] [] (RVal (.tuple #[ag (pfc (a.masked n) n), .bool true])) := by
  have hl := a.from_bits
  have hf := a.from_le
  have hlen := a.len
  have hgt := rgood_t a
  have hfr := rfrom_t a a.from (by unfold Adr.from; cases a.six <;> rfl)
  rw [hg] at hgt
  have hnb : n ≤ 128 := by omega
  refine Triple.enter Try.func72 rfl Try.ntmps72 rfl (fun W => ?_)
  dsimp only [argsF, Nat.reduceAdd]
  repeat' (first
   | refine WPl.nil ?_ | refine WPq.then ?_ | refine WPq.thenR ?_ | refine WPq.thenE ?_ | refine WPq.blockN ?_ | refine WPq.blockR ?_ | refine WPq.blockE ?_ | refine WPq.blockO rfl ?_ | refine WPc.seq ?_ | refine WPc.block ?_ | refine WPc.ret ?_ | refine WPc.exit ?_ | refine WPc.skip ?_ | refine WPc.region ?_
   | (refine isCond ?_; first | refine WPc.cT ?_ | refine WPc.cF ?_ | (refine WPc.cQ (fun hc => ?_) (fun hc => ?_) <;> try exact prA))
   | (refine isCl ?_; refine WPl.cV (hfr) ?_)
   | (refine isCl ?_; refine WPl.cV (hgt) ?_)
   | (first | (show WPl _ _ _ _ _ _ _ (⟨_, .alloc 26, _, _, _, _⟩ :: _) _; refine WPl.nw fun gp => ?_) | (show WPl _ _ _ _ _ _ _ (⟨_, .box 26 _, _, _, _, _⟩ :: _) _; refine WPl.nw fun gp => ?_))
   | (refine isOp ?_; first | refine WPl.rd ?_ | refine WPl.sk ?_ | refine WPl.rdB ?_)
   | (refine isAl ?_; refine WPl.nw fun g => ?_)
   | (refine isBx ?_; refine WPl.nw fun g => ?_)
   | (refine isSt ?_; first | refine WPl.st1 ?_ | refine WPl.stA ?_ | refine WPl.stEB ?_ | refine WPl.stRB ?_)
   | (refine WPl.spQ (fun hc => ?_) (fun hc => ?_) <;> try exact prA)
   | fail)
  rename_i gq _
  first | refine WPc.loop (σ := Nat × List UInt8) (fun p => p.1 ≤ n ∧ p.2 = mB a.from a.b p.1) (fun p => [bx gp 26 [(1, [.bool a.six]), (16, u8s p.2), (1, [.int .i64 n])], bx gq 26 [(1, [.bool false]), (16, u8s (List.replicate 16 0)), (1, [.int .i64 0])], bx g 24 (adc a)]) (fun p => [(8, .int .i64 p.1), (7, .pointer (some ⟨gp, 0, none⟩)), (6, .int .i64 a.from), (4, .pointer (some ⟨gq, 0, none⟩)), (2, .pointer (some ⟨g, 0, none⟩)), (1, .int .i64 n)]) (fun p => n - p.1) ((0, List.replicate 16 0)) ?_ takesA frsA (fun st km hx hk => ?_)
  · exact ⟨Nat.zero_le _, by rw [mB_zero (by omega), hlen]⟩
  obtain ⟨i, c⟩ := st
  dsimp only at hx hk ⊢
  obtain ⟨hi, hc0⟩ := hx
  have hcl : c.length = 16 := by rw [hc0, mB_length (by omega), hlen]
  by_cases hlt : i < n
  · have hin : a.from + i / 8 < a.b.length := by omega
    obtain ⟨z, hz⟩ : ∃ z, z = (a.b.getD (a.from + i / 8) 0).toNat / 2 ^ (7 - i % 8) := ⟨_, rfl⟩
    have hzb : z < 256 := by rw [hz]; exact Nat.lt_of_le_of_lt (Nat.div_le_self _ _) (UInt8.toNat_lt _)
    by_cases hb : z % 2 = 1
    · have hbm := mskb_bit (k := i % 8) (by omega) (hz ▸ hb)
      have hat := mB_at (f := a.from) (l := a.b) (n := i) hin
      rw [← hc0] at hat
      have hadd : (((c.getD (a.from + i / 8) 0).toNat : Nat) : Int) + ((2 ^ (7 - i % 8) : Nat) : Int) = (((mskb (i % 8 + 1) (a.b.getD (a.from + i / 8) 0)).toNat : Nat) : Int) := by rw [hat, hbm.1]; simp
      repeat' (first
       | refine WPl.nil ?_ | refine WPq.then ?_ | refine WPq.thenR ?_ | refine WPq.thenE ?_ | refine WPq.blockN ?_ | refine WPq.blockR ?_ | refine WPq.blockE ?_ | refine WPq.blockO rfl ?_ | refine WPc.seq ?_ | refine WPc.block ?_ | refine WPc.ret ?_ | refine WPc.exit ?_ | refine WPc.skip ?_ | refine WPc.region ?_
       | (refine isCond ?_; first | refine WPc.cT ?_ | refine WPc.cF ?_ | (refine WPc.cQ (fun hc => ?_) (fun hc => ?_) <;> try exact prA))
       | (show WPl _ _ _ _ _ _ _ (⟨_, .binOp .shr _ _ _ _, _, _, _, _⟩ :: _) _; refine WPl.rdX (ReadR.bin rfl rfl (BinR.shrE (m := 7 - i % 8) (by omega) (by show _ ≤ 8; omega) hz.symm)) ?_)
       | (show WPl _ _ _ _ _ _ _ (⟨_, .binOp .shl _ _ _ _, _, _, _, _⟩ :: _) _; refine WPl.rdX (ReadR.bin rfl rfl (BinR.shl1 (m := 7 - i % 8) (by omega) (by omega))) ?_)
       | (show WPl _ _ _ _ _ _ _ (⟨_, .binOp .add _ _ _ _, _, _, _, _⟩ :: _) _; refine WPl.rdX (ReadR.bin rfl rfl (BinR.addT hadd (u8_ge _) (u8_le _))) ?_)
       | (refine isOp ?_; first | refine WPl.rd ?_ | refine WPl.sk ?_ | refine WPl.rdB ?_)
       | (refine isAl ?_; refine WPl.nw fun g => ?_)
       | (refine isBx ?_; refine WPl.nw fun g => ?_)
       | (refine isSt ?_; first | refine WPl.st1 ?_ | refine WPl.stA ?_ | refine WPl.stEB ?_ | refine WPl.stRB ?_)
       | (refine WPl.spQ (fun hc => ?_) (fun hc => ?_) <;> try exact prA)
       | fail)
      exact WPq.rnd (i + 1, c.set (a.from + i / 8) (mskb (i % 8 + 1) (a.b.getD (a.from + i / 8) 0))) ⟨by show i + 1 ≤ n; omega, by show _ = mB _ _ _; rw [mB_succ hin, hc0]⟩ (by show n - (i + 1) < km; omega)
    · skip
      repeat' (first
       | refine WPl.nil ?_ | refine WPq.then ?_ | refine WPq.thenR ?_ | refine WPq.thenE ?_ | refine WPq.blockN ?_ | refine WPq.blockR ?_ | refine WPq.blockE ?_ | refine WPq.blockO rfl ?_ | refine WPc.seq ?_ | refine WPc.block ?_ | refine WPc.ret ?_ | refine WPc.exit ?_ | refine WPc.skip ?_ | refine WPc.region ?_
       | (refine isCond ?_; first | refine WPc.cT ?_ | refine WPc.cF ?_ | (refine WPc.cQ (fun hc => ?_) (fun hc => ?_) <;> try exact prA))
       | (show WPl _ _ _ _ _ _ _ (⟨_, .binOp .shr _ _ _ _, _, _, _, _⟩ :: _) _; refine WPl.rdX (ReadR.bin rfl rfl (BinR.shrE (m := 7 - i % 8) (by omega) (by show _ ≤ 8; omega) hz.symm)) ?_)
       | (refine isOp ?_; first | refine WPl.rd ?_ | refine WPl.sk ?_ | refine WPl.rdB ?_)
       | (refine isAl ?_; refine WPl.nw fun g => ?_)
       | (refine isBx ?_; refine WPl.nw fun g => ?_)
       | (refine isSt ?_; first | refine WPl.st1 ?_ | refine WPl.stA ?_ | refine WPl.stEB ?_ | refine WPl.stRB ?_)
       | (refine WPl.spQ (fun hc => ?_) (fun hc => ?_) <;> try exact prA)
       | fail)
      exact WPq.rnd (i + 1, c) ⟨by show i + 1 ≤ n; omega, by show _ = mB _ _ _; rw [mB_bit hin (hz ▸ hb), hc0]⟩ (by show n - (i + 1) < km; omega)
  · obtain rfl : i = n := by omega
    rw [show pfc (a.masked i) i = [(1, [.bool a.six]), (16, u8s c), (1, [.int .i64 i])] by rw [pfc, Adr.masked_b, hc0]; rfl]
    repeat' (first
     | refine WPl.nil ?_ | refine WPq.then ?_ | refine WPq.thenR ?_ | refine WPq.thenE ?_ | refine WPq.blockN ?_ | refine WPq.blockR ?_ | refine WPq.blockE ?_ | refine WPq.blockO rfl ?_ | refine WPc.seq ?_ | refine WPc.block ?_ | refine WPc.ret ?_ | refine WPc.exit ?_ | refine WPc.skip ?_ | refine WPc.region ?_
     | (refine isCond ?_; first | refine WPc.cT ?_ | refine WPc.cF ?_ | (refine WPc.cQ (fun hc => ?_) (fun hc => ?_) <;> try exact prA))
     | (refine isOp ?_; first | refine WPl.rd ?_ | refine WPl.sk ?_ | refine WPl.rdB ?_)
     | (refine isAl ?_; refine WPl.nw fun g => ?_)
     | (refine isBx ?_; refine WPl.nw fun g => ?_)
     | (refine isSt ?_; first | refine WPl.st1 ?_ | refine WPl.stA ?_ | refine WPl.stEB ?_ | refine WPl.stRB ?_)
     | (refine WPl.spQ (fun hc => ?_) (fun hc => ?_) <;> try exact prA)
     | fail)
    all_goals try (first | exact WPq.dV | exact WPq.dR | exact WPq.dR2 | exact WPq.dH | exact WPq.dBH | exact WPq.dT)
theorem rmask_t (a : Adr) (n : Int) (h1 : -9223372036854775808 ≤ n) (h2 : n ≤ 9223372036854775807) : Triple Try.prog 72 #[ag (adc a), .int .i64 n] [] (RVal (maskV a n)) := by
  cases h : a.maskOk n with
  | true =>
    simp only [maskV, maskA, maskN, h, if_true]
    simp only [Adr.maskOk, Bool.and_eq_true, decide_eq_true_eq] at h
    obtain ⟨m, rfl⟩ := Int.eq_ofNat_of_zero_le h.2.1
    exact maskYes'_t a m h.1 (by omega)
  | false =>
    simp only [maskV, maskA, maskN, h, Bool.false_eq_true, if_false]
    exact maskNo'_t a n h h1 h2
end Go.Proofs.Yteofjhjhaaafjaa
