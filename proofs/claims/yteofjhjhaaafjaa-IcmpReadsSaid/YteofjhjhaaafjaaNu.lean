/- Layer 1 (num): contracts. -/
import Derived.Test.YteofjhjhaaafjaaTy
namespace Go.Proofs.Yteofjhjhaaafjaa
open Go.RowKit
set_option linter.unusedSimpArgs false
set_option linter.unusedVariables false
set_option maxRecDepth 20000
set_option maxHeartbeats 4000000
attribute [local irreducible] WPc WPl WPq ReadR OpT BinR HasS bx rdN rowN Take Takes Prov Triple ResF BuildP Done ag Int.decLt Int.decLe Int.instDecidableEq

theorem numGood_t (k : Int) : Triple Try.prog 100 #[.int .i64 k] [] (RVal (.bool (decide (1 ≤ k) && decide (k ≤ 8)))) := by
  refine Triple.enter Try.func100 rfl Try.ntmps100 rfl (fun W => ?_)
  dsimp only [argsF, Nat.reduceAdd]
  repeat' (first
   | refine WPl.nil ?_ | refine WPq.then ?_ | refine WPq.thenR ?_ | refine WPq.thenE ?_ | refine WPq.blockN ?_ | refine WPq.blockR ?_ | refine WPq.blockE ?_ | refine WPq.blockO rfl ?_ | refine WPc.seq ?_ | refine WPc.block ?_ | refine WPc.ret ?_ | refine WPc.exit ?_ | refine WPc.skip ?_ | refine WPc.region ?_
   | (refine isCond ?_; first | refine WPc.cT ?_ | refine WPc.cF ?_ | (refine WPc.cQ (fun hc => ?_) (fun hc => ?_) <;> try exact prA))
   | (refine isOp ?_; first | refine WPl.rd ?_ | refine WPl.sk ?_ | refine WPl.rdB ?_)
   | (refine WPl.spQ (fun hc => ?_) (fun hc => ?_) <;> try exact prA)
   | fail)
  all_goals exact WPq.dV (hc := by simp [resV]; try omega)

theorem clone_t (v : Value) (l : List UInt8) (hl : l.length ≤ 1000000000) : Triple Try.prog 99 #[v] [rb v l] (ROb l) := by
  refine Triple.enter Try.func99 rfl Try.ntmps99 rfl (fun W => ?_)
  dsimp only [argsF, Nat.reduceAdd]
  refine WPc.nilRow 5 ?_
  repeat' (first
   | refine WPl.nil ?_ | refine WPq.then ?_ | refine WPq.thenR ?_ | refine WPq.thenE ?_ | refine WPq.blockN ?_ | refine WPq.blockR ?_ | refine WPq.blockE ?_ | refine WPq.blockO rfl ?_ | refine WPc.seq ?_ | refine WPc.block ?_ | refine WPc.ret ?_ | refine WPc.exit ?_ | refine WPc.skip ?_ | refine WPc.region ?_
   | (refine isCond ?_; first | refine WPc.cT ?_ | refine WPc.cF ?_)
   | (refine isOp ?_; first | refine WPl.rd ?_ | refine WPl.sk ?_ | refine WPl.rdB ?_)
   | fail)
  refine WPc.cS (fun hc => WPc.know (HasS.nilLen hasA hc) fun h0 => ?_) (fun hc => ?_)
  · obtain rfl := List.length_eq_zero_iff.1 h0
    repeat' (first
     | refine WPl.nil ?_ | refine WPq.then ?_ | refine WPq.thenR ?_ | refine WPq.thenE ?_ | refine WPq.blockN ?_ | refine WPq.blockR ?_ | refine WPq.blockE ?_ | refine WPq.blockO rfl ?_ | refine WPc.seq ?_ | refine WPc.block ?_ | refine WPc.ret ?_ | refine WPc.exit ?_ | refine WPc.skip ?_ | refine WPc.region ?_
     | (refine isCond ?_; first | refine WPc.cT ?_ | refine WPc.cF ?_)
     | (refine isOp ?_; first | refine WPl.rd ?_ | refine WPl.sk ?_ | refine WPl.rdB ?_)
     | fail)
    all_goals try (first | exact WPq.dV | exact WPq.dR | exact WPq.dR2 | exact WPq.dH | exact WPq.dBH | exact WPq.dT)
  · skip
    repeat' (first
     | refine WPl.nil ?_ | refine WPq.then ?_ | refine WPq.thenR ?_ | refine WPq.thenE ?_ | refine WPq.blockN ?_ | refine WPq.blockR ?_ | refine WPq.blockE ?_ | refine WPq.blockO rfl ?_ | refine WPc.seq ?_ | refine WPc.block ?_ | refine WPc.ret ?_ | refine WPc.exit ?_ | refine WPc.skip ?_ | refine WPc.region ?_
     | (refine isCond ?_; first | refine WPc.cT ?_ | refine WPc.cF ?_)
     | (refine isLit ?_; refine WPl.lit fun v hv => ?_)
     | (refine isApp ?_; refine WPl.app fun v hv => ?_)
     | (refine isOp ?_; first | refine WPl.rd ?_ | refine WPl.sk ?_ | refine WPl.rdB ?_)
     | fail)
    all_goals try (first | exact WPq.dV | exact WPq.dR | exact WPq.dR2 | exact WPq.dH | exact WPq.dBH | exact WPq.dT)

theorem cut_t (v : Value) (l : List UInt8) (k n : Nat) (h : k + n ≤ l.length) (hl : l.length ≤ 1000000000) :
    Triple Try.prog 102 #[v, .int .i64 k, .int .i64 n] [rb v l] (RVal (.tuple #[subv 1 v k n, .bool true])) := by
  refine Triple.enter Try.func102 rfl Try.ntmps102 rfl (fun W => ?_)
  dsimp only [argsF, Nat.reduceAdd]
  repeat' (first
   | refine WPl.nil ?_ | refine WPq.then ?_ | refine WPq.thenR ?_ | refine WPq.thenE ?_ | refine WPq.blockN ?_ | refine WPq.blockR ?_ | refine WPq.blockE ?_ | refine WPq.blockO rfl ?_ | refine WPc.seq ?_ | refine WPc.block ?_ | refine WPc.ret ?_ | refine WPc.exit ?_ | refine WPc.skip ?_ | refine WPc.region ?_
   | (refine isCond ?_; first | refine WPc.cT ?_ | refine WPc.cF ?_ | (refine WPc.cQ (fun hc => ?_) (fun hc => ?_) <;> try exact prA))
   | (refine isOp ?_; first | refine WPl.rd ?_ | refine WPl.sk ?_ | refine WPl.rdB ?_)
   | (refine WPl.spQ (fun hc => ?_) (fun hc => ?_) <;> try exact prA)
   | fail)
  all_goals try simp only [Nat.add_sub_cancel_left]
  all_goals try (first | exact WPq.dV | exact WPq.dR | exact WPq.dR2 | exact WPq.dH | exact WPq.dBH | exact WPq.dT)

theorem cutNo_t (v : Value) (l : List UInt8) (k n : Int) (h : k < 0 ∨ n < 0 ∨ (l.length : Int) < k + n) (hl : l.length ≤ 1000000000) (hk : -9223372036854775808 ≤ k) :
    Triple Try.prog 102 #[v, .int .i64 k, .int .i64 n] [rb v l] (RVal (.tuple #[.slice none 0 0, .bool false])) := by
  refine Triple.enter Try.func102 rfl Try.ntmps102 rfl (fun W => ?_)
  dsimp only [argsF, Nat.reduceAdd]
  repeat' (first
   | refine WPl.nil ?_ | refine WPq.then ?_ | refine WPq.thenR ?_ | refine WPq.thenE ?_ | refine WPq.blockN ?_ | refine WPq.blockR ?_ | refine WPq.blockE ?_ | refine WPq.blockO rfl ?_ | refine WPc.seq ?_ | refine WPc.block ?_ | refine WPc.ret ?_ | refine WPc.exit ?_ | refine WPc.skip ?_ | refine WPc.region ?_
   | (refine isCond ?_; first | refine WPc.cT ?_ | refine WPc.cF ?_ | (refine WPc.cQ (fun hc => ?_) (fun hc => ?_) <;> try exact prA))
   | (refine isOp ?_; first | refine WPl.rd ?_ | refine WPl.sk ?_ | refine WPl.rdB ?_)
   | (refine WPl.spQ (fun hc => ?_) (fun hc => ?_) <;> try exact prA)
   | fail)
  all_goals try (first | exact WPq.dV | exact WPq.dR | exact WPq.dR2 | exact WPq.dH | exact WPq.dBH | exact WPq.dT)

theorem get_t (v : Value) (l : List UInt8) (k n : Nat) (h : k + n ≤ l.length) (hl : l.length ≤ 1000000000) (h1 : 1 ≤ n) (h8 : n ≤ 8) :
    Triple Try.prog 64 #[v, .int .i64 k, .int .i64 n] [rb v l] (RVal (.tuple #[.int .u64 (val (seg l k n) : Nat), .bool true])) := by
  refine Triple.enter Try.func64 rfl Try.ntmps64 rfl (fun W => ?_)
  dsimp only [argsF, Nat.reduceAdd]
  repeat' (first
   | refine WPl.nil ?_ | refine WPq.then ?_ | refine WPq.thenR ?_ | refine WPq.thenE ?_ | refine WPq.blockN ?_ | refine WPq.blockR ?_ | refine WPq.blockE ?_ | refine WPq.blockO rfl ?_ | refine WPc.seq ?_ | refine WPc.block ?_ | refine WPc.ret ?_ | refine WPc.exit ?_ | refine WPc.skip ?_ | refine WPc.region ?_
   | (refine isCond ?_; first | refine WPc.cT ?_ | refine WPc.cF ?_ | (refine WPc.cQ (fun hc => ?_) (fun hc => ?_) <;> try exact prA))
   | (refine isCl ?_; refine WPl.cV (cut_t _ _ _ _ h hl) ?_)
   | (refine isCl ?_; refine WPl.cV (numGood_t _) ?_)
   | (refine isOp ?_; first | refine WPl.rd ?_ | refine WPl.sk ?_ | refine WPl.rdB ?_)
   | (refine WPl.spQ (fun hc => ?_) (fun hc => ?_) <;> try exact prA)
   | fail)
  have hn := seg_length h
  have hbd : ∀ i, i < n → val ((seg l k n).take i) < 72057594037927936 := fun i hi => by
    have := val_lt ((seg l k n).take i)
    have h2 : 256 ^ ((seg l k n).take i).length ≤ 256 ^ 7 := Nat.pow_le_pow_right (by decide) (by rw [List.length_take]; omega)
    have : (256 : Nat) ^ 7 = 72057594037927936 := by decide
    omega
  first | refine WPc.loop (σ := Nat) (fun i => i ≤ n) (fun i => [rb v l]) (fun i => [(27, subv 1 v k n), (28, .int .i64 (seg l k n).length), (29, .int .i64 i), (10, .int .u64 (val ((seg l k n).take i) : Nat))]) (fun i => n - i) (0) ?_ takesA frsA (fun st km hx hk => ?_)
  · omega
  obtain ⟨x, rfl⟩ : ∃ x, x = st := ⟨_, rfl⟩
  have hb := hbd x
  repeat' (first
   | refine WPl.nil ?_ | refine WPq.then ?_ | refine WPq.thenR ?_ | refine WPq.thenE ?_ | refine WPq.blockN ?_ | refine WPq.blockR ?_ | refine WPq.blockE ?_ | refine WPq.blockO rfl ?_ | refine WPc.seq ?_ | refine WPc.block ?_ | refine WPc.ret ?_ | refine WPc.exit ?_ | refine WPc.skip ?_ | refine WPc.region ?_
   | (refine isCond ?_; first | refine WPc.cT ?_ | refine WPc.cF ?_ | (refine WPc.cQ (fun hc => ?_) (fun hc => ?_) <;> try exact prA))
   | (show WPl _ _ _ _ _ _ _ (⟨_, .binOp .shl _ _ _ _, _, _, _, _⟩ :: _) _; refine WPl.rdX (ReadR.bin rfl rfl (BinR.shl8 (hb (by omega)))) ?_)
   | (show WPl _ _ _ _ _ _ _ (⟨_, .binOp .or _ _ _ _, _, _, _, _⟩ :: _) _; refine WPl.rdX (ReadR.bin rfl rfl (BinR.or8 (hb (by omega)) (UInt8.toNat_lt _))) ?_)
   | (show WPl _ _ _ _ _ _ _ (⟨_, .convert _ _ _, _, _, _, _⟩ :: _) _; refine WPl.rdX (ReadR.conv rfl conv_u8) ?_)
   | (refine isOp ?_; first | refine WPl.rd ?_ | refine WPl.sk ?_ | refine WPl.rdB ?_)
   | (refine WPl.spQ (fun hc => ?_) (fun hc => ?_) <;> try exact prA)
   | fail)
  · refine WPq.rnd (x + 1) (by omega) (by omega) takesA ?_
    rw [val_take _ (by omega)]
    exact frsA
  · exact WPq.dV (hc := by rw [show x = n by omega, List.take_of_length_le (by omega)]; rfl)

theorem getNo_t (v : Value) (l : List UInt8) (k n : Int) (h : k < 0 ∨ n < 1 ∨ 8 < n ∨ (l.length : Int) < k + n) (hl : l.length ≤ 1000000000) (hk : -9223372036854775808 ≤ k) :
    Triple Try.prog 64 #[v, .int .i64 k, .int .i64 n] [rb v l] (RVal (.tuple #[.int .u64 0, .bool false])) := by
  by_cases hc : k < 0 ∨ n < 0 ∨ (l.length : Int) < k + n
  · skip
    refine Triple.enter Try.func64 rfl Try.ntmps64 rfl (fun W => ?_)
    dsimp only [argsF, Nat.reduceAdd]
    repeat' (first
     | refine WPl.nil ?_ | refine WPq.then ?_ | refine WPq.thenR ?_ | refine WPq.thenE ?_ | refine WPq.blockN ?_ | refine WPq.blockR ?_ | refine WPq.blockE ?_ | refine WPq.blockO rfl ?_ | refine WPc.seq ?_ | refine WPc.block ?_ | refine WPc.ret ?_ | refine WPc.exit ?_ | refine WPc.skip ?_ | refine WPc.region ?_
     | (refine isCond ?_; first | refine WPc.cT ?_ | refine WPc.cF ?_ | (refine WPc.cQ (fun hc => ?_) (fun hc => ?_) <;> try exact prA))
     | (refine isCl ?_; refine WPl.cV (cutNo_t _ _ _ _ hc hl hk) ?_)
     | (refine isCl ?_; refine WPl.cV (numGood_t _) ?_)
     | (refine isOp ?_; first | refine WPl.rd ?_ | refine WPl.sk ?_ | refine WPl.rdB ?_)
     | (refine WPl.spQ (fun hc => ?_) (fun hc => ?_) <;> try exact prA)
     | fail)
    all_goals try (first | exact WPq.dV | exact WPq.dR | exact WPq.dR2 | exact WPq.dH | exact WPq.dBH | exact WPq.dT)
  · obtain ⟨a, rfl⟩ : ∃ a : Nat, k = a := ⟨k.toNat, by omega⟩
    obtain ⟨b, rfl⟩ : ∃ b : Nat, n = b := ⟨n.toNat, by omega⟩
    refine Triple.enter Try.func64 rfl Try.ntmps64 rfl (fun W => ?_)
    dsimp only [argsF, Nat.reduceAdd]
    repeat' (first
     | refine WPl.nil ?_ | refine WPq.then ?_ | refine WPq.thenR ?_ | refine WPq.thenE ?_ | refine WPq.blockN ?_ | refine WPq.blockR ?_ | refine WPq.blockE ?_ | refine WPq.blockO rfl ?_ | refine WPc.seq ?_ | refine WPc.block ?_ | refine WPc.ret ?_ | refine WPc.exit ?_ | refine WPc.skip ?_ | refine WPc.region ?_
     | (refine isCond ?_; first | refine WPc.cT ?_ | refine WPc.cF ?_ | (refine WPc.cQ (fun hc => ?_) (fun hc => ?_) <;> try exact prA))
     | (refine isCl ?_; refine WPl.cV (cut_t _ _ _ _ ?_ hl) ?_; (first | omega | assumption | fail))
     | (refine isCl ?_; refine WPl.cV (numGood_t _) ?_)
     | (refine isOp ?_; first | refine WPl.rd ?_ | refine WPl.sk ?_ | refine WPl.rdB ?_)
     | (refine WPl.spQ (fun hc => ?_) (fun hc => ?_) <;> try exact prA)
     | fail)
    all_goals try (first | exact WPq.dV | exact WPq.dR | exact WPq.dR2 | exact WPq.dH | exact WPq.dBH | exact WPq.dT)

theorem put_t (v : Value) (l : List UInt8) (x n : Nat) (hl : l.length ≤ 1000000) (hx : x < 18446744073709551616) (h1 : 1 ≤ n) (h8 : n ≤ 8) :
    Triple Try.prog 62 #[v, .int .u64 x, .int .i64 n] [rb v l] (ROb (l ++ be x n)) := by
  refine Triple.enter Try.func62 rfl Try.ntmps62 rfl (fun W => ?_)
  dsimp only [argsF, Nat.reduceAdd]
  repeat' (first
   | refine WPl.nil ?_ | refine WPq.then ?_ | refine WPq.thenR ?_ | refine WPq.thenE ?_ | refine WPq.blockN ?_ | refine WPq.blockR ?_ | refine WPq.blockE ?_ | refine WPq.blockO rfl ?_ | refine WPc.seq ?_ | refine WPc.block ?_ | refine WPc.ret ?_ | refine WPc.exit ?_ | refine WPc.skip ?_ | refine WPc.region ?_
   | (refine isCond ?_; first | refine WPc.cT ?_ | refine WPc.cF ?_ | (refine WPc.cQ (fun hc => ?_) (fun hc => ?_) <;> try exact prA))
   | (refine isCl ?_; refine WPl.cR (clone_t _ _ ?_) fun v hv => ?_; (first | omega | assumption | fail))
   | (refine isCl ?_; refine WPl.cV (numGood_t _) ?_)
   | (refine isOp ?_; first | refine WPl.rd ?_ | refine WPl.sk ?_ | refine WPl.rdB ?_)
   | (refine WPl.spQ (fun hc => ?_) (fun hc => ?_) <;> try exact prA)
   | fail)
  have hbl := be_length x n
  first | refine WPc.loop (σ := Value × Nat × List UInt8) (fun p => p.2.1 ≤ n ∧ p.1.oneCell' = true ∧ p.2.2 = l ++ (be x n).take (n - p.2.1)) (fun p => [ob p.1 p.2.2]) (fun p => [(7, p.1), (8, .int .i64 ((p.2.1 : Int) - 1)), (1, .int .u64 x)]) (fun p => p.2.1) ((v, n, l)) ?_ takesA frsA (fun st km hx hk => ?_)
  · simp; assumption
  obtain ⟨s, m, c⟩ := st
  dsimp only at hx hk ⊢
  obtain ⟨hm, hs, hcc⟩ := hx
  have hcl : c.length = l.length + (n - m) := by rw [hcc, List.length_append, List.length_take]; omega
  repeat' (first
   | refine WPl.nil ?_ | refine WPq.then ?_ | refine WPq.thenR ?_ | refine WPq.thenE ?_ | refine WPq.blockN ?_ | refine WPq.blockR ?_ | refine WPq.blockE ?_ | refine WPq.blockO rfl ?_ | refine WPc.seq ?_ | refine WPc.block ?_ | refine WPc.ret ?_ | refine WPc.exit ?_ | refine WPc.skip ?_ | refine WPc.region ?_
   | (refine isCond ?_; first | refine WPc.cT ?_ | refine WPc.cF ?_ | (refine WPc.cQ (fun hc => ?_) (fun hc => ?_) <;> try exact prA))
   | (show WPl _ _ _ _ _ _ _ (⟨_, .binOp .shr _ _ _ _, _, _, _, _⟩ :: _) _; refine WPl.rdX (ReadR.bin rfl rfl (BinR.shrI (by omega) (by show _ ≤ (64 : Int); omega))) ?_)
   | (refine isLit ?_; refine WPl.lit fun v hv => ?_)
   | (refine isApp ?_; refine WPl.app fun v hv => ?_)
   | (refine isOp ?_; first | refine WPl.rd ?_ | refine WPl.sk ?_ | refine WPl.rdB ?_)
   | (refine WPl.spQ (fun hc => ?_) (fun hc => ?_) <;> try exact prA)
   | fail)
  · refine WPq.rnd (v, m - 1, _) ⟨by show m - 1 ≤ n; omega, hv, ?_⟩ (by show m - 1 < km; omega) takesA ?_
    · show c ++ nbs [_] = _
      rw [nbs_u8, nbs_nil, hcc, show n - (m - 1) = n - m + 1 by omega, take_snoc _ (by omega), be_get x (by omega), show n - 1 - (n - m) = m - 1 by omega,
        show (8 * ((m : Int) - 1)).toNat = 8 * (m - 1) by omega, Nat.pow_mul, List.append_assoc]
    · dsimp only
      rw [show (((m - 1 : Nat) : Int) - 1) = (m : Int) - 1 - 1 by omega]
      exact frsA
  · obtain rfl : m = 0 := by omega
    rw [hcc, Nat.sub_zero, List.take_of_length_le (by omega)]
    all_goals try (first | exact WPq.dV | exact WPq.dR | exact WPq.dR2 | exact WPq.dH | exact WPq.dBH | exact WPq.dT)
theorem bytes_t (v : Value) (vs : List Value) (ls : List (List UInt8)) (h : vs.length = ls.length) (hl : ls.flatten.length ≤ 1000000) (h0 : vs.length ≤ 1000000) :
    Triple Try.prog 61 #[v] (rdN v vs.length vs :: rbz vs ls) (ROb ls.flatten) := by
  refine Triple.enter Try.func61 rfl Try.ntmps61 rfl (fun W => ?_)
  dsimp only [argsF, Nat.reduceAdd]
  refine WPc.nilRow 5 ?_
  repeat' (first
   | refine WPl.nil ?_ | refine WPq.then ?_ | refine WPq.thenR ?_ | refine WPq.thenE ?_ | refine WPq.blockN ?_ | refine WPq.blockR ?_ | refine WPq.blockE ?_ | refine WPq.blockO rfl ?_ | refine WPc.seq ?_ | refine WPc.block ?_ | refine WPc.ret ?_ | refine WPc.exit ?_ | refine WPc.skip ?_ | refine WPc.region ?_
   | (refine isCond ?_; first | refine WPc.cT ?_ | refine WPc.cF ?_)
   | (refine isOp ?_; first | refine WPl.rd ?_ | refine WPl.sk ?_ | refine WPl.rdB ?_)
   | fail)
  first | refine WPc.loop (σ := Value × Nat × List UInt8) (fun p => p.2.1 ≤ ls.length ∧ p.1.oneCell' = true ∧ p.2.2 = (ls.take p.2.1).flatten) (fun p => ob p.1 p.2.2 :: rdN v vs.length vs :: rbz vs ls) (fun p => [(3, p.1), (6, v), (7, .int .i64 vs.length), (8, .int .i64 p.2.1)]) (fun p => ls.length - p.2.1) ((.slice none 0 0, 0, [])) ?_ takesA frsA (fun st km hx hk => ?_)
  · exact ⟨Nat.zero_le _, rfl, rfl⟩
  obtain ⟨s, i, c⟩ := st
  dsimp only at hx hk ⊢
  obtain ⟨hi, hs, hcc⟩ := hx
  by_cases hlt : i < ls.length
  · obtain ⟨u, hu⟩ : ∃ u, vs[i]? = some u := ⟨_, List.getElem?_eq_getElem (by omega)⟩
    obtain ⟨l, hl'⟩ : ∃ l, ls[i]? = some l := ⟨_, List.getElem?_eq_getElem hlt⟩
    refine WPc.dup (A := rb u l) (List.Mem.tail _ (List.Mem.tail _ (mem_rbz hu hl'))) rdN_own ?_
    have e : (ls.take (i + 1)).flatten = c ++ l := by rw [hcc, List.take_add_one, hl']; simp
    have hle : (c ++ l).length ≤ ls.flatten.length := by
      rw [← e, ← List.take_append_drop (i + 1) ls, List.flatten_append]; simp
    rw [List.length_append] at hle
    repeat' (first
     | refine WPl.nil ?_ | refine WPq.then ?_ | refine WPq.thenR ?_ | refine WPq.thenE ?_ | refine WPq.blockN ?_ | refine WPq.blockR ?_ | refine WPq.blockE ?_ | refine WPq.blockO rfl ?_ | refine WPc.seq ?_ | refine WPc.block ?_ | refine WPc.ret ?_ | refine WPc.exit ?_ | refine WPc.skip ?_ | refine WPc.region ?_
     | (refine isCond ?_; first | refine WPc.cT ?_ | refine WPc.cF ?_ | (refine WPc.cQ (fun hc => ?_) (fun hc => ?_) <;> try exact prA))
     | (show WPl _ _ _ _ _ _ _ (⟨_, .load _ _, _, _, _, _⟩ :: _) _; refine WPl.rdX ((by apply ReadR.loadE; exact rfl; exact hasA; exact hu)) ?_)
     | (refine isApp ?_; refine WPl.app fun v hv => ?_)
     | (refine isOp ?_; first | refine WPl.rd ?_ | refine WPl.sk ?_ | refine WPl.rdB ?_)
     | (refine WPl.spQ (fun hc => ?_) (fun hc => ?_) <;> try exact prA)
     | fail)
    exact WPq.rnd (v, i + 1, c ++ l) ⟨by show i + 1 ≤ _; omega, hv, e.symm⟩ (by show _ - (i + 1) < km; omega)
  · obtain rfl : i = ls.length := by omega
    repeat' (first
     | refine WPl.nil ?_ | refine WPq.then ?_ | refine WPq.thenR ?_ | refine WPq.thenE ?_ | refine WPq.blockN ?_ | refine WPq.blockR ?_ | refine WPq.blockE ?_ | refine WPq.blockO rfl ?_ | refine WPc.seq ?_ | refine WPc.block ?_ | refine WPc.ret ?_ | refine WPc.exit ?_ | refine WPc.skip ?_ | refine WPc.region ?_
     | (refine isCond ?_; first | refine WPc.cT ?_ | refine WPc.cF ?_ | (refine WPc.cQ (fun hc => ?_) (fun hc => ?_) <;> try exact prA))
     | (refine isOp ?_; first | refine WPl.rd ?_ | refine WPl.sk ?_ | refine WPl.rdB ?_)
     | (refine WPl.spQ (fun hc => ?_) (fun hc => ?_) <;> try exact prA)
     | fail)
    rw [hcc, List.take_length]
    all_goals try (first | exact WPq.dV | exact WPq.dR | exact WPq.dR2 | exact WPq.dH | exact WPq.dBH | exact WPq.dT)
end Go.Proofs.Yteofjhjhaaafjaa
