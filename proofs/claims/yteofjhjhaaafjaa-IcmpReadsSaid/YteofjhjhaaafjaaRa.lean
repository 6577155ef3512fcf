/- References of layers 1 (num) and 11 (inet): contracts. -/
import Derived.Test.YteofjhjhaaafjaaIn
namespace Go.Proofs.Yteofjhjhaaafjaa
open Go.RowKit
set_option linter.unusedSimpArgs false
set_option linter.unusedVariables false
set_option maxRecDepth 20000
set_option maxHeartbeats 4000000
attribute [local irreducible] WPc WPl WPq ReadR OpT BinR HasS bx rdN rowN Take Takes Prov Triple ResF BuildP Done ag Int.decLt Int.decLe Int.instDecidableEq

theorem nbs_cons (e : Int) (es : List Int) : nbs (e :: es) = UInt8.ofNat e.toNat :: nbs es := rfl
theorem ofNat_mod (x : Nat) : UInt8.ofNat (x % 256) = UInt8.ofNat x := by
  apply UInt8.toNat_inj.1; rw [u8_of, u8_of]; omega

theorem rnum_t (x n : Nat) (hx : x < 18446744073709551616) (h8 : n ≤ 8) : Triple Try.prog 68 #[.int .u64 x, .int .i64 n] [] (ROb (be x n)) := by
  refine Triple.enter Try.func68 rfl Try.ntmps68 rfl (fun W => ?_)
  dsimp only [argsF, Nat.reduceAdd]
  repeat' (first
   | refine WPl.nil ?_ | refine WPq.then ?_ | refine WPq.thenR ?_ | refine WPq.thenE ?_ | refine WPq.blockN ?_ | refine WPq.blockR ?_ | refine WPq.blockE ?_ | refine WPq.blockO rfl ?_ | refine WPc.seq ?_ | refine WPc.block ?_ | refine WPc.ret ?_ | refine WPc.exit ?_ | refine WPc.skip ?_ | refine WPc.region ?_
   | (refine isCond ?_; first | refine WPc.cT ?_ | refine WPc.cF ?_)
   | (refine isLit ?_; refine WPl.lit fun v hv => ?_)
   | (refine isOp ?_; first | refine WPl.rd ?_ | refine WPl.sk ?_ | refine WPl.rdB ?_)
   | fail)
  first | refine WPc.loop (σ := Value × Nat × Nat × List UInt8) (fun p => p.2.1 ≤ n ∧ p.1.oneCell' = true ∧ p.2.2.1 = x / 256 ^ p.2.1 ∧ p.2.2.2 = be x p.2.1) (fun p => [ob p.1 p.2.2.2]) (fun p => [(0, .int .u64 p.2.2.1), (1, .int .i64 n), (5, p.1), (6, .int .i64 p.2.1)]) (fun p => n - p.2.1) ((v, 0, x, [])) ?_ takesA frsA (fun st km hx hk => ?_)
  · exact ⟨Nat.zero_le _, hv, by simp, rfl⟩
  obtain ⟨s, i, y, c⟩ := st
  dsimp only at hx hk ⊢
  obtain ⟨hi, hs, hy, hc0⟩ := hx
  have hcl : c.length = i := by rw [hc0, be_length]
  have hyb : y < 18446744073709551616 := by rw [hy]; exact Nat.lt_of_le_of_lt (Nat.div_le_self _ _) ‹_›
  by_cases hlt : i < n
  · skip
    repeat' (first
     | refine WPl.nil ?_ | refine WPq.then ?_ | refine WPq.thenR ?_ | refine WPq.thenE ?_ | refine WPq.blockN ?_ | refine WPq.blockR ?_ | refine WPq.blockE ?_ | refine WPq.blockO rfl ?_ | refine WPc.seq ?_ | refine WPc.block ?_ | refine WPc.ret ?_ | refine WPc.exit ?_ | refine WPc.skip ?_ | refine WPc.region ?_
     | (refine isCond ?_; first | refine WPc.cT ?_ | refine WPc.cF ?_ | (refine WPc.cQ (fun hc => ?_) (fun hc => ?_) <;> try exact prA))
     | (refine isLit ?_; refine WPl.lit fun v hv => ?_)
     | (refine isApp ?_; refine WPl.app fun v hv => ?_)
     | (refine isOp ?_; first | refine WPl.rd ?_ | refine WPl.sk ?_ | refine WPl.rdB ?_)
     | (refine WPl.spQ (fun hc => ?_) (fun hc => ?_) <;> try exact prA)
     | fail)
    have e : be x (i + 1) = nbs [(y : Int) % 256] ++ c := by
      rw [be, hc0, nbs_cons, show ((y : Int) % 256).toNat = y % 256 by omega, ofNat_mod, hy]; rfl
    rw [← e]
    exact WPq.rnd (v, i + 1, y / 256, be x (i + 1)) ⟨by show i + 1 ≤ n; omega, by assumption, by show _ = _; rw [hy, Nat.div_div_eq_div_mul, Nat.pow_succ], rfl⟩ (by show n - (i + 1) < km; omega)
  · obtain rfl : i = n := by omega
    repeat' (first
     | refine WPl.nil ?_ | refine WPq.then ?_ | refine WPq.thenR ?_ | refine WPq.thenE ?_ | refine WPq.blockN ?_ | refine WPq.blockR ?_ | refine WPq.blockE ?_ | refine WPq.blockO rfl ?_ | refine WPc.seq ?_ | refine WPc.block ?_ | refine WPc.ret ?_ | refine WPc.exit ?_ | refine WPc.skip ?_ | refine WPc.region ?_
     | (refine isCond ?_; first | refine WPc.cT ?_ | refine WPc.cF ?_ | (refine WPc.cQ (fun hc => ?_) (fun hc => ?_) <;> try exact prA))
     | (refine isOp ?_; first | refine WPl.rd ?_ | refine WPl.sk ?_ | refine WPl.rdB ?_)
     | (refine WPl.spQ (fun hc => ?_) (fun hc => ?_) <;> try exact prA)
     | fail)
    rw [hc0]
    all_goals try (first | exact WPq.dV | exact WPq.dR | exact WPq.dR2 | exact WPq.dH | exact WPq.dBH | exact WPq.dT)

theorem rput_t (v : Value) (l : List UInt8) (x n : Nat) (hx : x < 18446744073709551616) (h8 : n ≤ 8) (hl : l.length ≤ 1000000) : Triple Try.prog 71 #[v, .int .u64 x, .int .i64 n] [rb v l] (ROb (l ++ be x n)) := by
  have hb := be_length x n
  refine Triple.enter Try.func71 rfl Try.ntmps71 rfl (fun W => ?_)
  dsimp only [argsF, Nat.reduceAdd]
  repeat' (first
   | refine WPl.nil ?_ | refine WPq.then ?_ | refine WPq.thenR ?_ | refine WPq.thenE ?_ | refine WPq.blockN ?_ | refine WPq.blockR ?_ | refine WPq.blockE ?_ | refine WPq.blockO rfl ?_ | refine WPc.seq ?_ | refine WPc.block ?_ | refine WPc.ret ?_ | refine WPc.exit ?_ | refine WPc.skip ?_ | refine WPc.region ?_
   | (refine isCond ?_; first | refine WPc.cT ?_ | refine WPc.cF ?_ | (refine WPc.cQ (fun hc => ?_) (fun hc => ?_) <;> try exact prA))
   | (refine isLit ?_; refine WPl.lit fun v hv => ?_)
   | (refine isApp ?_; refine WPl.app fun v hv => ?_)
   | (refine isCl ?_; refine WPl.cR (rnum_t x n hx h8) fun v hv => ?_)
   | (refine isOp ?_; first | refine WPl.rd ?_ | refine WPl.sk ?_ | refine WPl.rdB ?_)
   | (refine WPl.spQ (fun hc => ?_) (fun hc => ?_) <;> try exact prA)
   | fail)
  rw [show l ++ be x n = nbs [] ++ l ++ be x n by simp [nbs_nil]]
  all_goals try (first | exact WPq.dV | exact WPq.dR | exact WPq.dR2 | exact WPq.dH | exact WPq.dBH | exact WPq.dT)

theorem rget_t (v : Value) (l : List UInt8) (k n : Nat) (h : k + n ≤ l.length) (hl : l.length ≤ 1000000) (h8 : n ≤ 8) : Triple Try.prog 67 #[v, .int .i64 k, .int .i64 n] [rb v l] (RVal (.int .u64 (val (seg l k n) : Nat))) := by
  refine Triple.enter Try.func67 rfl Try.ntmps67 rfl (fun W => ?_)
  dsimp only [argsF, Nat.reduceAdd]
  repeat' (first
   | refine WPl.nil ?_ | refine WPq.then ?_ | refine WPq.thenR ?_ | refine WPq.thenE ?_ | refine WPq.blockN ?_ | refine WPq.blockR ?_ | refine WPq.blockE ?_ | refine WPq.blockO rfl ?_ | refine WPc.seq ?_ | refine WPc.block ?_ | refine WPc.ret ?_ | refine WPc.exit ?_ | refine WPc.skip ?_ | refine WPc.region ?_
   | (refine isCond ?_; first | refine WPc.cT ?_ | refine WPc.cF ?_)
   | (refine isOp ?_; first | refine WPl.rd ?_ | refine WPl.sk ?_ | refine WPl.rdB ?_)
   | fail)
  have hn := seg_length h
  have hbd : ∀ i, i < n → val ((seg l k n).take i) < 72057594037927936 := fun i hi => by
    have := val_lt ((seg l k n).take i)
    have h2 : 256 ^ ((seg l k n).take i).length ≤ 256 ^ 7 := Nat.pow_le_pow_right (by decide) (by rw [List.length_take]; omega)
    have : (256 : Nat) ^ 7 = 72057594037927936 := by decide
    omega
  first | refine WPc.loop (σ := Nat × Nat) (fun p => p.1 ≤ n ∧ p.2 = val ((seg l k n).take p.1)) (fun p => [rb v l]) (fun p => [(0, v), (1, .int .i64 k), (2, .int .i64 n), (7, .int .u64 p.2), (8, .int .i64 ((k : Int) + p.1))]) (fun p => n - p.1) ((0, 0)) ?_ takesA frsA (fun st km hx hk => ?_)
  · exact ⟨Nat.zero_le _, rfl⟩
  obtain ⟨i, c⟩ := st
  dsimp only at hx hk ⊢
  obtain ⟨hi, hc0⟩ := hx
  by_cases hlt : i < n
  · have hb := hbd i hlt
    rw [← hc0] at hb
    have hu := (l.getD (k + i) 0).toNat_lt
    repeat' (first
     | refine WPl.nil ?_ | refine WPq.then ?_ | refine WPq.thenR ?_ | refine WPq.thenE ?_ | refine WPq.blockN ?_ | refine WPq.blockR ?_ | refine WPq.blockE ?_ | refine WPq.blockO rfl ?_ | refine WPc.seq ?_ | refine WPc.block ?_ | refine WPc.ret ?_ | refine WPc.exit ?_ | refine WPc.skip ?_ | refine WPc.region ?_
     | (refine isCond ?_; first | refine WPc.cT ?_ | refine WPc.cF ?_ | (refine WPc.cQ (fun hc => ?_) (fun hc => ?_) <;> try exact prA))
     | (show WPl _ _ _ _ _ _ _ (⟨_, .convert _ _ _, _, _, _, _⟩ :: _) _; refine WPl.rdX (ReadR.conv rfl conv_u8) ?_)
     | (refine isOp ?_; first | refine WPl.rd ?_ | refine WPl.sk ?_ | refine WPl.rdB ?_)
     | (refine WPl.spQ (fun hc => ?_) (fun hc => ?_) <;> try exact prA)
     | fail)
    refine WPq.rnd (i + 1, c * 256 + (l.getD (k + i) 0).toNat) ⟨by show i + 1 ≤ n; omega, by
      show c * 256 + _ = _
      rw [val_take _ (by omega), ← hc0]
      congr 2
      simp [seg, List.getD_eq_getElem?_getD, List.getElem?_take, hlt, List.getElem?_drop]⟩ (by show n - (i + 1) < km; omega) takesA ?_
    dsimp only
    rw [show (((c * 256 + (l.getD (k + i) 0).toNat : Nat)) : Int) = (c : Int) * 256 + ((l.getD (k + i) 0).toNat : Int) by omega, show ((k : Int) + ((i + 1 : Nat) : Int)) = (k : Int) + (i : Int) + 1 by omega]
    exact frsA
  · obtain rfl : i = n := by omega
    repeat' (first
     | refine WPl.nil ?_ | refine WPq.then ?_ | refine WPq.thenR ?_ | refine WPq.thenE ?_ | refine WPq.blockN ?_ | refine WPq.blockR ?_ | refine WPq.blockE ?_ | refine WPq.blockO rfl ?_ | refine WPc.seq ?_ | refine WPc.block ?_ | refine WPc.ret ?_ | refine WPc.exit ?_ | refine WPc.skip ?_ | refine WPc.region ?_
     | (refine isCond ?_; first | refine WPc.cT ?_ | refine WPc.cF ?_ | (refine WPc.cQ (fun hc => ?_) (fun hc => ?_) <;> try exact prA))
     | (refine isOp ?_; first | refine WPl.rd ?_ | refine WPl.sk ?_ | refine WPl.rdB ?_)
     | (refine WPl.spQ (fun hc => ?_) (fun hc => ?_) <;> try exact prA)
     | fail)
    rw [List.take_of_length_le (by omega)] at hc0
    rw [← hc0]
    all_goals try (first | exact WPq.dV | exact WPq.dR | exact WPq.dR2 | exact WPq.dH | exact WPq.dBH | exact WPq.dT)

theorem rfold_t (m : Nat) (hm : m ≤ 18446744073709551615) : Triple Try.prog 127 #[.int .u64 m] [] (RVal (.int .u64 (fold m))) := by
  refine Triple.enter Try.func127 rfl Try.ntmps127 rfl (fun W => ?_)
  dsimp only [argsF, Nat.reduceAdd]
  repeat' (first
   | refine WPl.nil ?_ | refine WPq.then ?_ | refine WPq.thenR ?_ | refine WPq.thenE ?_ | refine WPq.blockN ?_ | refine WPq.blockR ?_ | refine WPq.blockE ?_ | refine WPq.blockO rfl ?_ | refine WPc.seq ?_ | refine WPc.block ?_ | refine WPc.ret ?_ | refine WPc.exit ?_ | refine WPc.skip ?_ | refine WPc.region ?_
   | (refine isCond ?_; first | refine WPc.cT ?_ | refine WPc.cF ?_)
   | (refine isOp ?_; first | refine WPl.rd ?_ | refine WPl.sk ?_ | refine WPl.rdB ?_)
   | fail)
  first | refine WPc.loop (σ := Nat × Nat) (fun p => p.1 ≤ 60 ∧ p.2 ≤ fbnd p.1 ∧ fold p.2 = fold m) (fun p => []) (fun p => [(0, .int .u64 p.2), (3, .int .i64 p.1)]) (fun p => 60 - p.1) ((0, m)) ?_ takesA frsA (fun st km hx hk => ?_)
  · exact ⟨Nat.zero_le _, hm, rfl⟩
  obtain ⟨i, c⟩ := st
  dsimp only at hx hk ⊢
  obtain ⟨hi, hc1, hc2⟩ := hx
  have hle := fbnd_le i
  by_cases hlt : i < 60 ∧ 65536 ≤ c
  · obtain ⟨hlt, hge⟩ := hlt
    repeat' (first
     | refine WPl.nil ?_ | refine WPq.then ?_ | refine WPq.thenR ?_ | refine WPq.thenE ?_ | refine WPq.blockN ?_ | refine WPq.blockR ?_ | refine WPq.blockE ?_ | refine WPq.blockO rfl ?_ | refine WPc.seq ?_ | refine WPc.block ?_ | refine WPc.ret ?_ | refine WPc.exit ?_ | refine WPc.skip ?_ | refine WPc.region ?_
     | (refine isCond ?_; first | refine WPc.cT ?_ | refine WPc.cF ?_ | (refine WPc.cQ (fun hc => ?_) (fun hc => ?_) <;> try exact prA))
     | (refine isOp ?_; first | refine WPl.rd ?_ | refine WPl.sk ?_ | refine WPl.rdB ?_)
     | (refine WPl.spQ (fun hc => ?_) (fun hc => ?_) <;> try exact prA)
     | fail)
    refine WPq.rnd (i + 1, c % 65536 + c / 65536) ⟨by show i + 1 ≤ 60; omega, fbnd_step hc1 hge, by show fold _ = _; rw [fold_step, hc2]⟩ (by show 60 - (i + 1) < km; omega) takesA ?_
    dsimp only
    rw [show (((c % 65536 + c / 65536 : Nat) : Int)) = (c : Int) % 65536 + (c : Int) / 65536 by omega]
    exact frsA
  · have hlow : c ≤ 65535 := by
      rcases Nat.lt_or_ge i 60 with h | h
      · omega
      · exact fbnd_end hc1 (by omega)
    have e : fold c = c := fold_low hlow
    rw [e] at hc2
    by_cases hlt2 : i < 60
    all_goals
      repeat' (first
       | refine WPl.nil ?_ | refine WPq.then ?_ | refine WPq.thenR ?_ | refine WPq.thenE ?_ | refine WPq.blockN ?_ | refine WPq.blockR ?_ | refine WPq.blockE ?_ | refine WPq.blockO rfl ?_ | refine WPc.seq ?_ | refine WPc.block ?_ | refine WPc.ret ?_ | refine WPc.exit ?_ | refine WPc.skip ?_ | refine WPc.region ?_
       | (refine isCond ?_; first | refine WPc.cT ?_ | refine WPc.cF ?_ | (refine WPc.cQ (fun hc => ?_) (fun hc => ?_) <;> try exact prA))
       | (refine isOp ?_; first | refine WPl.rd ?_ | refine WPl.sk ?_ | refine WPl.rdB ?_)
       | (refine WPl.spQ (fun hc => ?_) (fun hc => ?_) <;> try exact prA)
       | fail)
      exact WPq.dV (hc := by rw [← hc2]; rfl)

theorem rtotal_t (v : Value) (l : List UInt8) (hl : l.length ≤ 1000000) : Triple Try.prog 108 #[v] [rb v l] (RVal (.int .u64 (fold (wsum true l)))) := by
  refine Triple.enter Try.func108 rfl Try.ntmps108 rfl (fun W => ?_)
  dsimp only [argsF, Nat.reduceAdd]
  repeat' (first
   | refine WPl.nil ?_ | refine WPq.then ?_ | refine WPq.thenR ?_ | refine WPq.thenE ?_ | refine WPq.blockN ?_ | refine WPq.blockR ?_ | refine WPq.blockE ?_ | refine WPq.blockO rfl ?_ | refine WPc.seq ?_ | refine WPc.block ?_ | refine WPc.ret ?_ | refine WPc.exit ?_ | refine WPc.skip ?_ | refine WPc.region ?_
   | (refine isCond ?_; first | refine WPc.cT ?_ | refine WPc.cF ?_)
   | (refine isOp ?_; first | refine WPl.rd ?_ | refine WPl.sk ?_ | refine WPl.rdB ?_)
   | fail)
  first | refine WPc.loop (σ := Nat × Nat) (fun p => p.1 ≤ l.length + 1 ∧ p.1 % 2 = 0 ∧ p.2 = wsum true (l.take p.1)) (fun p => [rb v l]) (fun p => [(0, v), (3, .int .u64 p.2), (4, .int .i64 p.1)]) (fun p => l.length + 1 - p.1) ((0, 0)) ?_ takesA frsA (fun st km hx hk => ?_)
  · exact ⟨by simp, by simp, rfl⟩
  obtain ⟨i, c⟩ := st
  dsimp only at hx hk ⊢
  obtain ⟨hi, hev, hc0⟩ := hx
  have hw := wsum_le true (l.take i)
  have hL : (l.take i).length ≤ 1000000 := by rw [List.length_take]; omega
  have hbd : c ≤ 100000000000 := by omega
  by_cases hlt : i < l.length
  · have hb := (l.getD i 0).toNat_lt
    have e1 := wsum_snoc true (l.take i) (l.getD i 0)
    rw [← take_snoc l hlt, par_even, List.length_take, Nat.min_eq_left (by omega), if_pos hev, if_pos rfl, ← hc0] at e1
    clear hw
    by_cases hlt2 : i + 1 < l.length
    · have hb2 := (l.getD (i + 1) 0).toNat_lt
      have e2 := wsum_snoc true (l.take (i + 1)) (l.getD (i + 1) 0)
      have hp : par true (l.take (i + 1)) = false := by rw [par_even, List.length_take, Nat.min_eq_left (by omega), if_neg (by omega)]; rfl
      rw [← take_snoc l hlt2, hp, if_neg (by simp), e1] at e2
      repeat' (first
       | refine WPl.nil ?_ | refine WPq.then ?_ | refine WPq.thenR ?_ | refine WPq.thenE ?_ | refine WPq.blockN ?_ | refine WPq.blockR ?_ | refine WPq.blockE ?_ | refine WPq.blockO rfl ?_ | refine WPc.seq ?_ | refine WPc.block ?_ | refine WPc.ret ?_ | refine WPc.exit ?_ | refine WPc.skip ?_ | refine WPc.region ?_
       | (refine isCond ?_; first | refine WPc.cT ?_ | refine WPc.cF ?_ | (refine WPc.cQ (fun hc => ?_) (fun hc => ?_) <;> try exact prA))
       | (show WPl _ _ _ _ _ _ _ (⟨_, .convert _ _ _, _, _, _, _⟩ :: _) _; refine WPl.rdX (ReadR.conv rfl conv_u8) ?_)
       | (refine isOp ?_; first | refine WPl.rd ?_ | refine WPl.sk ?_ | refine WPl.rdB ?_)
       | (refine WPl.spQ (fun hc => ?_) (fun hc => ?_) <;> try exact prA)
       | fail)
      refine WPq.rnd (i + 2, c + 256 * (l.getD i 0).toNat + (l.getD (i + 1) 0).toNat) ⟨by show i + 2 ≤ _; omega, by show (i + 2) % 2 = 0; omega, e2.symm⟩ (by show _ - (i + 2) < km; omega) takesA ?_
      dsimp only
      rw [show (((c + 256 * (l.getD i 0).toNat + (l.getD (i + 1) 0).toNat : Nat)) : Int) = (c : Int) + 256 * ((l.getD i 0).toNat : Int) + ((l.getD (i + 1) 0).toNat : Int) by omega]
      exact frsA
    · have e2 : l.take (i + 2) = l.take (i + 1) := by rw [List.take_of_length_le (by omega), List.take_of_length_le (by omega)]
      repeat' (first
       | refine WPl.nil ?_ | refine WPq.then ?_ | refine WPq.thenR ?_ | refine WPq.thenE ?_ | refine WPq.blockN ?_ | refine WPq.blockR ?_ | refine WPq.blockE ?_ | refine WPq.blockO rfl ?_ | refine WPc.seq ?_ | refine WPc.block ?_ | refine WPc.ret ?_ | refine WPc.exit ?_ | refine WPc.skip ?_ | refine WPc.region ?_
       | (refine isCond ?_; first | refine WPc.cT ?_ | refine WPc.cF ?_ | (refine WPc.cQ (fun hc => ?_) (fun hc => ?_) <;> try exact prA))
       | (show WPl _ _ _ _ _ _ _ (⟨_, .convert _ _ _, _, _, _, _⟩ :: _) _; refine WPl.rdX (ReadR.conv rfl conv_u8) ?_)
       | (refine isOp ?_; first | refine WPl.rd ?_ | refine WPl.sk ?_ | refine WPl.rdB ?_)
       | (refine WPl.spQ (fun hc => ?_) (fun hc => ?_) <;> try exact prA)
       | fail)
      refine WPq.rnd (i + 2, c + 256 * (l.getD i 0).toNat) ⟨by show i + 2 ≤ _; omega, by show (i + 2) % 2 = 0; omega, by show _ = wsum true (l.take (i + 2)); rw [e2, e1]⟩ (by show _ - (i + 2) < km; omega) takesA ?_
      dsimp only
      rw [show (((c + 256 * (l.getD i 0).toNat : Nat)) : Int) = (c : Int) + 256 * ((l.getD i 0).toNat : Int) by omega]
      exact frsA
  · rw [List.take_of_length_le (by omega)] at hc0
    clear hw
    subst hc0
    repeat' (first
     | refine WPl.nil ?_ | refine WPq.then ?_ | refine WPq.thenR ?_ | refine WPq.thenE ?_ | refine WPq.blockN ?_ | refine WPq.blockR ?_ | refine WPq.blockE ?_ | refine WPq.blockO rfl ?_ | refine WPc.seq ?_ | refine WPc.block ?_ | refine WPc.ret ?_ | refine WPc.exit ?_ | refine WPc.skip ?_ | refine WPc.region ?_
     | (refine isCond ?_; first | refine WPc.cT ?_ | refine WPc.cF ?_ | (refine WPc.cQ (fun hc => ?_) (fun hc => ?_) <;> try exact prA))
     | (refine isCl ?_; refine WPl.cV (rfold_t (wsum true l) (by omega)) ?_)
     | (refine isOp ?_; first | refine WPl.rd ?_ | refine WPl.sk ?_ | refine WPl.rdB ?_)
     | (refine WPl.spQ (fun hc => ?_) (fun hc => ?_) <;> try exact prA)
     | fail)
    all_goals try (first | exact WPq.dV | exact WPq.dR | exact WPq.dR2 | exact WPq.dH | exact WPq.dBH | exact WPq.dT)
theorem rsum_t (v : Value) (l : List UInt8) (hl : l.length ≤ 1000000) : Triple Try.prog 77 #[v] [rb v l] (RVal (.int .u16 (csum l : Nat))) := by
  have hf := fold_le (wsum true l)
  refine Triple.enter Try.func77 rfl Try.ntmps77 rfl (fun W => ?_)
  dsimp only [argsF, Nat.reduceAdd]
  repeat' (first
   | refine WPl.nil ?_ | refine WPq.then ?_ | refine WPq.thenR ?_ | refine WPq.thenE ?_ | refine WPq.blockN ?_ | refine WPq.blockR ?_ | refine WPq.blockE ?_ | refine WPq.blockO rfl ?_ | refine WPc.seq ?_ | refine WPc.block ?_ | refine WPc.ret ?_ | refine WPc.exit ?_ | refine WPc.skip ?_ | refine WPc.region ?_
   | (refine isCond ?_; first | refine WPc.cT ?_ | refine WPc.cF ?_ | (refine WPc.cQ (fun hc => ?_) (fun hc => ?_) <;> try exact prA))
   | (refine isCl ?_; refine WPl.cV (rtotal_t v l hl) ?_)
   | (refine isOp ?_; first | refine WPl.rd ?_ | refine WPl.sk ?_ | refine WPl.rdB ?_)
   | (refine WPl.spQ (fun hc => ?_) (fun hc => ?_) <;> try exact prA)
   | fail)
  exact WPq.dV (hc := by exact intV (by unfold csum; omega))
end Go.Proofs.Yteofjhjhaaafjaa
