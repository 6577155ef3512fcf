/- What the row of gateHeld_card_holds needs: part 5. -/
import Derived.Test.YtpilenbdimhegaaGreatDoorGHe4
/- References of layers 1 (num) and 11 (inet): contracts. -/
namespace Go.Proofs.YtpilenbdimhegaaGreatDoor
open Go.RowKit
set_option linter.unusedSimpArgs false
set_option linter.unusedVariables false
set_option maxRecDepth 20000
set_option maxHeartbeats 4000000
attribute [local irreducible] WPc WPl WPq ReadR OpT BinR HasS bx rdN rowN Take Takes Prov Triple ResF BuildP Done ag Int.decLt Int.decLe Int.instDecidableEq

theorem nbs_cons (e : Int) (es : List Int) : nbs (e :: es) = UInt8.ofNat e.toNat :: nbs es := rfl
theorem ofNat_mod (x : Nat) : UInt8.ofNat (x % 256) = UInt8.ofNat x := by
  apply UInt8.toNat_inj.1; rw [u8_of, u8_of]; omega

theorem rnum_t (x n : Nat) (hx : x < 18446744073709551616) (h8 : n ≤ 8) : Triple Tryz.prog 129 #[.int .u64 x, .int .i64 n] [] (ROb (be x n)) := by
  refine Triple.enter Tryz.func129 rfl Tryz.ntmps129 rfl (fun W => ?_)
  dsimp only [argsF, Nat.reduceAdd]
  repeat' (first
   | refine WPl.nil ?_ | refine WPq.then ?_ | refine WPc.seq ?_ | refine WPc.block ?_ | refine WPc.region ?_
   | (refine isLit ?_; refine WPl.lit fun v hv => ?_)
   | (refine isOp ?_; first | refine WPl.rd ?_ | refine WPl.sk ?_ | refine WPl.rdB ?_)
   | fail)
  first | refine WPc.loop (σ := Value × Nat × Nat × List UInt8) (fun p => p.2.1 ≤ n ∧ p.1.oneCell' = true ∧ p.2.2.1 = x / 256 ^ p.2.1 ∧ p.2.2.2 = be x p.2.1) (fun p => [ob p.1 p.2.2.2]) (fun p => [(0, .int .u64 p.2.2.1), (1, .int .i64 n), (5, p.1), (6, .int .i64 p.2.1)]) (fun p => n - p.2.1) ((v, 0, x, [])) ?_ takesA frsA (fun st km hx hk => ?_)
  · exact ⟨Nat.zero_le _, hv, by simp, rfl⟩
  obtain ⟨s, i, y, c⟩ := st
  dsimp only at hx hk ⊢
  obtain ⟨hi, hs, hy, hc0⟩ := hx
  have hcl : c.length = i := by rw [hc0, be_length]
  have hyb : y < 18446744073709551616 := by rw [hy]; exact Nat.lt_of_le_of_lt (Nat.div_le_self _ _) ‹_›
  by_cases hlt : i < n
  · skip
    repeat' (first
     | refine WPl.nil ?_ | refine WPq.then ?_ | refine WPq.blockN ?_ | refine WPc.seq ?_ | refine WPc.block ?_ | refine WPc.skip ?_ | refine WPc.region ?_
     | (refine isCond ?_; first | refine WPc.cT ?_ | refine WPc.cF ?_ | (refine WPc.cQ (fun hc => ?_) (fun hc => ?_) <;> try exact prA))
     | (refine isLit ?_; refine WPl.lit fun v hv => ?_)
     | (refine isApp ?_; refine WPl.app fun v hv => ?_)
     | (refine isOp ?_; first | refine WPl.rd ?_ | refine WPl.sk ?_ | refine WPl.rdB ?_)
     | (refine WPl.spQ (fun hc => ?_) (fun hc => ?_) <;> try exact prA)
     | fail)
    have e : be x (i + 1) = nbs [(y : Int) % 256] ++ c := by
      rw [be, hc0, nbs_cons, show ((y : Int) % 256).toNat = y % 256 by omega, ofNat_mod, hy]; rfl
    rw [← e]
    exact WPq.rnd (v, i + 1, y / 256, be x (i + 1)) ⟨by show i + 1 ≤ n; omega, by assumption, by show _ = _; rw [hy, Nat.div_div_eq_div_mul, Nat.pow_succ], rfl⟩ (by show n - (i + 1) < km; omega)
  · obtain rfl : i = n := by omega
    repeat' (first
     | refine WPl.nil ?_ | refine WPq.then ?_ | refine WPq.thenE ?_ | refine WPq.blockE ?_ | refine WPc.seq ?_ | refine WPc.ret ?_ | refine WPc.exit ?_ | refine WPc.region ?_
     | (refine isCond ?_; first | refine WPc.cT ?_ | refine WPc.cF ?_ | (refine WPc.cQ (fun hc => ?_) (fun hc => ?_) <;> try exact prA))
     | (refine isOp ?_; first | refine WPl.rd ?_ | refine WPl.sk ?_ | refine WPl.rdB ?_)
     | (refine WPl.spQ (fun hc => ?_) (fun hc => ?_) <;> try exact prA)
     | fail)
    rw [hc0]
    all_goals try (first | exact WPq.dTp | exact WPq.dTs | exact WPq.dV | exact WPq.dR | exact WPq.dR2 | exact WPq.dH | exact WPq.dBH | exact WPq.dT)

theorem rput_t (v : Value) (l : List UInt8) (x n : Nat) (hx : x < 18446744073709551616) (h8 : n ≤ 8) (hl : l.length ≤ 1000000) : Triple Tryz.prog 97 #[v, .int .u64 x, .int .i64 n] [rb v l] (ROb (l ++ be x n)) := by
  have hb := be_length x n
  refine Triple.enter Tryz.func97 rfl Tryz.ntmps97 rfl (fun W => ?_)
  dsimp only [argsF, Nat.reduceAdd]
  repeat' (first
   | refine WPl.nil ?_ | refine WPq.then ?_ | refine WPc.seq ?_ | refine WPc.ret ?_ | refine WPc.region ?_
   | (refine isLit ?_; refine WPl.lit fun v hv => ?_)
   | (refine isApp ?_; refine WPl.app fun v hv => ?_)
   | (refine isCl ?_; refine WPl.cR (rnum_t x n hx h8) fun v hv => ?_)
   | (refine isOp ?_; first | refine WPl.rd ?_ | refine WPl.sk ?_ | refine WPl.rdB ?_)
   | fail)
  rw [show l ++ be x n = nbs [] ++ l ++ be x n by simp [nbs_nil]]
  all_goals try (first | exact WPq.dTp | exact WPq.dTs | exact WPq.dV | exact WPq.dR | exact WPq.dR2 | exact WPq.dH | exact WPq.dBH | exact WPq.dT)

theorem rget_t (v : Value) (l : List UInt8) (k n : Nat) (h : k + n ≤ l.length) (hl : l.length ≤ 1000000) (h8 : n ≤ 8) : Triple Tryz.prog 72 #[v, .int .i64 k, .int .i64 n] [rb v l] (RVal (.int .u64 (val (seg l k n) : Nat))) := by
  refine Triple.enter Tryz.func72 rfl Tryz.ntmps72 rfl (fun W => ?_)
  dsimp only [argsF, Nat.reduceAdd]
  repeat' (first
   | refine WPl.nil ?_ | refine WPq.then ?_ | refine WPc.seq ?_ | refine WPc.block ?_ | refine WPc.region ?_
   | (refine isOp ?_; first | refine WPl.rd ?_ | refine WPl.sk ?_ | refine WPl.rdB ?_)
   | fail)
  have hn := seg_length h
  have hbd : ∀ i, i < n → val ((seg l k n).take i) < 72057594037927936 := fun i hi => by
    have := val_lt ((seg l k n).take i)
    have h2 : 256 ^ ((seg l k n).take i).length ≤ 256 ^ 7 := Nat.pow_le_pow_right (by decide) (by rw [List.length_take]; omega)
    have : (256 : Nat) ^ 7 = 72057594037927936 := by decide
    omega
  first | refine WPc.loop (σ := Nat × Nat) (fun p => p.1 ≤ n ∧ p.2 = val ((seg l k n).take p.1)) (fun p => [rb v l]) (fun p => [(0, v), (1, .int .i64 k), (2, .int .i64 n), (7, .int .u64 p.2), (8, .int .i64 ((k : Int) + p.1))]) (fun p => n - p.1) ((0, 0)) ?_ takesA frsA (fun st km hx hk => ?_)
  · exact ⟨Nat.zero_le _, rfl⟩
  obtain ⟨i, c⟩ := st
  dsimp only at hx hk ⊢
  obtain ⟨hi, hc0⟩ := hx
  by_cases hlt : i < n
  · have hb := hbd i hlt
    rw [← hc0] at hb
    have hu := (l.getD (k + i) 0).toNat_lt
    repeat' (first
     | refine WPl.nil ?_ | refine WPq.then ?_ | refine WPq.blockN ?_ | refine WPc.seq ?_ | refine WPc.block ?_ | refine WPc.skip ?_ | refine WPc.region ?_
     | (refine isCond ?_; first | refine WPc.cT ?_ | refine WPc.cF ?_ | (refine WPc.cQ (fun hc => ?_) (fun hc => ?_) <;> try exact prA))
     | (show WPl _ _ _ _ _ _ _ (⟨_, .convert _ _ _, _, _, _, _⟩ :: _) _; refine WPl.rdX (ReadR.conv rfl conv_u8) ?_)
     | (refine isOp ?_; first | refine WPl.rd ?_ | refine WPl.sk ?_ | refine WPl.rdB ?_)
     | fail)
    refine WPq.rnd (i + 1, c * 256 + (l.getD (k + i) 0).toNat) ⟨by show i + 1 ≤ n; omega, by
      show c * 256 + _ = _
      rw [val_take _ (by omega), ← hc0]
      congr 2
      simp [seg, List.getD_eq_getElem?_getD, List.getElem?_take, hlt, List.getElem?_drop]⟩ (by show n - (i + 1) < km; omega) takesA ?_
    dsimp only
    rw [show (((c * 256 + (l.getD (k + i) 0).toNat : Nat)) : Int) = (c : Int) * 256 + ((l.getD (k + i) 0).toNat : Int) by omega, show ((k : Int) + ((i + 1 : Nat) : Int)) = (k : Int) + (i : Int) + 1 by omega]
    exact frsA
  · obtain rfl : i = n := by omega
    repeat' (first
     | refine WPl.nil ?_ | refine WPq.then ?_ | refine WPq.thenE ?_ | refine WPq.blockE ?_ | refine WPc.seq ?_ | refine WPc.ret ?_ | refine WPc.exit ?_ | refine WPc.region ?_
     | (refine isCond ?_; first | refine WPc.cT ?_ | refine WPc.cF ?_ | (refine WPc.cQ (fun hc => ?_) (fun hc => ?_) <;> try exact prA))
     | (refine isOp ?_; first | refine WPl.rd ?_ | refine WPl.sk ?_ | refine WPl.rdB ?_)
     | fail)
    rw [List.take_of_length_le (by omega)] at hc0
    rw [← hc0]
    all_goals try (first | exact WPq.dTp | exact WPq.dTs | exact WPq.dV | exact WPq.dR | exact WPq.dR2 | exact WPq.dH | exact WPq.dBH | exact WPq.dT)

theorem rfold_t (m : Nat) (hm : m ≤ 18446744073709551615) : Triple Tryz.prog 153 #[.int .u64 m] [] (RVal (.int .u64 (fold m))) := by
  refine Triple.enter Tryz.func153 rfl Tryz.ntmps153 rfl (fun W => ?_)
  dsimp only [argsF, Nat.reduceAdd]
  repeat' (first
   | refine WPl.nil ?_ | refine WPq.then ?_ | refine WPc.seq ?_ | refine WPc.block ?_ | refine WPc.region ?_
   | (refine isOp ?_; first | refine WPl.rd ?_ | refine WPl.sk ?_ | refine WPl.rdB ?_)
   | fail)
  first | refine WPc.loop (σ := Nat × Nat) (fun p => p.1 ≤ 60 ∧ p.2 ≤ fbnd p.1 ∧ fold p.2 = fold m) (fun p => []) (fun p => [(0, .int .u64 p.2), (3, .int .i64 p.1)]) (fun p => 60 - p.1) ((0, m)) ?_ takesA frsA (fun st km hx hk => ?_)
  · exact ⟨Nat.zero_le _, hm, rfl⟩
  obtain ⟨i, c⟩ := st
  dsimp only at hx hk ⊢
  obtain ⟨hi, hc1, hc2⟩ := hx
  have hle := fbnd_le i
  by_cases hlt : i < 60 ∧ 65536 ≤ c
  · obtain ⟨hlt, hge⟩ := hlt
    repeat' (first
     | refine WPl.nil ?_ | refine WPq.then ?_ | refine WPq.blockN ?_ | refine WPc.seq ?_ | refine WPc.block ?_ | refine WPc.skip ?_ | refine WPc.region ?_
     | (refine isCond ?_; first | refine WPc.cT ?_ | refine WPc.cF ?_ | (refine WPc.cQ (fun hc => ?_) (fun hc => ?_) <;> try exact prA))
     | (refine isOp ?_; first | refine WPl.rd ?_ | refine WPl.sk ?_ | refine WPl.rdB ?_)
     | (refine WPl.spQ (fun hc => ?_) (fun hc => ?_) <;> try exact prA)
     | fail)
    refine WPq.rnd (i + 1, c % 65536 + c / 65536) ⟨by show i + 1 ≤ 60; omega, fbnd_step hc1 hge, by show fold _ = _; rw [fold_step, hc2]⟩ (by show 60 - (i + 1) < km; omega) takesA ?_
    dsimp only
    rw [show (((c % 65536 + c / 65536 : Nat) : Int)) = (c : Int) % 65536 + (c : Int) / 65536 by omega]
    exact frsA
  · have hlow : c ≤ 65535 := by
      rcases Nat.lt_or_ge i 60 with h | h
      · omega
      · exact fbnd_end hc1 (by omega)
    have e : fold c = c := fold_low hlow
    rw [e] at hc2
    by_cases hlt2 : i < 60
    all_goals
      repeat' (first
       | refine WPl.nil ?_ | refine WPq.then ?_ | refine WPq.thenE ?_ | refine WPq.blockE ?_ | refine WPc.seq ?_ | refine WPc.ret ?_ | refine WPc.exit ?_ | refine WPc.region ?_
       | (refine isCond ?_; first | refine WPc.cT ?_ | refine WPc.cF ?_ | (refine WPc.cQ (fun hc => ?_) (fun hc => ?_) <;> try exact prA))
       | (refine isOp ?_; first | refine WPl.rd ?_ | refine WPl.sk ?_ | refine WPl.rdB ?_)
       | (refine WPl.spQ (fun hc => ?_) (fun hc => ?_) <;> try exact prA)
       | fail)
      exact WPq.dV (hc := by rw [← hc2]; rfl)

theorem rtotal_t (v : Value) (l : List UInt8) (hl : l.length ≤ 1000000) : Triple Tryz.prog 120 #[v] [rb v l] (RVal (.int .u64 (fold (wsum true l)))) := by
  refine Triple.enter Tryz.func120 rfl Tryz.ntmps120 rfl (fun W => ?_)
  dsimp only [argsF, Nat.reduceAdd]
  repeat' (first
   | refine WPl.nil ?_ | refine WPq.then ?_ | refine WPc.seq ?_ | refine WPc.block ?_ | refine WPc.region ?_
   | (refine isOp ?_; first | refine WPl.rd ?_ | refine WPl.sk ?_ | refine WPl.rdB ?_)
   | fail)
  first | refine WPc.loop (σ := Nat × Nat) (fun p => p.1 ≤ l.length + 1 ∧ p.1 % 2 = 0 ∧ p.2 = wsum true (l.take p.1)) (fun p => [rb v l]) (fun p => [(0, v), (3, .int .u64 p.2), (4, .int .i64 p.1)]) (fun p => l.length + 1 - p.1) ((0, 0)) ?_ takesA frsA (fun st km hx hk => ?_)
  · exact ⟨by simp, by simp, rfl⟩
  obtain ⟨i, c⟩ := st
  dsimp only at hx hk ⊢
  obtain ⟨hi, hev, hc0⟩ := hx
  have hw := wsum_le true (l.take i)
  have hL : (l.take i).length ≤ 1000000 := by rw [List.length_take]; omega
  have hbd : c ≤ 100000000000 := by omega
  by_cases hlt : i < l.length
  · have hb := (l.getD i 0).toNat_lt
    have e1 := wsum_snoc true (l.take i) (l.getD i 0)
    rw [← take_snoc l hlt, par_even, List.length_take, Nat.min_eq_left (by omega), if_pos hev, if_pos rfl, ← hc0] at e1
    clear hw
    by_cases hlt2 : i + 1 < l.length
    · have hb2 := (l.getD (i + 1) 0).toNat_lt
      have e2 := wsum_snoc true (l.take (i + 1)) (l.getD (i + 1) 0)
      have hp : par true (l.take (i + 1)) = false := by rw [par_even, List.length_take, Nat.min_eq_left (by omega), if_neg (by omega)]; rfl
      rw [← take_snoc l hlt2, hp, if_neg (by simp), e1] at e2
      repeat' (first
       | refine WPl.nil ?_ | refine WPq.then ?_ | refine WPq.blockN ?_ | refine WPc.seq ?_ | refine WPc.block ?_ | refine WPc.skip ?_ | refine WPc.region ?_
       | (refine isCond ?_; first | refine WPc.cT ?_ | refine WPc.cF ?_ | (refine WPc.cQ (fun hc => ?_) (fun hc => ?_) <;> try exact prA))
       | (show WPl _ _ _ _ _ _ _ (⟨_, .convert _ _ _, _, _, _, _⟩ :: _) _; refine WPl.rdX (ReadR.conv rfl conv_u8) ?_)
       | (refine isOp ?_; first | refine WPl.rd ?_ | refine WPl.sk ?_ | refine WPl.rdB ?_)
       | fail)
      refine WPq.rnd (i + 2, c + 256 * (l.getD i 0).toNat + (l.getD (i + 1) 0).toNat) ⟨by show i + 2 ≤ _; omega, by show (i + 2) % 2 = 0; omega, e2.symm⟩ (by show _ - (i + 2) < km; omega) takesA ?_
      dsimp only
      rw [show (((c + 256 * (l.getD i 0).toNat + (l.getD (i + 1) 0).toNat : Nat)) : Int) = (c : Int) + 256 * ((l.getD i 0).toNat : Int) + ((l.getD (i + 1) 0).toNat : Int) by omega]
      exact frsA
    · have e2 : l.take (i + 2) = l.take (i + 1) := by rw [List.take_of_length_le (by omega), List.take_of_length_le (by omega)]
      repeat' (first
       | refine WPl.nil ?_ | refine WPq.then ?_ | refine WPq.blockN ?_ | refine WPc.seq ?_ | refine WPc.block ?_ | refine WPc.skip ?_ | refine WPc.region ?_
       | (refine isCond ?_; first | refine WPc.cT ?_ | refine WPc.cF ?_ | (refine WPc.cQ (fun hc => ?_) (fun hc => ?_) <;> try exact prA))
       | (show WPl _ _ _ _ _ _ _ (⟨_, .convert _ _ _, _, _, _, _⟩ :: _) _; refine WPl.rdX (ReadR.conv rfl conv_u8) ?_)
       | (refine isOp ?_; first | refine WPl.rd ?_ | refine WPl.sk ?_ | refine WPl.rdB ?_)
       | fail)
      refine WPq.rnd (i + 2, c + 256 * (l.getD i 0).toNat) ⟨by show i + 2 ≤ _; omega, by show (i + 2) % 2 = 0; omega, by show _ = wsum true (l.take (i + 2)); rw [e2, e1]⟩ (by show _ - (i + 2) < km; omega) takesA ?_
      dsimp only
      rw [show (((c + 256 * (l.getD i 0).toNat : Nat)) : Int) = (c : Int) + 256 * ((l.getD i 0).toNat : Int) by omega]
      exact frsA
  · rw [List.take_of_length_le (by omega)] at hc0
    clear hw
    subst hc0
    repeat' (first
     | refine WPl.nil ?_ | refine WPq.then ?_ | refine WPq.thenE ?_ | refine WPq.blockE ?_ | refine WPc.seq ?_ | refine WPc.ret ?_ | refine WPc.exit ?_ | refine WPc.region ?_
     | (refine isCond ?_; first | refine WPc.cT ?_ | refine WPc.cF ?_ | (refine WPc.cQ (fun hc => ?_) (fun hc => ?_) <;> try exact prA))
     | (refine isCl ?_; refine WPl.cV (rfold_t (wsum true l) (by omega)) ?_)
     | (refine isOp ?_; first | refine WPl.rd ?_ | refine WPl.sk ?_ | refine WPl.rdB ?_)
     | fail)
    all_goals try (first | exact WPq.dTp | exact WPq.dTs | exact WPq.dV | exact WPq.dR | exact WPq.dR2 | exact WPq.dH | exact WPq.dBH | exact WPq.dT)
theorem rsum_t (v : Value) (l : List UInt8) (hl : l.length ≤ 1000000) : Triple Tryz.prog 71 #[v] [rb v l] (RVal (.int .u16 (csum l : Nat))) := by
  have hf := fold_le (wsum true l)
  refine Triple.enter Tryz.func71 rfl Tryz.ntmps71 rfl (fun W => ?_)
  dsimp only [argsF, Nat.reduceAdd]
  repeat' (first
   | refine WPl.nil ?_ | refine WPq.then ?_ | refine WPc.seq ?_ | refine WPc.ret ?_ | refine WPc.region ?_
   | (refine isCl ?_; refine WPl.cV (rtotal_t v l hl) ?_)
   | (refine isOp ?_; first | refine WPl.rd ?_ | refine WPl.sk ?_ | refine WPl.rdB ?_)
   | fail)
  exact WPq.dV (hc := by exact intV (by unfold csum; omega))
end Go.Proofs.YtpilenbdimhegaaGreatDoor
/- Layer 12 (addr): addresses, prefixes: contracts. -/
namespace Go.Proofs.YtpilenbdimhegaaGreatDoor
open Go.RowKit
set_option linter.unusedSimpArgs false
set_option linter.unusedVariables false
set_option maxRecDepth 20000
set_option maxHeartbeats 4000000
attribute [local irreducible] WPc WPl WPq ReadR OpT BinR HasS bx rdN rowN Take Takes Prov Triple ResF BuildP Done ag Int.decLt Int.decLe Int.instDecidableEq

theorem bytesE_t (v : Value) (vs : List Value) (ls : List (List UInt8)) (r : List UInt8) (hr : ls.flatten = r) (h : vs.length = ls.length) (hl : ls.flatten.length ≤ 1000000) (h0 : vs.length ≤ 1000000) :
    Triple Tryz.prog 143 #[v] (rdN v vs.length vs :: rbz vs ls) (ROb r) := hr ▸ bytes_t v vs ls h hl h0

theorem raw_t (a : Adr) : Triple Tryz.prog 169 #[ag (adc a)] [] (RHd a.bytes.length (u8s a.bytes)) := by
  have hl := a.len
  refine Triple.enter Tryz.func169 rfl Tryz.ntmps169 rfl (fun W => ?_)
  dsimp only [argsF, Nat.reduceAdd]
  repeat' (first
   | refine WPl.nil ?_ | refine WPq.then ?_ | refine WPq.thenR ?_ | refine WPq.thenE ?_ | refine WPq.blockN ?_ | refine WPq.blockR ?_ | refine WPq.blockE ?_ | refine WPq.blockO rfl ?_ | refine WPc.seq ?_ | refine WPc.block ?_ | refine WPc.ret ?_ | refine WPc.exit ?_ | refine WPc.skip ?_ | refine WPc.region ?_
   | (refine isCond ?_; first | refine WPc.cT ?_ | refine WPc.cF ?_ | (refine WPc.cQ (fun hc => ?_) (fun hc => ?_) <;> try exact prA))
   | (refine isOp ?_; first | refine WPl.rd ?_ | refine WPl.sk ?_ | refine WPl.rdB ?_)
   | (refine isBx ?_; refine WPl.nw fun g => ?_)
   | (show WPl _ _ _ _ _ _ _ (⟨_, .indexAddr _ _ _, _, _, _, _⟩ :: _) _; refine WPl.rdX (ReadR.indexE rfl rfl hasA (by first | assumption | omega)) ?_)
   | (show WPl _ _ _ _ _ _ _ (⟨_, .fieldAddr _ _ _, _, _, _, _⟩ :: _) _; refine WPl.rdX (ReadR.fieldE rfl hasA (by first | assumption | omega)) ?_)
   | (show WPl _ _ _ _ _ _ _ (⟨_, .load _ _, _, _, _, _⟩ :: _) _; first | refine WPl.rdX (ReadR.loadE rfl hasA (by assumption)) ?_ | refine WPl.rdX (ReadR.loadES (by assumption) (by first | assumption | omega) rfl hasA) ?_)
   | (show WPl _ _ _ _ _ _ _ (⟨_, .slice _ _ _ _ _, _, _, _, _⟩ :: _) _; first | refine WPl.rdX (ReadR.sliceH rfl rfl hasA (by omega)) ?_ | refine WPl.rdX (ReadR.sliceL rfl rfl hasA (by omega)) ?_ | refine WPl.rdX (ReadR.sliceLH rfl rfl rfl hasA (by omega) (by omega)) ?_)
   | (refine WPl.spQ (fun hc => ?_) (fun hc => ?_) <;> try exact prA)
   | fail)
  · rw [show a.bytes = a.b by simp [Adr.bytes, hc]]
    all_goals try (first | exact WPq.dTp | exact WPq.dTs | exact WPq.dV | exact WPq.dR | exact WPq.dR2 | exact WPq.dH | exact WPq.dBH | exact WPq.dT)
  · rw [show a.bytes = seg a.b 12 4 by simp [Adr.bytes, hc]]
    all_goals try (first | exact WPq.dTp | exact WPq.dTs | exact WPq.dV | exact WPq.dR | exact WPq.dR2 | exact WPq.dH | exact WPq.dBH | exact WPq.dT)
theorem addrBytes_t (a : Adr) : Triple Tryz.prog 148 #[ag (adc a)] [] (ROb a.bytes) := by
  have hl := a.bytes_le
  refine Triple.enter Tryz.func148 rfl Tryz.ntmps148 rfl (fun W => ?_)
  dsimp only [argsF, Nat.reduceAdd]
  repeat' (first
   | refine WPl.nil ?_ | refine WPq.then ?_ | refine WPq.thenR ?_ | refine WPq.thenE ?_ | refine WPq.blockN ?_ | refine WPq.blockR ?_ | refine WPq.blockE ?_ | refine WPq.blockO rfl ?_ | refine WPc.seq ?_ | refine WPc.block ?_ | refine WPc.ret ?_ | refine WPc.exit ?_ | refine WPc.skip ?_ | refine WPc.region ?_
   | (refine isCond ?_; first | refine WPc.cT ?_ | refine WPc.cF ?_ | (refine WPc.cQ (fun hc => ?_) (fun hc => ?_) <;> try exact prA))
   | (refine isCl ?_; refine WPl.cH (raw_t a) fun v hv => ?_)
   | (refine isLit ?_; refine WPl.lits fun v hv => ?_)
   | (refine isCl ?_; refine WPl.cR (bytesE_t _ [_] [a.bytes] a.bytes (by simp) rfl (by simp; omega) (by simp)) fun v hv => ?_)
   | (refine isOp ?_; first | refine WPl.rd ?_ | refine WPl.sk ?_ | refine WPl.rdB ?_)
   | (refine isBx ?_; refine WPl.nw fun g => ?_)
   | (show WPl _ _ _ _ _ _ _ (⟨_, .indexAddr _ _ _, _, _, _, _⟩ :: _) _; refine WPl.rdX (ReadR.indexE rfl rfl hasA (by first | assumption | omega)) ?_)
   | (show WPl _ _ _ _ _ _ _ (⟨_, .fieldAddr _ _ _, _, _, _, _⟩ :: _) _; refine WPl.rdX (ReadR.fieldE rfl hasA (by first | assumption | omega)) ?_)
   | (show WPl _ _ _ _ _ _ _ (⟨_, .load _ _, _, _, _, _⟩ :: _) _; first | refine WPl.rdX (ReadR.loadE rfl hasA (by assumption)) ?_ | refine WPl.rdX (ReadR.loadES (by assumption) (by first | assumption | omega) rfl hasA) ?_)
   | (show WPl _ _ _ _ _ _ _ (⟨_, .slice _ _ _ _ _, _, _, _, _⟩ :: _) _; first | refine WPl.rdX (ReadR.sliceH rfl rfl hasA (by omega)) ?_ | refine WPl.rdX (ReadR.sliceL rfl rfl hasA (by omega)) ?_ | refine WPl.rdX (ReadR.sliceLH rfl rfl rfl hasA (by omega) (by omega)) ?_)
   | (refine WPl.spQ (fun hc => ?_) (fun hc => ?_) <;> try exact prA)
   | fail)
  all_goals try (first | exact WPq.dTp | exact WPq.dTs | exact WPq.dV | exact WPq.dR | exact WPq.dR2 | exact WPq.dH | exact WPq.dBH | exact WPq.dT)
theorem good_t (a : Adr) : Triple Tryz.prog 142 #[ag (adc a)] [] (RVal (.bool a.good)) := by
  have hl := a.len
  refine Triple.enter Tryz.func142 rfl Tryz.ntmps142 rfl (fun W => ?_)
  dsimp only [argsF, Nat.reduceAdd]
  repeat' (first
   | refine WPl.nil ?_ | refine WPq.then ?_ | refine WPq.thenR ?_ | refine WPq.thenE ?_ | refine WPq.blockN ?_ | refine WPq.blockR ?_ | refine WPq.blockE ?_ | refine WPq.blockO rfl ?_ | refine WPc.seq ?_ | refine WPc.block ?_ | refine WPc.ret ?_ | refine WPc.exit ?_ | refine WPc.skip ?_ | refine WPc.region ?_
   | (refine isCond ?_; first | refine WPc.cT ?_ | refine WPc.cF ?_ | (refine WPc.cQ (fun hc => ?_) (fun hc => ?_) <;> try exact prA))
   | (refine isOp ?_; first | refine WPl.rd ?_ | refine WPl.sk ?_ | refine WPl.rdB ?_)
   | (refine isBx ?_; refine WPl.nw fun g => ?_)
   | (show WPl _ _ _ _ _ _ _ (⟨_, .indexAddr _ _ _, _, _, _, _⟩ :: _) _; refine WPl.rdX (ReadR.indexE rfl rfl hasA (by first | assumption | omega)) ?_)
   | (show WPl _ _ _ _ _ _ _ (⟨_, .fieldAddr _ _ _, _, _, _, _⟩ :: _) _; refine WPl.rdX (ReadR.fieldE rfl hasA (by first | assumption | omega)) ?_)
   | (show WPl _ _ _ _ _ _ _ (⟨_, .load _ _, _, _, _, _⟩ :: _) _; first | refine WPl.rdX (ReadR.loadE rfl hasA (by assumption)) ?_ | refine WPl.rdX (ReadR.loadES (by assumption) (by first | assumption | omega) rfl hasA) ?_)
   | (show WPl _ _ _ _ _ _ _ (⟨_, .slice _ _ _ _ _, _, _, _, _⟩ :: _) _; first | refine WPl.rdX (ReadR.sliceH rfl rfl hasA (by omega)) ?_ | refine WPl.rdX (ReadR.sliceL rfl rfl hasA (by omega)) ?_ | refine WPl.rdX (ReadR.sliceLH rfl rfl rfl hasA (by omega) (by omega)) ?_)
   | (refine WPl.spQ (fun hc => ?_) (fun hc => ?_) <;> try exact prA)
   | fail)
  · exact WPq.dV (hc := by simp [resV, Adr.good, hc])
  · exact WPq.dV (hc := by simp [resV, Adr.good, hc])
theorem last_t (v : Value) (l : List UInt8) (h : l.length = 4) : Triple Tryz.prog 170 #[v] [rb v l] (RVal (ag (adc (Adr.of4 l h)))) := by
  refine Triple.enter Tryz.func170 rfl Tryz.ntmps170 rfl (fun W => ?_)
  dsimp only [argsF, Nat.reduceAdd]
  repeat' (first
   | refine WPl.nil ?_ | refine WPq.then ?_ | refine WPq.thenR ?_ | refine WPq.thenE ?_ | refine WPq.blockN ?_ | refine WPq.blockR ?_ | refine WPq.blockE ?_ | refine WPq.blockO rfl ?_ | refine WPc.seq ?_ | refine WPc.block ?_ | refine WPc.ret ?_ | refine WPc.exit ?_ | refine WPc.skip ?_ | refine WPc.region ?_
   | (refine isCond ?_; first | refine WPc.cT ?_ | refine WPc.cF ?_ | (refine WPc.cQ (fun hc => ?_) (fun hc => ?_) <;> try exact prA))
   | (refine isCp ?_; first | refine WPl.cpA fun v => ?_ | refine WPl.cpE fun v => ?_)
   | (refine isOp ?_; first | refine WPl.rd ?_ | refine WPl.sk ?_ | refine WPl.rdB ?_)
   | (refine isAl ?_; refine WPl.nw fun g => ?_)
   | (refine isSt ?_; first | refine WPl.st1 ?_ | refine WPl.stA ?_ | refine WPl.stEB ?_ | refine WPl.stRB ?_)
   | (show WPl _ _ _ _ _ _ _ (⟨_, .indexAddr _ _ _, _, _, _, _⟩ :: _) _; refine WPl.rdX (ReadR.indexE rfl rfl hasA (by first | assumption | omega)) ?_)
   | (show WPl _ _ _ _ _ _ _ (⟨_, .fieldAddr _ _ _, _, _, _, _⟩ :: _) _; refine WPl.rdX (ReadR.fieldE rfl hasA (by first | assumption | omega)) ?_)
   | (show WPl _ _ _ _ _ _ _ (⟨_, .load _ _, _, _, _, _⟩ :: _) _; first | refine WPl.rdX (ReadR.loadE rfl hasA (by assumption)) ?_ | refine WPl.rdX (ReadR.loadES (by assumption) (by first | assumption | omega) rfl hasA) ?_)
   | (show WPl _ _ _ _ _ _ _ (⟨_, .slice _ _ _ _ _, _, _, _, _⟩ :: _) _; first | refine WPl.rdX (ReadR.sliceH rfl rfl hasA (by omega)) ?_ | refine WPl.rdX (ReadR.sliceL rfl rfl hasA (by omega)) ?_ | refine WPl.rdX (ReadR.sliceLH rfl rfl rfl hasA (by omega) (by omega)) ?_)
   | (refine WPl.spQ (fun hc => ?_) (fun hc => ?_) <;> try exact prA)
   | fail)
  all_goals try (first | exact WPq.dTp | exact WPq.dTs | exact WPq.dV | exact WPq.dR | exact WPq.dR2 | exact WPq.dH | exact WPq.dBH | exact WPq.dT)
theorem of4_t (v : Value) (l : List UInt8) (h : l.length = 4) : Triple Tryz.prog 149 #[v] [rb v l] (RVal (.tuple #[ag (adc (Adr.of4 l h)), .bool true])) := by
  refine Triple.enter Tryz.func149 rfl Tryz.ntmps149 rfl (fun W => ?_)
  dsimp only [argsF, Nat.reduceAdd]
  repeat' (first
   | refine WPl.nil ?_ | refine WPq.then ?_ | refine WPq.thenR ?_ | refine WPq.thenE ?_ | refine WPq.blockN ?_ | refine WPq.blockR ?_ | refine WPq.blockE ?_ | refine WPq.blockO rfl ?_ | refine WPc.seq ?_ | refine WPc.block ?_ | refine WPc.ret ?_ | refine WPc.exit ?_ | refine WPc.skip ?_ | refine WPc.region ?_
   | (refine isCond ?_; first | refine WPc.cT ?_ | refine WPc.cF ?_ | (refine WPc.cQ (fun hc => ?_) (fun hc => ?_) <;> try exact prA))
   | (refine isCl ?_; refine WPl.cV (last_t _ l h) ?_)
   | (refine isOp ?_; first | refine WPl.rd ?_ | refine WPl.sk ?_ | refine WPl.rdB ?_)
   | (refine isAl ?_; refine WPl.nw fun g => ?_)
   | (refine isSt ?_; first | refine WPl.st1 ?_ | refine WPl.stA ?_ | refine WPl.stEB ?_ | refine WPl.stRB ?_)
   | (show WPl _ _ _ _ _ _ _ (⟨_, .indexAddr _ _ _, _, _, _, _⟩ :: _) _; refine WPl.rdX (ReadR.indexE rfl rfl hasA (by first | assumption | omega)) ?_)
   | (show WPl _ _ _ _ _ _ _ (⟨_, .fieldAddr _ _ _, _, _, _, _⟩ :: _) _; refine WPl.rdX (ReadR.fieldE rfl hasA (by first | assumption | omega)) ?_)
   | (show WPl _ _ _ _ _ _ _ (⟨_, .load _ _, _, _, _, _⟩ :: _) _; first | refine WPl.rdX (ReadR.loadE rfl hasA (by assumption)) ?_ | refine WPl.rdX (ReadR.loadES (by assumption) (by first | assumption | omega) rfl hasA) ?_)
   | (show WPl _ _ _ _ _ _ _ (⟨_, .slice _ _ _ _ _, _, _, _, _⟩ :: _) _; first | refine WPl.rdX (ReadR.sliceH rfl rfl hasA (by omega)) ?_ | refine WPl.rdX (ReadR.sliceL rfl rfl hasA (by omega)) ?_ | refine WPl.rdX (ReadR.sliceLH rfl rfl rfl hasA (by omega) (by omega)) ?_)
   | (refine WPl.spQ (fun hc => ?_) (fun hc => ?_) <;> try exact prA)
   | fail)
  all_goals try (first | exact WPq.dTp | exact WPq.dTs | exact WPq.dV | exact WPq.dR | exact WPq.dR2 | exact WPq.dH | exact WPq.dBH | exact WPq.dT)
theorem of6_t (v : Value) (l : List UInt8) (h : l.length = 16) : Triple Tryz.prog 149 #[v] [rb v l] (RVal (.tuple #[ag (adc (Adr.of6 l h)), .bool true])) := by
  refine Triple.enter Tryz.func149 rfl Tryz.ntmps149 rfl (fun W => ?_)
  dsimp only [argsF, Nat.reduceAdd]
  repeat' (first
   | refine WPl.nil ?_ | refine WPq.then ?_ | refine WPq.thenR ?_ | refine WPq.thenE ?_ | refine WPq.blockN ?_ | refine WPq.blockR ?_ | refine WPq.blockE ?_ | refine WPq.blockO rfl ?_ | refine WPc.seq ?_ | refine WPc.block ?_ | refine WPc.ret ?_ | refine WPc.exit ?_ | refine WPc.skip ?_ | refine WPc.region ?_
   | (refine isCond ?_; first | refine WPc.cT ?_ | refine WPc.cF ?_ | (refine WPc.cQ (fun hc => ?_) (fun hc => ?_) <;> try exact prA))
   | (refine isOp ?_; first | refine WPl.rd ?_ | refine WPl.sk ?_ | refine WPl.rdB ?_)
   | (refine isAl ?_; refine WPl.nw fun g => ?_)
   | (refine isSt ?_; first | refine WPl.st1 ?_ | refine WPl.stA ?_ | refine WPl.stEB ?_ | refine WPl.stRB ?_)
   | (show WPl _ _ _ _ _ _ _ (⟨_, .indexAddr _ _ _, _, _, _, _⟩ :: _) _; refine WPl.rdX (ReadR.indexE rfl rfl hasA (by first | assumption | omega)) ?_)
   | (show WPl _ _ _ _ _ _ _ (⟨_, .fieldAddr _ _ _, _, _, _, _⟩ :: _) _; refine WPl.rdX (ReadR.fieldE rfl hasA (by first | assumption | omega)) ?_)
   | (show WPl _ _ _ _ _ _ _ (⟨_, .load _ _, _, _, _, _⟩ :: _) _; first | refine WPl.rdX (ReadR.loadE rfl hasA (by assumption)) ?_ | refine WPl.rdX (ReadR.loadES (by assumption) (by first | assumption | omega) rfl hasA) ?_)
   | (show WPl _ _ _ _ _ _ _ (⟨_, .slice _ _ _ _ _, _, _, _, _⟩ :: _) _; first | refine WPl.rdX (ReadR.sliceH rfl rfl hasA (by omega)) ?_ | refine WPl.rdX (ReadR.sliceL rfl rfl hasA (by omega)) ?_ | refine WPl.rdX (ReadR.sliceLH rfl rfl rfl hasA (by omega) (by omega)) ?_)
   | (refine WPl.spQ (fun hc => ?_) (fun hc => ?_) <;> try exact prA)
   | fail)
  all_goals try (first | exact WPq.dTp | exact WPq.dTs | exact WPq.dV | exact WPq.dR | exact WPq.dR2 | exact WPq.dH | exact WPq.dBH | exact WPq.dT)
theorem ofNo_t (v : Value) (l : List UInt8) (h : l.length ≠ 4) (h' : l.length ≠ 16) : Triple Tryz.prog 149 #[v] [rb v l] (RVal (.tuple #[ag (adc Adr.zero), .bool false])) := by
  refine Triple.enter Tryz.func149 rfl Tryz.ntmps149 rfl (fun W => ?_)
  dsimp only [argsF, Nat.reduceAdd]
  repeat' (first
   | refine WPl.nil ?_ | refine WPq.then ?_ | refine WPq.thenR ?_ | refine WPq.thenE ?_ | refine WPq.blockN ?_ | refine WPq.blockR ?_ | refine WPq.blockE ?_ | refine WPq.blockO rfl ?_ | refine WPc.seq ?_ | refine WPc.block ?_ | refine WPc.ret ?_ | refine WPc.exit ?_ | refine WPc.skip ?_ | refine WPc.region ?_
   | (refine isCond ?_; first | refine WPc.cT ?_ | refine WPc.cF ?_ | (refine WPc.cQ (fun hc => ?_) (fun hc => ?_) <;> try exact prA))
   | (refine isOp ?_; first | refine WPl.rd ?_ | refine WPl.sk ?_ | refine WPl.rdB ?_)
   | (refine isAl ?_; refine WPl.nw fun g => ?_)
   | (refine isSt ?_; first | refine WPl.st1 ?_ | refine WPl.stA ?_ | refine WPl.stEB ?_ | refine WPl.stRB ?_)
   | (show WPl _ _ _ _ _ _ _ (⟨_, .indexAddr _ _ _, _, _, _, _⟩ :: _) _; refine WPl.rdX (ReadR.indexE rfl rfl hasA (by first | assumption | omega)) ?_)
   | (show WPl _ _ _ _ _ _ _ (⟨_, .fieldAddr _ _ _, _, _, _, _⟩ :: _) _; refine WPl.rdX (ReadR.fieldE rfl hasA (by first | assumption | omega)) ?_)
   | (show WPl _ _ _ _ _ _ _ (⟨_, .load _ _, _, _, _, _⟩ :: _) _; first | refine WPl.rdX (ReadR.loadE rfl hasA (by assumption)) ?_ | refine WPl.rdX (ReadR.loadES (by assumption) (by first | assumption | omega) rfl hasA) ?_)
   | (show WPl _ _ _ _ _ _ _ (⟨_, .slice _ _ _ _ _, _, _, _, _⟩ :: _) _; first | refine WPl.rdX (ReadR.sliceH rfl rfl hasA (by omega)) ?_ | refine WPl.rdX (ReadR.sliceL rfl rfl hasA (by omega)) ?_ | refine WPl.rdX (ReadR.sliceLH rfl rfl rfl hasA (by omega) (by omega)) ?_)
   | (refine WPl.spQ (fun hc => ?_) (fun hc => ?_) <;> try exact prA)
   | fail)
  all_goals try (first | exact WPq.dTp | exact WPq.dTs | exact WPq.dV | exact WPq.dR | exact WPq.dR2 | exact WPq.dH | exact WPq.dBH | exact WPq.dT)
theorem Adr.bits_le (a : Adr) : a.bytes.length * 8 = if a.six then 128 else 32 := by rw [a.bytes_len]; split <;> omega
/-- How many bits it has. -/
def Adr.bits (a : Adr) : Nat := if a.six then 128 else 32
theorem Adr.bits_len (a : Adr) : a.bytes.length * 8 = a.bits := a.bits_le
def Adr.maskOk (a : Adr) (n : Int) : Bool := a.good && decide (0 ≤ n ∧ n ≤ a.bits)
def Adr.masked (a : Adr) (n : Nat) : Adr := ⟨a.six, if a.six then maskB a.b n else List.replicate 12 0 ++ maskB (seg a.b 12 4) n, by
  have := a.len
  split
  · simp [this]
  · simp [seg, this]⟩
abbrev pfc (a : Adr) (n : Int) : Ch := [(1, [.bool a.six]), (16, u8s a.b), (1, [.int .i64 n])]
def maskA (a : Adr) (n : Int) : Adr := if a.maskOk n then a.masked n.toNat else Adr.zero
def maskN (a : Adr) (n : Int) : Int := if a.maskOk n then n else 0
theorem Adr.masked6 {a : Adr} (h : a.six = true) (n : Nat) : a.masked n = Adr.of6 (maskB a.bytes n) (by rw [maskB_length, a.bytes_len, if_pos h]) := by
  apply Adr.ext
  · exact h
  · simp [Adr.masked, Adr.of6, Adr.bytes, h]
theorem Adr.masked4 {a : Adr} (h : a.six = false) (n : Nat) : a.masked n = Adr.of4 (maskB a.bytes n) (by rw [maskB_length, a.bytes_len, h]; rfl) := by
  have hl : (maskB (seg a.b 12 4) n).length = 4 := by simp [seg, a.len]
  apply Adr.ext
  · exact h
  · simp only [Adr.masked, Adr.of4, Adr.bytes, h, over, Bool.false_eq_true, if_false]
    rw [hl]; simp

theorem BinR.shlMask {P : Program} {T : TypeId} {k2 : IntKind} {k : Nat} (hk : k ≤ 8) : BinR P .shl T (.int .u8 255) (.int k2 (8 - (k : Int))) (.int .u8 ((255 * 2 ^ (8 - k) % 256 : Nat) : Int)) := by
  have := BinR.shlN (P := P) (T := T) (k := .u8) (k2 := k2) (a := 255) (s := 8 - k) rfl (by show 8 - k ≤ 8; omega)
  rw [show ((8 - k : Nat) : Int) = 8 - (k : Int) by omega] at this
  exact this
theorem and_mask : ∀ (c : Fin 256) (s : Fin 9), c.val &&& (255 * 2 ^ s.val % 256) = c.val / 2 ^ s.val * 2 ^ s.val := by decide +kernel
theorem BinR.andMask {P : Program} {T : TypeId} {k : Nat} {c : UInt8} (hk : k ≤ 8) : BinR P .and T (.int .u8 ((c.toNat : Nat) : Int)) (.int .u8 ((255 * 2 ^ (8 - k) % 256 : Nat) : Int)) (.int .u8 (((mskb k c).toNat : Nat) : Int)) := by
  have h1 := c.toNat_lt
  have := BinR.andN (P := P) (T := T) (k := .u8) (a := c.toNat) (b := 255 * 2 ^ (8 - k) % 256) rfl (by exact h1) (by show _ < 2 ^ 8; omega)
  have e := and_mask ⟨c.toNat, by simpa using h1⟩ ⟨8 - k, by omega⟩
  simp only at e
  rw [e, ← mskb_toNat] at this
  exact this
theorem ReadR.minE {P : Program} {n : Nat} {Γ : List Asn} {F : List (Nat × Value)} {d : Option Tmp} {ty : TypeId} {pos : String} {af : Array Edge} {gd : Option (Nat × Bool)} {x y : Operand} {ts : Array TypeId} {k : IntKind} {a b : Int} (c : Int) (hx : evF F x = some (.int k a)) (hy : evF F y = some (.int k b)) (h : (if b < a then b else a) = c) :
    ReadR P n Γ F ⟨d, .call { callee := .builtin .min, args := #[x, y], argTypes := ts }, ty, pos, af, gd⟩ (.int k c) := h ▸ ReadR.min hx hy

end Go.Proofs.YtpilenbdimhegaaGreatDoor
/- Layer 12 (addr): masks. -/
namespace Go.Proofs.YtpilenbdimhegaaGreatDoor
open Go.RowKit
set_option linter.unusedSimpArgs false
set_option linter.unusedVariables false
set_option maxRecDepth 20000
set_option maxHeartbeats 4000000
attribute [local irreducible] WPc WPl WPq ReadR OpT BinR HasS bx rdN rowN Take Takes Prov Triple ResF BuildP Done ag Int.decLt Int.decLe Int.instDecidableEq

theorem maskYes_t (a : Adr) (n : Nat) (hg : a.good = true) (hn : n ≤ a.bits) : Triple Tryz.prog 114 #[ag (adc a), .int .i64 n] [] (RVal (.tuple #[ag (pfc (a.masked n) n), .bool true])) := by
  have hl := a.bits_len
  have hl2 := a.bytes_le
  have hlen := a.len
  have hnb : n ≤ 128 := by unfold Adr.bits at hn; split at hn <;> omega
  have hgt := good_t a
  rw [hg] at hgt
  refine Triple.enter Tryz.func114 rfl Tryz.ntmps114 rfl (fun W => ?_)
  dsimp only [argsF, Nat.reduceAdd]
  repeat' (first
   | refine WPl.nil ?_ | refine WPq.then ?_ | refine WPc.seq ?_ | refine WPc.block ?_ | refine WPc.skip ?_ | refine WPc.region ?_
   | (refine isCond ?_; first | refine WPc.cT ?_ | refine WPc.cF ?_ | (refine WPc.cQ (fun hc => ?_) (fun hc => ?_) <;> try exact prA))
   | (refine isCl ?_; refine WPl.cR (addrBytes_t a) fun v hv => ?_)
   | (refine isCl ?_; refine WPl.cV (hgt) ?_)
   | (first | (show WPl _ _ _ _ _ _ _ (⟨_, .alloc 56, _, _, _, _⟩ :: _) _; refine WPl.nw fun gp => ?_) | (show WPl _ _ _ _ _ _ _ (⟨_, .box 56 _, _, _, _, _⟩ :: _) _; refine WPl.nw fun gp => ?_))
   | (refine isOp ?_; first | refine WPl.rd ?_ | refine WPl.sk ?_ | refine WPl.rdB ?_)
   | (refine isBx ?_; refine WPl.nw fun g => ?_)
   | (refine WPl.spQ (fun hc => ?_) (fun hc => ?_) <;> try exact prA)
   | fail)
  first | refine WPc.loop (σ := Nat × List UInt8) (fun p => p.1 ≤ a.bytes.length ∧ p.2 = maskTo a.bytes n p.1) (fun p => [ob v p.2, bx g 35 (adc a), bx gp 56 [(1, [.bool false]), (16, u8s (List.replicate 16 0)), (1, [.int .i64 0])]]) (fun p => [(1, .int .i64 n), (4, .pointer (some ⟨gp, 0, none⟩)), (6, v), (29, .int .i64 a.bytes.length), (30, .int .i64 p.1)]) (fun p => a.bytes.length - p.1) ((0, a.bytes)) ?_ takesA frsA (fun st km hx hk => ?_)
  · exact ⟨Nat.zero_le _, (maskTo_zero _ _).symm⟩
  obtain ⟨i, c⟩ := st
  dsimp only at hx hk ⊢
  obtain ⟨hi, hc0⟩ := hx
  have hcl : c.length = a.bytes.length := by rw [hc0, maskTo_length]
  by_cases hlt : i < a.bytes.length
  · have hk8 : nbit n i ≤ 8 := Nat.min_le_right _ _
    repeat' (first
     | refine WPl.nil ?_ | refine WPq.then ?_ | refine WPq.blockN ?_ | refine WPc.seq ?_ | refine WPc.block ?_ | refine WPc.skip ?_ | refine WPc.region ?_
     | (refine isReg 8 ?_; refine WPc.drA [([10], [40, 43, 44, 45]), ([10], [39, 43, 44, 45]), ([0, 1, 10], [39, 40, 43, 44, 45]), ([0, 1, 2, 10], [39, 40, 41, 43, 44, 45]), ([10], [39, 40, 41, 42]), ([4, 10], [39, 40, 41, 42, 43]), ([4, 5, 10], [39, 40, 41, 42, 43, 44]), ([0, 1, 2, 3, 4, 5, 6, 10], [39, 40, 41, 42, 43, 44, 45]), ([0, 1, 2, 3, 4, 5, 6, 7, 10], [39, 40, 41, 42, 43, 44, 45, 46]), ([0, 1, 2, 3, 4, 5, 6, 7, 8, 10], [39, 40, 41, 42, 43, 44, 45, 46, 47])] [(10, 9), (10, 0), (10, 1), (10, 2), (10, 3), (10, 4), (10, 5), (10, 6), (10, 7), (10, 8)] (Γx := [ob v c]) ?_; dsimp only [prev0, List.length_nil, List.length_cons])
     | (refine gAny ?_; first | (show RGl _ _ _ _ _ _ _ _ (⟨_, .binOp .shl _ _ _ _, _, _, _, _⟩ :: _) _ _; refine RGl.rdX (fun e hk => by (try dsimp only [bndR, ensR, oksR, fcutR, List.append_nil, List.nil_append, List.cons_append, List.append_assoc] at hk ⊢); exact ReadR.bin rfl rfl (BinR.shlMask (k := nbit n i) hk8)) ?_) | (show RGl _ _ _ _ _ _ _ _ (⟨_, .binOp .and _ _ _ _, _, _, _, _⟩ :: _) _ _; refine RGl.rdX (fun e hk => by (try dsimp only [bndR, ensR, oksR, fcutR, List.append_nil, List.nil_append, List.cons_append, List.append_assoc] at hk ⊢); exact ReadR.bin rfl rfl (BinR.andMask (k := nbit n i) hk8)) ?_) | (refine gOp ?_; first | refine RGl.rdA ?_ | refine RGl.rdX (fun e hk => by (try dsimp only [bndR, ensR, oksR, fcutR, List.append_nil, List.nil_append, List.cons_append, List.append_assoc] at hk ⊢); exact readB) ?_) | (refine gSt ?_; refine RGl.stA ?_) | (refine RGl.fin (fun e hk => ?_); (try dsimp only [bndA, ensAR, oksA, List.append_nil, List.nil_append, List.cons_append, List.append_assoc] at hk ⊢); (repeat (obtain ⟨hk1, hk⟩ := hk))) | fail)
     | (refine isCond ?_; first | refine WPc.cT ?_ | refine WPc.cF ?_ | (refine WPc.cQ (fun hc => ?_) (fun hc => ?_) <;> try exact prA))
     | (show WPl _ _ _ _ _ _ _ (⟨_, .call ⟨.builtin .min, _, _⟩, _, _, _, _⟩ :: _) _; refine WPl.rdX ((ReadR.minE ((nbit n i : Nat) : Int) rfl rfl (by unfold nbit; split <;> split <;> omega))) ?_)
     | (refine isOp ?_; first | refine WPl.rd ?_ | refine WPl.sk ?_ | refine WPl.rdB ?_)
     | fail)
    exact WPq.rnd (i + 1, c.set i (mskb (nbit n i) (c.getD i 0))) ⟨by show i + 1 ≤ _; omega, by show c.set _ _ = _; rw [maskTo_succ hlt, ← hc0, hc0, maskTo_get hlt]⟩ (by show _ - (i + 1) < _; omega)
  · have hci : c = maskB a.bytes n := by rw [hc0, maskTo_all (by omega)]
    have hcl2 := hcl
    rw [a.bytes_len] at hcl2
    cases h6 : a.six with
    | true =>
      rw [h6, if_pos rfl] at hcl2
      rw [show pfc (a.masked n) n = pfc (Adr.of6 c hcl2) n by rw [Adr.masked6 h6]; simp only [hci]]
      repeat' (first
       | refine WPl.nil ?_ | refine WPq.then ?_ | refine WPq.thenE ?_ | refine WPq.blockE ?_ | refine WPc.seq ?_ | refine WPc.ret ?_ | refine WPc.exit ?_ | refine WPc.region ?_
       | (refine isCond ?_; first | refine WPc.cT ?_ | refine WPc.cF ?_ | (refine WPc.cQ (fun hc => ?_) (fun hc => ?_) <;> try exact prA))
       | (refine isCl ?_; refine WPl.cV (of6_t _ c hcl2) ?_)
       | (refine isOp ?_; first | refine WPl.rd ?_ | refine WPl.sk ?_ | refine WPl.rdB ?_)
       | (refine isAl ?_; refine WPl.nw fun g => ?_)
       | (refine isSt ?_; first | refine WPl.st1 ?_ | refine WPl.stA ?_ | refine WPl.stEB ?_ | refine WPl.stRB ?_)
       | fail)
      all_goals try (first | exact WPq.dTp | exact WPq.dTs | exact WPq.dV | exact WPq.dR | exact WPq.dR2 | exact WPq.dH | exact WPq.dBH | exact WPq.dT)
    | false =>
      rw [h6, if_neg (by simp)] at hcl2
      rw [show pfc (a.masked n) n = pfc (Adr.of4 c hcl2) n by rw [Adr.masked4 h6]; simp only [hci]]
      repeat' (first
       | refine WPl.nil ?_ | refine WPq.then ?_ | refine WPq.thenE ?_ | refine WPq.blockE ?_ | refine WPc.seq ?_ | refine WPc.ret ?_ | refine WPc.exit ?_ | refine WPc.region ?_
       | (refine isCond ?_; first | refine WPc.cT ?_ | refine WPc.cF ?_ | (refine WPc.cQ (fun hc => ?_) (fun hc => ?_) <;> try exact prA))
       | (refine isCl ?_; refine WPl.cV (of4_t _ c hcl2) ?_)
       | (refine isOp ?_; first | refine WPl.rd ?_ | refine WPl.sk ?_ | refine WPl.rdB ?_)
       | (refine isAl ?_; refine WPl.nw fun g => ?_)
       | (refine isSt ?_; first | refine WPl.st1 ?_ | refine WPl.stA ?_ | refine WPl.stEB ?_ | refine WPl.stRB ?_)
       | fail)
      all_goals try (first | exact WPq.dTp | exact WPq.dTs | exact WPq.dV | exact WPq.dR | exact WPq.dR2 | exact WPq.dH | exact WPq.dBH | exact WPq.dT)
theorem maskNo_t (a : Adr) (n : Int) (h : a.maskOk n = false) (h1 : -9223372036854775808 ≤ n) (h2 : n ≤ 9223372036854775807) : Triple Tryz.prog 114 #[ag (adc a), .int .i64 n] [] (RVal (.tuple #[ag (pfc Adr.zero 0), .bool false])) := by
  have hl := a.bits_len
  have hl2 := a.bytes_le
  cases hg : a.good with
  | true =>
    have hgt := good_t a
    rw [hg] at hgt
    simp [Adr.maskOk, hg] at h
    by_cases hn : n < 0
    · skip
      refine Triple.enter Tryz.func114 rfl Tryz.ntmps114 rfl (fun W => ?_)
      dsimp only [argsF, Nat.reduceAdd]
      repeat' (first
       | refine WPl.nil ?_ | refine WPq.then ?_ | refine WPq.thenR ?_ | refine WPc.seq ?_ | refine WPc.ret ?_ | refine WPc.region ?_
       | (refine isCond ?_; first | refine WPc.cT ?_ | refine WPc.cF ?_ | (refine WPc.cQ (fun hc => ?_) (fun hc => ?_) <;> try exact prA))
       | (refine isCl ?_; refine WPl.cR (addrBytes_t a) fun v hv => ?_)
       | (refine isCl ?_; refine WPl.cV (hgt) ?_)
       | (refine isOp ?_; first | refine WPl.rd ?_ | refine WPl.sk ?_ | refine WPl.rdB ?_)
       | (refine isAl ?_; refine WPl.nw fun g => ?_)
       | (refine isBx ?_; refine WPl.nw fun g => ?_)
       | (refine isSt ?_; first | refine WPl.st1 ?_ | refine WPl.stA ?_ | refine WPl.stEB ?_ | refine WPl.stRB ?_)
       | (refine WPl.spQ (fun hc => ?_) (fun hc => ?_) <;> try exact prA)
       | fail)
      all_goals try (first | exact WPq.dTp | exact WPq.dTs | exact WPq.dV | exact WPq.dR | exact WPq.dR2 | exact WPq.dH | exact WPq.dBH | exact WPq.dT)
    · have := h (by omega)
      refine Triple.enter Tryz.func114 rfl Tryz.ntmps114 rfl (fun W => ?_)
      dsimp only [argsF, Nat.reduceAdd]
      repeat' (first
       | refine WPl.nil ?_ | refine WPq.then ?_ | refine WPq.thenR ?_ | refine WPc.seq ?_ | refine WPc.ret ?_ | refine WPc.region ?_
       | (refine isCond ?_; first | refine WPc.cT ?_ | refine WPc.cF ?_ | (refine WPc.cQ (fun hc => ?_) (fun hc => ?_) <;> try exact prA))
       | (refine isCl ?_; refine WPl.cR (addrBytes_t a) fun v hv => ?_)
       | (refine isCl ?_; refine WPl.cV (hgt) ?_)
       | (refine isOp ?_; first | refine WPl.rd ?_ | refine WPl.sk ?_ | refine WPl.rdB ?_)
       | (refine isAl ?_; refine WPl.nw fun g => ?_)
       | (refine isBx ?_; refine WPl.nw fun g => ?_)
       | (refine isSt ?_; first | refine WPl.st1 ?_ | refine WPl.stA ?_ | refine WPl.stEB ?_ | refine WPl.stRB ?_)
       | (refine WPl.spQ (fun hc => ?_) (fun hc => ?_) <;> try exact prA)
       | fail)
      all_goals try (first | exact WPq.dTp | exact WPq.dTs | exact WPq.dV | exact WPq.dR | exact WPq.dR2 | exact WPq.dH | exact WPq.dBH | exact WPq.dT)
  | false =>
    have hgt := good_t a
    rw [hg] at hgt
    refine Triple.enter Tryz.func114 rfl Tryz.ntmps114 rfl (fun W => ?_)
    dsimp only [argsF, Nat.reduceAdd]
    repeat' (first
     | refine WPl.nil ?_ | refine WPq.then ?_ | refine WPq.thenR ?_ | refine WPc.seq ?_ | refine WPc.ret ?_ | refine WPc.region ?_
     | (refine isCond ?_; first | refine WPc.cT ?_ | refine WPc.cF ?_ | (refine WPc.cQ (fun hc => ?_) (fun hc => ?_) <;> try exact prA))
     | (refine isCl ?_; refine WPl.cR (addrBytes_t a) fun v hv => ?_)
     | (refine isCl ?_; refine WPl.cV (hgt) ?_)
     | (refine isOp ?_; first | refine WPl.rd ?_ | refine WPl.sk ?_ | refine WPl.rdB ?_)
     | (refine isAl ?_; refine WPl.nw fun g => ?_)
     | (refine isBx ?_; refine WPl.nw fun g => ?_)
     | (refine isSt ?_; first | refine WPl.st1 ?_ | refine WPl.stA ?_ | refine WPl.stEB ?_ | refine WPl.stRB ?_)
     | fail)
    all_goals try (first | exact WPq.dTp | exact WPq.dTs | exact WPq.dV | exact WPq.dR | exact WPq.dR2 | exact WPq.dH | exact WPq.dBH | exact WPq.dT)
abbrev maskV (a : Adr) (n : Int) : Value := .tuple #[ag (pfc (maskA a n) (maskN a n)), .bool (a.maskOk n)]
theorem mask_t (a : Adr) (n : Int) (h1 : -9223372036854775808 ≤ n) (h2 : n ≤ 9223372036854775807) : Triple Tryz.prog 114 #[ag (adc a), .int .i64 n] [] (RVal (maskV a n)) := by
  cases h : a.maskOk n with
  | true =>
    simp only [maskV, maskA, maskN, h, if_true]
    simp only [Adr.maskOk, Bool.and_eq_true, decide_eq_true_eq] at h
    obtain ⟨m, rfl⟩ := Int.eq_ofNat_of_zero_le h.2.1
    exact maskYes_t a m h.1 (by omega)
  | false =>
    simp only [maskV, maskA, maskN, h, Bool.false_eq_true, if_false]
    exact maskNo_t a n h h1 h2
theorem Mask_t (a : Adr) (n : Int) (h1 : -9223372036854775808 ≤ n) (h2 : n ≤ 9223372036854775807) : Triple Tryz.prog 67 #[ag (adc a), .int .i64 n] [] (RVal (maskV a n)) := by
  refine Triple.enter Tryz.func67 rfl Tryz.ntmps67 rfl (fun W => ?_)
  dsimp only [argsF, Nat.reduceAdd]
  repeat' (first
   | refine WPl.nil ?_ | refine WPq.then ?_ | refine WPc.seq ?_ | refine WPc.ret ?_ | refine WPc.region ?_
   | (refine isCl ?_; refine WPl.cV (mask_t a n h1 h2) ?_)
   | (refine isOp ?_; first | refine WPl.rd ?_ | refine WPl.sk ?_ | refine WPl.rdB ?_)
   | (refine isAl ?_; refine WPl.nw fun g => ?_)
   | (refine isBx ?_; refine WPl.nw fun g => ?_)
   | (refine isSt ?_; first | refine WPl.st1 ?_ | refine WPl.stA ?_ | refine WPl.stEB ?_ | refine WPl.stRB ?_)
   | fail)
  all_goals try (first | exact WPq.dTp | exact WPq.dTs | exact WPq.dV | exact WPq.dR | exact WPq.dR2 | exact WPq.dH | exact WPq.dBH | exact WPq.dT)
theorem Good_t (a : Adr) : Triple Tryz.prog 112 #[ag (adc a)] [] (RVal (.bool a.good)) := by
  refine Triple.enter Tryz.func112 rfl Tryz.ntmps112 rfl (fun W => ?_)
  dsimp only [argsF, Nat.reduceAdd]
  repeat' (first
   | refine WPl.nil ?_ | refine WPq.then ?_ | refine WPc.seq ?_ | refine WPc.ret ?_ | refine WPc.region ?_
   | (refine isCl ?_; refine WPl.cV (good_t a) ?_)
   | (refine isOp ?_; first | refine WPl.rd ?_ | refine WPl.sk ?_ | refine WPl.rdB ?_)
   | (refine isBx ?_; refine WPl.nw fun g => ?_)
   | fail)
  all_goals try (first | exact WPq.dTp | exact WPq.dTs | exact WPq.dV | exact WPq.dR | exact WPq.dR2 | exact WPq.dH | exact WPq.dBH | exact WPq.dT)
theorem Of4_t (v : Value) (l : List UInt8) (h : l.length = 4) : Triple Tryz.prog 132 #[v] [rb v l] (RVal (.tuple #[ag (adc (Adr.of4 l h)), .bool true])) := by
  refine Triple.enter Tryz.func132 rfl Tryz.ntmps132 rfl (fun W => ?_)
  dsimp only [argsF, Nat.reduceAdd]
  repeat' (first
   | refine WPl.nil ?_ | refine WPq.then ?_ | refine WPc.seq ?_ | refine WPc.ret ?_ | refine WPc.region ?_
   | (refine isCl ?_; refine WPl.cV (of4_t _ l h) ?_)
   | (refine isOp ?_; first | refine WPl.rd ?_ | refine WPl.sk ?_ | refine WPl.rdB ?_)
   | (refine isAl ?_; refine WPl.nw fun g => ?_)
   | (refine isSt ?_; first | refine WPl.st1 ?_ | refine WPl.stA ?_ | refine WPl.stEB ?_ | refine WPl.stRB ?_)
   | fail)
  all_goals try (first | exact WPq.dTp | exact WPq.dTs | exact WPq.dV | exact WPq.dR | exact WPq.dR2 | exact WPq.dH | exact WPq.dBH | exact WPq.dT)
theorem Of6_t (v : Value) (l : List UInt8) (h : l.length = 16) : Triple Tryz.prog 132 #[v] [rb v l] (RVal (.tuple #[ag (adc (Adr.of6 l h)), .bool true])) := by
  refine Triple.enter Tryz.func132 rfl Tryz.ntmps132 rfl (fun W => ?_)
  dsimp only [argsF, Nat.reduceAdd]
  repeat' (first
   | refine WPl.nil ?_ | refine WPq.then ?_ | refine WPc.seq ?_ | refine WPc.ret ?_ | refine WPc.region ?_
   | (refine isCl ?_; refine WPl.cV (of6_t _ l h) ?_)
   | (refine isOp ?_; first | refine WPl.rd ?_ | refine WPl.sk ?_ | refine WPl.rdB ?_)
   | (refine isAl ?_; refine WPl.nw fun g => ?_)
   | (refine isSt ?_; first | refine WPl.st1 ?_ | refine WPl.stA ?_ | refine WPl.stEB ?_ | refine WPl.stRB ?_)
   | fail)
  all_goals try (first | exact WPq.dTp | exact WPq.dTs | exact WPq.dV | exact WPq.dR | exact WPq.dR2 | exact WPq.dH | exact WPq.dBH | exact WPq.dT)
theorem OfNo_t (v : Value) (l : List UInt8) (h : l.length ≠ 4) (h' : l.length ≠ 16) : Triple Tryz.prog 132 #[v] [rb v l] (RVal (.tuple #[ag (adc Adr.zero), .bool false])) := by
  refine Triple.enter Tryz.func132 rfl Tryz.ntmps132 rfl (fun W => ?_)
  dsimp only [argsF, Nat.reduceAdd]
  repeat' (first
   | refine WPl.nil ?_ | refine WPq.then ?_ | refine WPc.seq ?_ | refine WPc.ret ?_ | refine WPc.region ?_
   | (refine isCl ?_; refine WPl.cV (ofNo_t _ l h h') ?_)
   | (refine isOp ?_; first | refine WPl.rd ?_ | refine WPl.sk ?_ | refine WPl.rdB ?_)
   | (refine isAl ?_; refine WPl.nw fun g => ?_)
   | (refine isSt ?_; first | refine WPl.st1 ?_ | refine WPl.stA ?_ | refine WPl.stEB ?_ | refine WPl.stRB ?_)
   | fail)
  all_goals try (first | exact WPq.dTp | exact WPq.dTs | exact WPq.dV | exact WPq.dR | exact WPq.dR2 | exact WPq.dH | exact WPq.dBH | exact WPq.dT)
end Go.Proofs.YtpilenbdimhegaaGreatDoor
/- References of layer 12 (addr): contracts. -/
namespace Go.Proofs.YtpilenbdimhegaaGreatDoor
open Go.RowKit
set_option linter.unusedSimpArgs false
set_option linter.unusedVariables false
set_option maxRecDepth 20000
set_option maxHeartbeats 4000000
attribute [local irreducible] WPc WPl WPq ReadR OpT BinR HasS bx rdN rowN Take Takes Prov Triple ResF BuildP Done ag Int.decLt Int.decLe Int.instDecidableEq

theorem zeros_iff {l : List UInt8} {n : Nat} (h : n ≤ l.length) : seg l 0 n = List.replicate n 0 ↔ ∀ j, j < n → l.getD j 0 = 0 := by
  unfold seg
  rw [List.drop_zero, List.eq_replicate_iff]
  constructor
  · rintro ⟨-, h2⟩ j hj
    have : l.getD j 0 = (l.take n).getD j 0 := by simp [List.getD_eq_getElem?_getD, List.getElem?_take, hj]
    rw [this, List.getD_eq_getElem?_getD, List.getElem?_eq_getElem (by simp; omega)]
    exact h2 _ (List.getElem_mem _)
  · intro h2
    refine ⟨by simp; omega, fun b hb => ?_⟩
    obtain ⟨j, hj, rfl⟩ := List.mem_iff_getElem.1 hb
    have hj' : j < n := by simp at hj; omega
    have := h2 j hj'
    rw [List.getElem_take]
    rw [List.getD_eq_getElem?_getD, List.getElem?_eq_getElem (by omega)] at this
    exact this
theorem toNat_zero {b : UInt8} : ((b.toNat : Nat) : Int) = 0 ↔ b = 0 := by
  constructor
  · intro h; apply UInt8.toNat_inj.1; simpa using h
  · rintro rfl; rfl
theorem rgood_t (a : Adr) : Triple Tryz.prog 96 #[ag (adc a)] [] (RVal (.bool a.good)) := by
  have hlen := a.len
  refine Triple.enter Tryz.func96 rfl Tryz.ntmps96 rfl (fun W => ?_)
  dsimp only [argsF, Nat.reduceAdd]
  repeat' (first
   | refine WPl.nil ?_ | refine WPq.then ?_ | refine WPq.thenR ?_ | refine WPq.thenE ?_ | refine WPq.blockN ?_ | refine WPq.blockR ?_ | refine WPq.blockE ?_ | refine WPq.blockO rfl ?_ | refine WPc.seq ?_ | refine WPc.block ?_ | refine WPc.ret ?_ | refine WPc.exit ?_ | refine WPc.skip ?_ | refine WPc.region ?_
   | (refine isCond ?_; first | refine WPc.cT ?_ | refine WPc.cF ?_)
   | (refine isOp ?_; first | refine WPl.rd ?_ | refine WPl.sk ?_ | refine WPl.rdB ?_)
   | (refine isBx ?_; refine WPl.nw fun g => ?_)
   | (show WPl _ _ _ _ _ _ _ (⟨_, .indexAddr _ _ _, _, _, _, _⟩ :: _) _; refine WPl.rdX (ReadR.indexE rfl rfl hasA (by first | assumption | omega)) ?_)
   | (show WPl _ _ _ _ _ _ _ (⟨_, .fieldAddr _ _ _, _, _, _, _⟩ :: _) _; refine WPl.rdX (ReadR.fieldE rfl hasA (by first | assumption | omega)) ?_)
   | (show WPl _ _ _ _ _ _ _ (⟨_, .load _ _, _, _, _, _⟩ :: _) _; first | refine WPl.rdX (ReadR.loadE rfl hasA (by assumption)) ?_ | refine WPl.rdX (ReadR.loadES (by assumption) (by first | assumption | omega) rfl hasA) ?_)
   | (show WPl _ _ _ _ _ _ _ (⟨_, .slice _ _ _ _ _, _, _, _, _⟩ :: _) _; first | refine WPl.rdX (ReadR.sliceH rfl rfl hasA (by omega)) ?_ | refine WPl.rdX (ReadR.sliceL rfl rfl hasA (by omega)) ?_ | refine WPl.rdX (ReadR.sliceLH rfl rfl rfl hasA (by omega) (by omega)) ?_)
   | fail)
  first | refine WPc.loop (σ := Nat) (fun i => i ≤ 12 ∧ (a.six = true ∨ ∀ j, j < i → a.b.getD j 0 = 0)) (fun i => [bx g 35 (adc a)]) (fun i => [(1, .pointer (some ⟨g, 0, none⟩)), (3, .int .i64 i)]) (fun i => 12 - i) (0) ?_ takesA frsA (fun st km hx hk => ?_)
  · exact ⟨Nat.zero_le _, .inr fun j hj => by omega⟩
  obtain ⟨i, rfl⟩ : ∃ i, i = st := ⟨_, rfl⟩
  obtain ⟨hi, hz⟩ := hx
  by_cases hlt : i < 12
  · cases h6 : a.six with
    | true =>
      repeat' (first
       | refine WPl.nil ?_ | refine WPq.then ?_ | refine WPq.thenR ?_ | refine WPq.thenE ?_ | refine WPq.blockN ?_ | refine WPq.blockR ?_ | refine WPq.blockE ?_ | refine WPq.blockO rfl ?_ | refine WPc.seq ?_ | refine WPc.block ?_ | refine WPc.ret ?_ | refine WPc.exit ?_ | refine WPc.skip ?_ | refine WPc.region ?_
       | (refine isCond ?_; first | refine WPc.cT ?_ | refine WPc.cF ?_ | (refine WPc.cQ (fun hc => ?_) (fun hc => ?_) <;> try exact prA))
       | (refine isOp ?_; first | refine WPl.rd ?_ | refine WPl.sk ?_ | refine WPl.rdB ?_)
       | (refine isBx ?_; refine WPl.nw fun g => ?_)
       | (show WPl _ _ _ _ _ _ _ (⟨_, .indexAddr _ _ _, _, _, _, _⟩ :: _) _; refine WPl.rdX (ReadR.indexE rfl rfl hasA (by first | assumption | omega)) ?_)
       | (show WPl _ _ _ _ _ _ _ (⟨_, .fieldAddr _ _ _, _, _, _, _⟩ :: _) _; refine WPl.rdX (ReadR.fieldE rfl hasA (by first | assumption | omega)) ?_)
       | (show WPl _ _ _ _ _ _ _ (⟨_, .load _ _, _, _, _, _⟩ :: _) _; first | refine WPl.rdX (ReadR.loadE rfl hasA (by assumption)) ?_ | refine WPl.rdX (ReadR.loadES (by assumption) (by first | assumption | omega) rfl hasA) ?_)
       | (show WPl _ _ _ _ _ _ _ (⟨_, .slice _ _ _ _ _, _, _, _, _⟩ :: _) _; first | refine WPl.rdX (ReadR.sliceH rfl rfl hasA (by omega)) ?_ | refine WPl.rdX (ReadR.sliceL rfl rfl hasA (by omega)) ?_ | refine WPl.rdX (ReadR.sliceLH rfl rfl rfl hasA (by omega) (by omega)) ?_)
       | (refine WPl.spQ (fun hc => ?_) (fun hc => ?_) <;> try exact prA)
       | fail)
      exact WPq.rnd (i + 1) ⟨by omega, .inl rfl⟩ (by omega)
    | false =>
      rw [h6] at hz
      have hz : ∀ j, j < i → a.b.getD j 0 = 0 := by simpa using hz
      repeat' (first
       | refine WPl.nil ?_ | refine WPq.then ?_ | refine WPq.thenR ?_ | refine WPq.thenE ?_ | refine WPq.blockN ?_ | refine WPq.blockR ?_ | refine WPq.blockE ?_ | refine WPq.blockO rfl ?_ | refine WPc.seq ?_ | refine WPc.block ?_ | refine WPc.ret ?_ | refine WPc.exit ?_ | refine WPc.skip ?_ | refine WPc.region ?_
       | (refine isCond ?_; first | refine WPc.cT ?_ | refine WPc.cF ?_ | (refine WPc.cQ (fun hc => ?_) (fun hc => ?_) <;> try exact prA))
       | (refine isOp ?_; first | refine WPl.rd ?_ | refine WPl.sk ?_ | refine WPl.rdB ?_)
       | (refine isBx ?_; refine WPl.nw fun g => ?_)
       | (show WPl _ _ _ _ _ _ _ (⟨_, .indexAddr _ _ _, _, _, _, _⟩ :: _) _; refine WPl.rdX (ReadR.indexE rfl rfl hasA (by first | assumption | omega)) ?_)
       | (show WPl _ _ _ _ _ _ _ (⟨_, .fieldAddr _ _ _, _, _, _, _⟩ :: _) _; refine WPl.rdX (ReadR.fieldE rfl hasA (by first | assumption | omega)) ?_)
       | (show WPl _ _ _ _ _ _ _ (⟨_, .load _ _, _, _, _, _⟩ :: _) _; first | refine WPl.rdX (ReadR.loadE rfl hasA (by assumption)) ?_ | refine WPl.rdX (ReadR.loadES (by assumption) (by first | assumption | omega) rfl hasA) ?_)
       | (show WPl _ _ _ _ _ _ _ (⟨_, .slice _ _ _ _ _, _, _, _, _⟩ :: _) _; first | refine WPl.rdX (ReadR.sliceH rfl rfl hasA (by omega)) ?_ | refine WPl.rdX (ReadR.sliceL rfl rfl hasA (by omega)) ?_ | refine WPl.rdX (ReadR.sliceLH rfl rfl rfl hasA (by omega) (by omega)) ?_)
       | (refine WPl.spQ (fun hc => ?_) (fun hc => ?_) <;> try exact prA)
       | fail)
      · exact WPq.dV (hc := by
          have : ¬ a.good = true := fun hg => by
            simp only [Adr.good, h6, Bool.false_or, decide_eq_true_eq] at hg
            exact hc (toNat_zero.2 ((zeros_iff (by omega)).1 hg i hlt))
          simp [resV, this])
      · exact WPq.rnd (i + 1) ⟨by omega, .inr fun j hj => by
          by_cases e : j = i
          · subst e; exact toNat_zero.1 (by simpa using hc)
          · exact hz j (by omega)⟩ (by omega)
  · skip
    repeat' (first
     | refine WPl.nil ?_ | refine WPq.then ?_ | refine WPq.thenR ?_ | refine WPq.thenE ?_ | refine WPq.blockN ?_ | refine WPq.blockR ?_ | refine WPq.blockE ?_ | refine WPq.blockO rfl ?_ | refine WPc.seq ?_ | refine WPc.block ?_ | refine WPc.ret ?_ | refine WPc.exit ?_ | refine WPc.skip ?_ | refine WPc.region ?_
     | (refine isCond ?_; first | refine WPc.cT ?_ | refine WPc.cF ?_ | (refine WPc.cQ (fun hc => ?_) (fun hc => ?_) <;> try exact prA))
     | (refine isOp ?_; first | refine WPl.rd ?_ | refine WPl.sk ?_ | refine WPl.rdB ?_)
     | (refine isBx ?_; refine WPl.nw fun g => ?_)
     | (show WPl _ _ _ _ _ _ _ (⟨_, .indexAddr _ _ _, _, _, _, _⟩ :: _) _; refine WPl.rdX (ReadR.indexE rfl rfl hasA (by first | assumption | omega)) ?_)
     | (show WPl _ _ _ _ _ _ _ (⟨_, .fieldAddr _ _ _, _, _, _, _⟩ :: _) _; refine WPl.rdX (ReadR.fieldE rfl hasA (by first | assumption | omega)) ?_)
     | (show WPl _ _ _ _ _ _ _ (⟨_, .load _ _, _, _, _, _⟩ :: _) _; first | refine WPl.rdX (ReadR.loadE rfl hasA (by assumption)) ?_ | refine WPl.rdX (ReadR.loadES (by assumption) (by first | assumption | omega) rfl hasA) ?_)
     | (show WPl _ _ _ _ _ _ _ (⟨_, .slice _ _ _ _ _, _, _, _, _⟩ :: _) _; first | refine WPl.rdX (ReadR.sliceH rfl rfl hasA (by omega)) ?_ | refine WPl.rdX (ReadR.sliceL rfl rfl hasA (by omega)) ?_ | refine WPl.rdX (ReadR.sliceLH rfl rfl rfl hasA (by omega) (by omega)) ?_)
     | (refine WPl.spQ (fun hc => ?_) (fun hc => ?_) <;> try exact prA)
     | fail)
    exact WPq.dV (hc := by
      have : a.good = true := by
        rcases hz with h6 | hz
        · simp [Adr.good, h6]
        · simp only [Adr.good, Bool.or_eq_true, decide_eq_true_eq]
          exact .inr ((zeros_iff (by omega)).2 fun j hj => hz j (by omega))
      simp [resV, this])
theorem rfrom_t (a : Adr) (k : Int) (hk : k = if a.six then 0 else 12) : Triple Tryz.prog 123 #[ag (adc a)] [] (RVal (.int .i64 k)) := by
  refine Triple.enter Tryz.func123 rfl Tryz.ntmps123 rfl (fun W => ?_)
  dsimp only [argsF, Nat.reduceAdd]
  repeat' (first
   | refine WPl.nil ?_ | refine WPq.then ?_ | refine WPq.thenR ?_ | refine WPq.thenE ?_ | refine WPq.blockN ?_ | refine WPq.blockR ?_ | refine WPq.blockE ?_ | refine WPq.blockO rfl ?_ | refine WPc.seq ?_ | refine WPc.block ?_ | refine WPc.ret ?_ | refine WPc.exit ?_ | refine WPc.skip ?_ | refine WPc.region ?_
   | (refine isCond ?_; first | refine WPc.cT ?_ | refine WPc.cF ?_ | (refine WPc.cQ (fun hc => ?_) (fun hc => ?_) <;> try exact prA))
   | (refine isOp ?_; first | refine WPl.rd ?_ | refine WPl.sk ?_ | refine WPl.rdB ?_)
   | (refine isBx ?_; refine WPl.nw fun g => ?_)
   | (show WPl _ _ _ _ _ _ _ (⟨_, .indexAddr _ _ _, _, _, _, _⟩ :: _) _; refine WPl.rdX (ReadR.indexE rfl rfl hasA (by first | assumption | omega)) ?_)
   | (show WPl _ _ _ _ _ _ _ (⟨_, .fieldAddr _ _ _, _, _, _, _⟩ :: _) _; refine WPl.rdX (ReadR.fieldE rfl hasA (by first | assumption | omega)) ?_)
   | (show WPl _ _ _ _ _ _ _ (⟨_, .load _ _, _, _, _, _⟩ :: _) _; first | refine WPl.rdX (ReadR.loadE rfl hasA (by assumption)) ?_ | refine WPl.rdX (ReadR.loadES (by assumption) (by first | assumption | omega) rfl hasA) ?_)
   | (show WPl _ _ _ _ _ _ _ (⟨_, .slice _ _ _ _ _, _, _, _, _⟩ :: _) _; first | refine WPl.rdX (ReadR.sliceH rfl rfl hasA (by omega)) ?_ | refine WPl.rdX (ReadR.sliceL rfl rfl hasA (by omega)) ?_ | refine WPl.rdX (ReadR.sliceLH rfl rfl rfl hasA (by omega) (by omega)) ?_)
   | (refine WPl.spQ (fun hc => ?_) (fun hc => ?_) <;> try exact prA)
   | fail)
  all_goals exact WPq.dV (hc := by simp [resV, hk, hc])
theorem rbytes_t (a : Adr) : Triple Tryz.prog 99 #[ag (adc a)] [] (ROb a.bytes) := by
  have hlen := a.len
  cases h6 : a.six with
  | true =>
    refine Triple.enter Tryz.func99 rfl Tryz.ntmps99 rfl (fun W => ?_)
    dsimp only [argsF, Nat.reduceAdd]
    repeat' (first
     | refine WPl.nil ?_ | refine WPq.then ?_ | refine WPq.thenR ?_ | refine WPq.thenE ?_ | refine WPq.blockN ?_ | refine WPq.blockR ?_ | refine WPq.blockE ?_ | refine WPq.blockO rfl ?_ | refine WPc.seq ?_ | refine WPc.block ?_ | refine WPc.ret ?_ | refine WPc.exit ?_ | refine WPc.skip ?_ | refine WPc.region ?_
     | (refine isCond ?_; first | refine WPc.cT ?_ | refine WPc.cF ?_ | (refine WPc.cQ (fun hc => ?_) (fun hc => ?_) <;> try exact prA))
     | (refine isCl ?_; refine WPl.cV (rfrom_t a 0 (by rw [h6]; rfl)) ?_)
     | (refine isLit ?_; refine WPl.lit fun v hv => ?_)
     | (refine isApp ?_; refine WPl.app fun v hv => ?_)
     | (refine isOp ?_; first | refine WPl.rd ?_ | refine WPl.sk ?_ | refine WPl.rdB ?_)
     | (refine isBx ?_; refine WPl.nw fun g => ?_)
     | (show WPl _ _ _ _ _ _ _ (⟨_, .indexAddr _ _ _, _, _, _, _⟩ :: _) _; refine WPl.rdX (ReadR.indexE rfl rfl hasA (by first | assumption | omega)) ?_)
     | (show WPl _ _ _ _ _ _ _ (⟨_, .fieldAddr _ _ _, _, _, _, _⟩ :: _) _; refine WPl.rdX (ReadR.fieldE rfl hasA (by first | assumption | omega)) ?_)
     | (show WPl _ _ _ _ _ _ _ (⟨_, .load _ _, _, _, _, _⟩ :: _) _; first | refine WPl.rdX (ReadR.loadE rfl hasA (by assumption)) ?_ | refine WPl.rdX (ReadR.loadES (by assumption) (by first | assumption | omega) rfl hasA) ?_)
     | (show WPl _ _ _ _ _ _ _ (⟨_, .slice _ _ _ _ _, _, _, _, _⟩ :: _) _; first | refine WPl.rdX (ReadR.sliceH rfl rfl hasA (by omega)) ?_ | refine WPl.rdX (ReadR.sliceL rfl rfl hasA (by omega)) ?_ | refine WPl.rdX (ReadR.sliceLH rfl rfl rfl hasA (by omega) (by omega)) ?_)
     | (refine WPl.spQ (fun hc => ?_) (fun hc => ?_) <;> try exact prA)
     | fail)
    rw [show a.bytes = nbs [] ++ a.b by simp [Adr.bytes, h6, nbs_nil]]
    all_goals try (first | exact WPq.dTp | exact WPq.dTs | exact WPq.dV | exact WPq.dR | exact WPq.dR2 | exact WPq.dH | exact WPq.dBH | exact WPq.dT)
  | false =>
    refine Triple.enter Tryz.func99 rfl Tryz.ntmps99 rfl (fun W => ?_)
    dsimp only [argsF, Nat.reduceAdd]
    repeat' (first
     | refine WPl.nil ?_ | refine WPq.then ?_ | refine WPq.thenR ?_ | refine WPq.thenE ?_ | refine WPq.blockN ?_ | refine WPq.blockR ?_ | refine WPq.blockE ?_ | refine WPq.blockO rfl ?_ | refine WPc.seq ?_ | refine WPc.block ?_ | refine WPc.ret ?_ | refine WPc.exit ?_ | refine WPc.skip ?_ | refine WPc.region ?_
     | (refine isCond ?_; first | refine WPc.cT ?_ | refine WPc.cF ?_ | (refine WPc.cQ (fun hc => ?_) (fun hc => ?_) <;> try exact prA))
     | (refine isCl ?_; refine WPl.cV (rfrom_t a 12 (by rw [h6]; rfl)) ?_)
     | (refine isLit ?_; refine WPl.lit fun v hv => ?_)
     | (refine isApp ?_; refine WPl.app fun v hv => ?_)
     | (refine isOp ?_; first | refine WPl.rd ?_ | refine WPl.sk ?_ | refine WPl.rdB ?_)
     | (refine isBx ?_; refine WPl.nw fun g => ?_)
     | (show WPl _ _ _ _ _ _ _ (⟨_, .indexAddr _ _ _, _, _, _, _⟩ :: _) _; refine WPl.rdX (ReadR.indexE rfl rfl hasA (by first | assumption | omega)) ?_)
     | (show WPl _ _ _ _ _ _ _ (⟨_, .fieldAddr _ _ _, _, _, _, _⟩ :: _) _; refine WPl.rdX (ReadR.fieldE rfl hasA (by first | assumption | omega)) ?_)
     | (show WPl _ _ _ _ _ _ _ (⟨_, .load _ _, _, _, _, _⟩ :: _) _; first | refine WPl.rdX (ReadR.loadE rfl hasA (by assumption)) ?_ | refine WPl.rdX (ReadR.loadES (by assumption) (by first | assumption | omega) rfl hasA) ?_)
     | (show WPl _ _ _ _ _ _ _ (⟨_, .slice _ _ _ _ _, _, _, _, _⟩ :: _) _; first | refine WPl.rdX (ReadR.sliceH rfl rfl hasA (by omega)) ?_ | refine WPl.rdX (ReadR.sliceL rfl rfl hasA (by omega)) ?_ | refine WPl.rdX (ReadR.sliceLH rfl rfl rfl hasA (by omega) (by omega)) ?_)
     | (refine WPl.spQ (fun hc => ?_) (fun hc => ?_) <;> try exact prA)
     | fail)
    rw [show a.bytes = nbs [] ++ seg a.b 12 4 by simp [Adr.bytes, h6, nbs_nil]]
    all_goals try (first | exact WPq.dTp | exact WPq.dTs | exact WPq.dV | exact WPq.dR | exact WPq.dR2 | exact WPq.dH | exact WPq.dBH | exact WPq.dT)
end Go.Proofs.YtpilenbdimhegaaGreatDoor
/- Reference of layer 12 (addr): masks. -/
namespace Go.Proofs.YtpilenbdimhegaaGreatDoor
open Go.RowKit
set_option linter.unusedSimpArgs false
set_option linter.unusedVariables false
set_option maxRecDepth 20000
set_option maxHeartbeats 4000000
attribute [local irreducible] WPc WPl WPq ReadR OpT BinR HasS bx rdN rowN Take Takes Prov Triple ResF BuildP Done ag Int.decLt Int.decLe Int.instDecidableEq

/-- The first n bits behind the place f. -/
def mB (f : Nat) (l : List UInt8) (n : Nat) : List UInt8 := List.replicate f 0 ++ maskB (l.drop f) n
def Adr.from (a : Adr) : Nat := if a.six then 0 else 12
end Go.Proofs.YtpilenbdimhegaaGreatDoor
/- Layer 24 (tmpl): keys and values: contracts. -/
namespace Go.Proofs.YtpilenbdimhegaaGreatDoor
open Go.RowKit
set_option linter.unusedSimpArgs false
set_option linter.unusedVariables false
set_option maxRecDepth 20000
set_option maxHeartbeats 4000000
attribute [local irreducible] WPc WPl WPq ReadR OpT BinR HasS bx rdN rowN Take Takes Prov Triple ResF BuildP Done ag Int.decLt Int.decLe Int.instDecidableEq

def idB (n : Int) : Bool := decide (0 ≤ n) && decide (n ≤ 65535)
def keyOk (s : Int) (a : Adr) (n : Int) : Bool := a.maskOk n && decide (maskB a.bytes n.toNat = a.bytes) && idB s
def keyB (s : Nat) (a : Adr) (n : Nat) : List UInt8 := be s 2 ++ ([if a.six then 6 else 4, UInt8.ofNat n] ++ a.bytes)
def keyL (s : Int) (a : Adr) (n : Int) : List UInt8 := if keyOk s a n then keyB s.toNat a n.toNat else []
end Go.Proofs.YtpilenbdimhegaaGreatDoor
/- Layer 24 (tmpl) and its reference: values, spans, reading: contracts. -/
namespace Go.Proofs.YtpilenbdimhegaaGreatDoor
open Go.RowKit
set_option linter.unusedSimpArgs false
set_option linter.unusedVariables false
set_option maxRecDepth 20000
set_option maxHeartbeats 4000000
attribute [local irreducible] WPc WPl WPq ReadR OpT BinR HasS bx rdN rowN Take Takes Prov Triple ResF BuildP Done ag Int.decLt Int.decLe Int.instDecidableEq

def valL (b : Int) (u : Nat) : List UInt8 := if idB b then be b.toNat 2 ++ be u 8 else []
abbrev tmc (s : Int) (a : Adr) (n b : Int) (u : Nat) : Ch := [(1, [.int .i64 s]), (1, [.bool a.six]), (16, u8s a.b), (1, [.int .i64 n]), (1, [.int .i64 b]), (1, [.int .u64 (u : Int)])]
def fromL (s : Int) : List UInt8 := if idB s then be s.toNat 2 else []
def toL (s : Int) : List UInt8 := if idB s && decide (s < 65535) then be (s.toNat + 1) 2 else []
/-- Two results of one's own. -/
def RRows (l k : List UInt8) : Value → List Asn → Prop := fun v Γ => ∃ s t, v = .tuple #[s, t] ∧ s.oneCell' = true ∧ t.oneCell' = true ∧ Γ = [ob s l, ob t k]
end Go.Proofs.YtpilenbdimhegaaGreatDoor
/- Layer 24 (tmpl): reading: contract. -/
namespace Go.Proofs.YtpilenbdimhegaaGreatDoor
open Go.RowKit
set_option linter.unusedSimpArgs false
set_option linter.unusedVariables false
set_option maxRecDepth 20000
set_option maxHeartbeats 4000000
attribute [local irreducible] WPc WPl WPq ReadR OpT BinR HasS bx rdN rowN Take Takes Prov Triple ResF BuildP Done ag Int.decLt Int.decLe Int.instDecidableEq

def tAddr (key : List UInt8) : Adr := if h : key.length = 20 then Adr.of6 (seg key 4 16) (seg_length (by omega)) else if h : key.length = 8 then Adr.of4 (seg key 4 4) (seg_length (by omega)) else Adr.zero
def tLen (key v : List UInt8) : Bool := decide (v.length = 10) && (decide (key.length = 8) || decide (key.length = 20))
def tKey (key : List UInt8) : List UInt8 := keyL (val (seg key 0 2)) (tAddr key) (key.getD 3 0).toNat
def tOk (key v : List UInt8) : Bool := tLen key v && decide (tKey key = key)
def tRes (key v : List UInt8) : Ch := if tOk key v then tmc (val (seg key 0 2)) (tAddr key) (key.getD 3 0).toNat (val (seg v 0 2)) (val (seg v 2 8)) else tmc 0 Adr.zero 0 0 0
abbrev tVal (key v : List UInt8) : Value := .tuple #[ag (tRes key v), .bool (tOk key v)]
theorem val2_lt {l : List UInt8} {k : Nat} : val (seg l k 2) < 65536 := by
  have h := val_lt (seg l k 2)
  have : (seg l k 2).length ≤ 2 := by simp [seg]; omega
  exact Nat.lt_of_lt_of_le h (Nat.le_trans (Nat.pow_le_pow_right (by decide) this) (by decide))
/-- The address of bytes, as the layer tells it. -/
def ofA (l : List UInt8) : Adr := if h : l.length = 16 then Adr.of6 l h else if h : l.length = 4 then Adr.of4 l h else Adr.zero
def ofOk (l : List UInt8) : Bool := decide (l.length = 4) || decide (l.length = 16)
theorem Of_t (v : Value) (l : List UInt8) : Triple Tryz.prog 132 #[v] [rb v l] (RVal (.tuple #[ag (adc (ofA l)), .bool (ofOk l)])) := by
  by_cases h4 : l.length = 4
  · rw [show ofA l = Adr.of4 l h4 by simp [ofA, h4], show ofOk l = true by simp [ofOk, h4]]
    exact Of4_t v l h4
  · by_cases h16 : l.length = 16
    · rw [show ofA l = Adr.of6 l h16 by simp [ofA, h16], show ofOk l = true by simp [ofOk, h16]]
      exact Of6_t v l h16
    · rw [show ofA l = Adr.zero by simp [ofA, h4, h16], show ofOk l = false by simp [ofOk, h4, h16]]
      exact OfNo_t v l h4 h16
end Go.Proofs.YtpilenbdimhegaaGreatDoor
/- Reference of layer 24 (tmpl): contracts. -/
namespace Go.Proofs.YtpilenbdimhegaaGreatDoor
open Go.RowKit
set_option linter.unusedSimpArgs false
set_option linter.unusedVariables false
set_option maxRecDepth 20000
set_option maxHeartbeats 4000000
attribute [local irreducible] WPc WPl WPq ReadR OpT BinR HasS bx rdN rowN Take Takes Prov Triple ResF BuildP Done ag Int.decLt Int.decLe Int.instDecidableEq

theorem over_snoc (l : List UInt8) (k : Nat) (new : List UInt8) (c : UInt8) (h : k + new.length < l.length) : over l k (new ++ [c]) = (over l k new).set (k + new.length) c := by
  unfold over
  rw [List.set_append_right _ _ (by simp; omega), List.length_take, Nat.min_eq_left (by omega), Nat.add_sub_cancel_left, List.set_append_right _ _ (by simp), Nat.sub_self, List.append_assoc]
  congr 2
  rw [List.drop_eq_getElem_cons h]
  simp [Nat.add_assoc]
theorem seg_snoc {l : List UInt8} {k n : Nat} (h : k + n < l.length) : seg l k (n + 1) = seg l k n ++ [l.getD (k + n) 0] := by
  unfold seg
  rw [List.take_add_one]
  congr 1
  simp [List.getElem?_drop, List.getElem?_eq_getElem h]
end Go.Proofs.YtpilenbdimhegaaGreatDoor
/- Layer 24 (tmpl): what its statements use beside: contracts and plain facts. -/
namespace Go.Proofs.YtpilenbdimhegaaGreatDoor
open Go.RowKit
set_option linter.unusedSimpArgs false
set_option linter.unusedVariables false
set_option maxRecDepth 20000
set_option maxHeartbeats 4000000
attribute [local irreducible] WPc WPl WPq ReadR OpT BinR HasS bx rdN rowN Take Takes Prov Triple ResF BuildP Done ag Int.decLt Int.decLe Int.instDecidableEq

theorem few_t (v : Value) (l : List UInt8) (m : Nat) (hm : m ≤ 1000000) : Triple Tryz.prog 38 #[v, .int .i64 m] [rb v l] (ROb (l.take m)) := by
  by_cases h : m < l.length
  · rw [show l.take m = nbs [] ++ seg l 0 m by simp [seg, nbs_nil]]
    refine Triple.enter Tryz.func38 rfl Tryz.ntmps38 rfl (fun W => ?_)
    dsimp only [argsF, Nat.reduceAdd]
    repeat' (first
     | refine WPl.nil ?_ | refine WPq.then ?_ | refine WPq.thenR ?_ | refine WPq.thenE ?_ | refine WPq.blockN ?_ | refine WPq.blockR ?_ | refine WPq.blockE ?_ | refine WPq.blockO rfl ?_ | refine WPc.seq ?_ | refine WPc.block ?_ | refine WPc.ret ?_ | refine WPc.exit ?_ | refine WPc.skip ?_ | refine WPc.region ?_
     | (refine isCond ?_; first | refine WPc.cT ?_ | refine WPc.cF ?_ | (refine WPc.cQ (fun hc => ?_) (fun hc => ?_) <;> try exact prA))
     | (refine isLit ?_; refine WPl.lit fun v hv => ?_)
     | (refine isApp ?_; refine WPl.app fun v hv => ?_)
     | (refine isOp ?_; first | refine WPl.rd ?_ | refine WPl.sk ?_ | refine WPl.rdB ?_)
     | (show WPl _ _ _ _ _ _ _ (⟨_, .indexAddr _ _ _, _, _, _, _⟩ :: _) _; refine WPl.rdX (ReadR.indexE rfl rfl hasA (by first | assumption | omega)) ?_)
     | (show WPl _ _ _ _ _ _ _ (⟨_, .fieldAddr _ _ _, _, _, _, _⟩ :: _) _; refine WPl.rdX (ReadR.fieldE rfl hasA (by first | assumption | omega)) ?_)
     | (show WPl _ _ _ _ _ _ _ (⟨_, .load _ _, _, _, _, _⟩ :: _) _; first | refine WPl.rdX (ReadR.loadE rfl hasA (by assumption)) ?_ | refine WPl.rdX (ReadR.loadES (by assumption) (by first | assumption | omega) rfl hasA) ?_)
     | (show WPl _ _ _ _ _ _ _ (⟨_, .slice _ _ _ _ _, _, _, _, _⟩ :: _) _; first | refine WPl.rdX (ReadR.sliceH rfl rfl hasA (by omega)) ?_ | refine WPl.rdX (ReadR.sliceL rfl rfl hasA (by omega)) ?_ | refine WPl.rdX (ReadR.sliceLH rfl rfl rfl hasA (by omega) (by omega)) ?_)
     | (refine WPl.spQ (fun hc => ?_) (fun hc => ?_) <;> try exact prA)
     | fail)
    all_goals try (first | exact WPq.dTp | exact WPq.dTs | exact WPq.dV | exact WPq.dR | exact WPq.dR2 | exact WPq.dH | exact WPq.dBH | exact WPq.dT)
  · rw [show l.take m = nbs [] ++ l by rw [List.take_of_length_le (by omega), nbs_nil, List.nil_append]]
    refine Triple.enter Tryz.func38 rfl Tryz.ntmps38 rfl (fun W => ?_)
    dsimp only [argsF, Nat.reduceAdd]
    repeat' (first
     | refine WPl.nil ?_ | refine WPq.then ?_ | refine WPq.thenR ?_ | refine WPq.thenE ?_ | refine WPq.blockN ?_ | refine WPq.blockR ?_ | refine WPq.blockE ?_ | refine WPq.blockO rfl ?_ | refine WPc.seq ?_ | refine WPc.block ?_ | refine WPc.ret ?_ | refine WPc.exit ?_ | refine WPc.skip ?_ | refine WPc.region ?_
     | (refine isCond ?_; first | refine WPc.cT ?_ | refine WPc.cF ?_ | (refine WPc.cQ (fun hc => ?_) (fun hc => ?_) <;> try exact prA))
     | (refine isLit ?_; refine WPl.lit fun v hv => ?_)
     | (refine isApp ?_; refine WPl.app fun v hv => ?_)
     | (refine isOp ?_; first | refine WPl.rd ?_ | refine WPl.sk ?_ | refine WPl.rdB ?_)
     | (show WPl _ _ _ _ _ _ _ (⟨_, .indexAddr _ _ _, _, _, _, _⟩ :: _) _; refine WPl.rdX (ReadR.indexE rfl rfl hasA (by first | assumption | omega)) ?_)
     | (show WPl _ _ _ _ _ _ _ (⟨_, .fieldAddr _ _ _, _, _, _, _⟩ :: _) _; refine WPl.rdX (ReadR.fieldE rfl hasA (by first | assumption | omega)) ?_)
     | (show WPl _ _ _ _ _ _ _ (⟨_, .load _ _, _, _, _, _⟩ :: _) _; first | refine WPl.rdX (ReadR.loadE rfl hasA (by assumption)) ?_ | refine WPl.rdX (ReadR.loadES (by assumption) (by first | assumption | omega) rfl hasA) ?_)
     | (show WPl _ _ _ _ _ _ _ (⟨_, .slice _ _ _ _ _, _, _, _, _⟩ :: _) _; first | refine WPl.rdX (ReadR.sliceH rfl rfl hasA (by omega)) ?_ | refine WPl.rdX (ReadR.sliceL rfl rfl hasA (by omega)) ?_ | refine WPl.rdX (ReadR.sliceLH rfl rfl rfl hasA (by omega) (by omega)) ?_)
     | (refine WPl.spQ (fun hc => ?_) (fun hc => ?_) <;> try exact prA)
     | fail)
    all_goals try (first | exact WPq.dTp | exact WPq.dTs | exact WPq.dV | exact WPq.dR | exact WPq.dR2 | exact WPq.dH | exact WPq.dBH | exact WPq.dT)
def cmpL : List UInt8 → List UInt8 → Int
  | a :: l, b :: k => if a = b then cmpL l k else ((a.toNat : Nat) : Int) - (b.toNat : Nat)
  | l, k => (l.length : Int) - k.length
theorem be2 (x : Nat) : be x 2 = [UInt8.ofNat (x / 256), UInt8.ofNat x] := by simp [be]
end Go.Proofs.YtpilenbdimhegaaGreatDoor
/- Layer 13 (ipfour): reading heads: contracts. -/
namespace Go.Proofs.YtpilenbdimhegaaGreatDoor
open Go.RowKit
set_option linter.unusedSimpArgs false
set_option linter.unusedVariables false
set_option maxRecDepth 20000
set_option maxHeartbeats 4000000
attribute [local irreducible] WPc WPl WPq ReadR OpT BinR HasS bx rdN rowN Take Takes Prov Triple ResF BuildP Done ag Int.decLt Int.decLe Int.instDecidableEq

/-- A head. -/
structure Hd where
  six : Bool
  proto : UInt8
  pos : Int
  src : Adr
  dst : Adr
  part : Bool
  hops : UInt8
abbrev hdc (h : Hd) : Ch := [(1, [.bool h.six]), (1, [.int .u8 ((h.proto.toNat : Nat) : Int)]), (1, [.int .i64 h.pos]), (1, [.bool h.src.six]), (16, u8s h.src.b), (1, [.bool h.dst.six]), (16, u8s h.dst.b), (1, [.bool h.part]), (1, [.int .u8 ((h.hops.toNat : Nat) : Int)])]
def Hd.none : Hd := ⟨false, 0, 0, Adr.zero, Adr.zero, false, 0⟩
def byteN (b : List UInt8) (i : Nat) : Nat := (b.getD i 0).toNat
theorem byteN_lt (b : List UInt8) (i : Nat) : byteN b i < 256 := UInt8.toNat_lt _
def ihl (b : List UInt8) : Nat := 4 * (byteN b 0 % 16)
theorem ihl_lt (b : List UInt8) : ihl b ≤ 60 := by unfold ihl; omega
def ferr (b : List UInt8) : Int :=
  if 2048 < b.length then 10 else if b.length < 20 then 9 else if byteN b 0 / 16 ≠ 4 then 12 else if ihl b < 20 then 4 else if b.length < ihl b then 9
  else if val (seg b 2 2) < ihl b then 4 else if b.length < val (seg b 2 2) then 9 else if val (seg b 2 2) < b.length then 10 else if csum (seg b 0 (ihl b)) ≠ 0 then 5
  else if byteN b 8 = 0 ∨ 128 ≤ byteN b 6 then 4 else 0
def fhead (b : List UInt8) : Hd := ⟨false, b.getD 9 0, ihl b, ofA (seg b 12 4), ofA (seg b 16 4), decide (¬ val (seg b 6 2) % 16384 = 0), b.getD 8 0⟩
def fread (b : List UInt8) : Hd := if ferr b = 0 then fhead b else Hd.none
theorem val_seg2 {b : List UInt8} {i : Nat} (h : i + 2 ≤ b.length) : val (seg b i 2) = 256 * byteN b i + byteN b (i + 1) := by
  have e1 := seg_snoc (l := b) (k := i) (n := 1) (by omega)
  have e2 := seg_snoc (l := b) (k := i) (n := 0) (by omega)
  rw [e1, e2, val_snoc, val_snoc]
  simp [seg, val, byteN]; omega
theorem BinR.mulT {P : Program} {T : TypeId} {k : IntKind} {a b c : Int} (h : a * b = c) (h1 : kmin k ≤ c) (h2 : c ≤ kmax k) : BinR P .mul T (.int k a) (.int k b) (.int k c) := h ▸ BinR.mulK (h ▸ h1) (h ▸ h2)
theorem and_128 : ∀ (c : Fin 256), c.val &&& 128 = c.val / 128 * 128 := by decide +kernel
theorem BinR.and128 {P : Program} {T : TypeId} {c : UInt8} : BinR P .and T (.int .u8 ((c.toNat : Nat) : Int)) (.int .u8 128) (.int .u8 ((c.toNat / 128 * 128 : Nat) : Int)) := by
  have h1 := c.toNat_lt
  have := BinR.andN (P := P) (T := T) (k := .u8) (a := c.toNat) (b := 128) rfl (by exact h1) (by show _ < 2 ^ 8; omega)
  rwa [and_128 ⟨c.toNat, by simpa using h1⟩] at this
theorem fsize_t (v : Value) (b : List UInt8) (h : 4 ≤ b.length) (hl : b.length ≤ 1000000) : Triple Tryz.prog 157 #[v] [rb v b] (RVal (.int .i64 (val (seg b 2 2) : Nat))) := by
  have hv1 := val2_lt (l := b) (k := 2)
  refine Triple.enter Tryz.func157 rfl Tryz.ntmps157 rfl (fun W => ?_)
  dsimp only [argsF, Nat.reduceAdd]
  repeat' (first
   | refine WPl.nil ?_ | refine WPq.then ?_ | refine WPq.thenR ?_ | refine WPq.thenE ?_ | refine WPq.blockN ?_ | refine WPq.blockR ?_ | refine WPq.blockE ?_ | refine WPq.blockO rfl ?_ | refine WPc.seq ?_ | refine WPc.block ?_ | refine WPc.ret ?_ | refine WPc.exit ?_ | refine WPc.skip ?_ | refine WPc.region ?_
   | (refine isCond ?_; first | refine WPc.cT ?_ | refine WPc.cF ?_ | (refine WPc.cQ (fun hc => ?_) (fun hc => ?_) <;> try exact prA))
   | (refine isCl ?_; refine WPl.cV (get_t v b 2 2 (by omega) (by omega) (by omega) (by omega)) ?_)
   | (refine isOp ?_; first | refine WPl.rd ?_ | refine WPl.sk ?_ | refine WPl.rdB ?_)
   | (show WPl _ _ _ _ _ _ _ (⟨_, .indexAddr _ _ _, _, _, _, _⟩ :: _) _; refine WPl.rdX (ReadR.indexE rfl rfl hasA (by first | assumption | omega)) ?_)
   | (show WPl _ _ _ _ _ _ _ (⟨_, .fieldAddr _ _ _, _, _, _, _⟩ :: _) _; refine WPl.rdX (ReadR.fieldE rfl hasA (by first | assumption | omega)) ?_)
   | (show WPl _ _ _ _ _ _ _ (⟨_, .load _ _, _, _, _, _⟩ :: _) _; first | refine WPl.rdX (ReadR.loadE rfl hasA (by assumption)) ?_ | refine WPl.rdX (ReadR.loadES (by assumption) (by first | assumption | omega) rfl hasA) ?_)
   | (show WPl _ _ _ _ _ _ _ (⟨_, .slice _ _ _ _ _, _, _, _, _⟩ :: _) _; first | refine WPl.rdX (ReadR.sliceH rfl rfl hasA (by omega)) ?_ | refine WPl.rdX (ReadR.sliceL rfl rfl hasA (by omega)) ?_ | refine WPl.rdX (ReadR.sliceLH rfl rfl rfl hasA (by omega) (by omega)) ?_)
   | (refine WPl.spQ (fun hc => ?_) (fun hc => ?_) <;> try exact prA)
   | fail)
  all_goals try (first | exact WPq.dTp | exact WPq.dTs | exact WPq.dV | exact WPq.dR | exact WPq.dR2 | exact WPq.dH | exact WPq.dBH | exact WPq.dT)
theorem long_t (v : Value) (b : List UInt8) (hl : b.length ≤ 1000000) : Triple Tryz.prog 130 #[v] [rb v b] (RVal (.int .i64 (ferr b))) := by
  have hb0 := byteN_lt b 0
  have hb6 := byteN_lt b 6
  have hb8 := byteN_lt b 8
  have hihl : (4 : Int) * (((b.getD 0 0).toNat : Nat) % (15 + 1)) = ((ihl b : Nat) : Int) := by unfold ihl byteN; omega
  have hih := ihl_lt b
  have hv1 := val2_lt (l := b) (k := 2)
  have u0 : byteN b 0 = (b.getD 0 0).toNat := rfl
  have u6 : byteN b 6 = (b.getD 6 0).toNat := rfl
  have u8 : byteN b 8 = (b.getD 8 0).toNat := rfl
  refine Triple.enter Tryz.func130 rfl Tryz.ntmps130 rfl (fun W => ?_)
  dsimp only [argsF, Nat.reduceAdd]
  repeat' (first
   | refine WPl.nil ?_ | refine WPq.then ?_ | refine WPq.thenR ?_ | refine WPq.thenE ?_ | refine WPq.blockN ?_ | refine WPq.blockR ?_ | refine WPq.blockE ?_ | refine WPq.blockO rfl ?_ | refine WPc.seq ?_ | refine WPc.block ?_ | refine WPc.ret ?_ | refine WPc.exit ?_ | refine WPc.skip ?_ | refine WPc.region ?_
   | (refine isCond ?_; first | refine WPc.cT ?_ | refine WPc.cF ?_ | (refine WPc.cQ (fun hc => ?_) (fun hc => ?_) <;> try exact prA))
   | (refine isCl ?_; refine WPl.cV (fsize_t v b (by omega) hl) ?_)
   | (refine isLit ?_; refine WPl.lits fun v hv => ?_)
   | (refine isCl ?_; refine WPl.cV (igood_t _ [_] [seg b 0 (ihl b)] (decide (csum (seg b 0 (ihl b)) = 0)) (by simp) rfl (by simp [seg_len]; omega) (by simp)) ?_)
   | (show WPl _ _ _ _ _ _ _ (⟨_, .binOp .mul _ _ _ _, _, _, _, _⟩ :: _) _; refine WPl.rdX (ReadR.bin rfl rfl (BinR.mulT hihl (by simp only [kmin]; omega) (by simp only [kmax]; omega))) ?_)
   | (show WPl _ _ _ _ _ _ _ (⟨_, .binOp _ _ _ _ _, _, _, _, _⟩ :: _) _; refine WPl.rdX (ReadR.bin rfl rfl BinR.and128) ?_)
   | (refine isOp ?_; first | refine WPl.rd ?_ | refine WPl.sk ?_ | refine WPl.rdB ?_)
   | (show WPl _ _ _ _ _ _ _ (⟨_, .indexAddr _ _ _, _, _, _, _⟩ :: _) _; refine WPl.rdX (ReadR.indexE rfl rfl hasA (by first | assumption | omega)) ?_)
   | (show WPl _ _ _ _ _ _ _ (⟨_, .fieldAddr _ _ _, _, _, _, _⟩ :: _) _; refine WPl.rdX (ReadR.fieldE rfl hasA (by first | assumption | omega)) ?_)
   | (show WPl _ _ _ _ _ _ _ (⟨_, .load _ _, _, _, _, _⟩ :: _) _; first | refine WPl.rdX (ReadR.loadE rfl hasA (by assumption)) ?_ | refine WPl.rdX (ReadR.loadES (by assumption) (by first | assumption | omega) rfl hasA) ?_)
   | (show WPl _ _ _ _ _ _ _ (⟨_, .slice _ _ _ _ _, _, _, _, _⟩ :: _) _; first | refine WPl.rdX (ReadR.sliceH rfl rfl hasA (by omega)) ?_ | refine WPl.rdX (ReadR.sliceL rfl rfl hasA (by omega)) ?_ | refine WPl.rdX (ReadR.sliceLH rfl rfl rfl hasA (by omega) (by omega)) ?_)
   | (refine WPl.spQ (fun hc => ?_) (fun hc => ?_) <;> try exact prA)
   | fail)
  all_goals
    refine WPq.dV (hc := ?_)
    show Value.int .i64 _ = Value.int .i64 _
    congr 1
    unfold ferr
    repeat' (first | omega | split)
theorem ferr_zero {b : List UInt8} (h : ferr b = 0) : b.length ≤ 2048 ∧ 20 ≤ b.length ∧ byteN b 0 / 16 = 4 ∧ 20 ≤ ihl b ∧ ihl b ≤ b.length ∧ val (seg b 2 2) = b.length ∧ csum (seg b 0 (ihl b)) = 0 ∧ byteN b 8 ≠ 0 ∧ byteN b 6 < 128 := by
  unfold ferr at h
  repeat' (split at h)
  all_goals first | omega | (cases h; done) | skip
abbrev fVal (b : List UInt8) : Value := .tuple #[ag (hdc (fread b)), .int .i64 (ferr b)]
theorem fread_t (v : Value) (b : List UInt8) (hl : b.length ≤ 1000000) : Triple Tryz.prog 100 #[v] [rb v b] (RVal (fVal b)) := by
  have hlt := long_t v b hl
  by_cases he : ferr b = 0
  · rw [show fVal b = .tuple #[ag (hdc (fhead b)), .int .i64 0] by unfold fVal fread; rw [if_pos he, he]]
    rw [he] at hlt
    obtain ⟨h1, h2, h3, h4, h5, h6, h7, h8, h9⟩ := ferr_zero he
    have hb0 := byteN_lt b 0
    have hihl : (4 : Int) * (((b.getD 0 0).toNat : Nat) % (15 + 1)) = ((ihl b : Nat) : Int) := by unfold ihl byteN; omega
    have hih := ihl_lt b
    have hv6 := val2_lt (l := b) (k := 6)
    have hd : (!decide (((val (seg b 6 2) : Nat) : Int) % (16383 + 1) = 0)) = decide (¬ val (seg b 6 2) % 16384 = 0) := by
      rw [Bool.eq_iff_iff]; simp; omega
    have ha1 := (ofA (seg b 12 4)).len
    have ha2 := (ofA (seg b 16 4)).len
    have hc0 := (b.getD 0 0).toNat_lt
    refine Triple.enter Tryz.func100 rfl Tryz.ntmps100 rfl (fun W => ?_)
    dsimp only [argsF, Nat.reduceAdd]
    repeat' (first
     | refine WPl.nil ?_ | refine WPq.then ?_ | refine WPq.thenR ?_ | refine WPq.thenE ?_ | refine WPq.blockN ?_ | refine WPq.blockR ?_ | refine WPq.blockE ?_ | refine WPq.blockO rfl ?_ | refine WPc.seq ?_ | refine WPc.block ?_ | refine WPc.ret ?_ | refine WPc.exit ?_ | refine WPc.skip ?_ | refine WPc.region ?_
     | (refine isReg 7 ?_; refine WPc.drA [([20], [37, 38, 39, 40, 41, 42, 43, 44, 45, 46, 47, 48, 49, 50]), ([0, 20], [34, 37, 38, 39, 40, 41, 42, 43, 44, 45, 46, 47, 48, 49, 50]), ([0, 1, 20], [34, 35, 37, 38, 39, 40, 41, 42, 43, 44, 45, 46, 47, 48, 49, 50]), ([20], [34, 35, 36, 43, 44, 45, 46, 47, 48, 49, 50]), ([3, 20], [34, 35, 36, 37, 43, 44, 45, 46, 47, 48, 49, 50]), ([3, 4, 20], [34, 35, 36, 37, 38, 43, 44, 45, 46, 47, 48, 49, 50]), ([3, 4, 5, 20], [34, 35, 36, 37, 38, 39, 43, 44, 45, 46, 47, 48, 49, 50]), ([3, 4, 5, 6, 20], [34, 35, 36, 37, 38, 39, 40, 43, 44, 45, 46, 47, 48, 49, 50]), ([3, 4, 5, 6, 7, 20], [34, 35, 36, 37, 38, 39, 40, 41, 43, 44, 45, 46, 47, 48, 49, 50]), ([20], [34, 35, 36, 37, 38, 39, 40, 41, 42, 44, 45, 46, 47, 48, 49, 50]), ([20], [34, 35, 36, 37, 38, 39, 40, 41, 42, 43, 45, 46, 47, 48, 49, 50]), ([20], [34, 35, 36, 37, 38, 39, 40, 41, 42, 43, 44, 48, 49, 50]), ([11, 20], [34, 35, 36, 37, 38, 39, 40, 41, 42, 43, 44, 45, 48, 49, 50]), ([11, 12, 20], [34, 35, 36, 37, 38, 39, 40, 41, 42, 43, 44, 45, 46, 48, 49, 50]), ([20], [34, 35, 36, 37, 38, 39, 40, 41, 42, 43, 44, 45, 46, 47]), ([14, 20], [34, 35, 36, 37, 38, 39, 40, 41, 42, 43, 44, 45, 46, 47, 48]), ([14, 15, 20], [34, 35, 36, 37, 38, 39, 40, 41, 42, 43, 44, 45, 46, 47, 48, 49]), ([0, 1, 2, 3, 4, 5, 6, 7, 8, 9, 10, 11, 12, 13, 14, 15, 16, 20], [34, 35, 36, 37, 38, 39, 40, 41, 42, 43, 44, 45, 46, 47, 48, 49, 50]), ([0, 1, 2, 3, 4, 5, 6, 7, 8, 9, 10, 11, 12, 13, 14, 15, 16, 17, 20], [34, 35, 36, 37, 38, 39, 40, 41, 42, 43, 44, 45, 46, 47, 48, 49, 50, 51]), ([0, 1, 2, 3, 4, 5, 6, 7, 8, 9, 10, 11, 12, 13, 14, 15, 16, 17, 18, 20], [34, 35, 36, 37, 38, 39, 40, 41, 42, 43, 44, 45, 46, 47, 48, 49, 50, 51])] [(20, 18), (20, 0), (20, 1), (20, 2), (20, 3), (20, 4), (20, 5), (20, 6), (20, 7), (20, 8), (20, 9), (20, 10), (20, 11), (20, 12), (20, 13), (20, 14), (20, 15), (20, 16), (20, 17)] (Γx := [bx gr 47 (hdc Hd.none)]) ?_; dsimp only [prev0, List.length_nil, List.length_cons])
     | (refine gAny ?_; first | (refine gCl ?_; refine RGl.vl (fun e hk => OpT.callN (hlt)) ?_) | (refine gCl ?_; refine RGl.vl (fun e hk => OpT.callN (get_t v b 6 2 (by omega) (by omega) (by omega) (by omega))) ?_) | (refine gCl ?_; refine RGl.vl (fun e hk => OpT.callN (Of_t (subv 1 v 12 4) (seg b 12 4))) ?_) | (refine gCl ?_; refine RGl.vl (fun e hk => OpT.callN (Of_t (subv 1 v 16 4) (seg b 16 4))) ?_) | (show RGl _ _ _ _ _ _ _ _ (⟨_, .binOp .mul _ _ _ _, _, _, _, _⟩ :: _) _ _; refine RGl.rdX (fun e hk => by (try dsimp only [bndR, ensR, oksR, fcutR, List.append_nil, List.nil_append, List.cons_append, List.append_assoc] at hk ⊢); exact ReadR.bin rfl rfl (BinR.mulT hihl (by simp only [kmin]; omega) (by simp only [kmax]; omega))) ?_) | (show RGl _ _ _ _ _ _ _ _ (⟨_, .binOp .and _ _ _ _, _, _, _, _⟩ :: _) _ _; refine RGl.rdX (fun e hk => by (try dsimp only [bndR, ensR, oksR, fcutR, List.append_nil, List.nil_append, List.cons_append, List.append_assoc] at hk ⊢); exact ReadR.bin rfl rfl (BinR.andLow (n := 14) (m := 16383) rfl rfl rfl (by omega) (by simp only [kmax]; omega) (by simp only [kmax]; omega))) ?_) | (show RGl _ _ _ _ _ _ _ _ (⟨_, .binOp .neq _ _ _ _, _, _, _, _⟩ :: _) _ _; refine RGl.rdX (fun e hk => by (try dsimp only [bndR, ensR, oksR, fcutR, List.append_nil, List.nil_append, List.cons_append, List.append_assoc] at hk ⊢); exact ReadR.binE rfl rfl BinR.neq (congrArg Value.bool hd)) ?_) | (refine gOp ?_; first | refine RGl.rdA ?_ | refine RGl.rdX (fun e hk => by (try dsimp only [bndR, ensR, oksR, fcutR, List.append_nil, List.nil_append, List.cons_append, List.append_assoc] at hk ⊢); exact readB) ?_) | (refine gSt ?_; refine RGl.stA ?_) | (refine RGl.fin (fun e hk => ?_); (try dsimp only [bndA, ensAR, oksA, List.append_nil, List.nil_append, List.cons_append, List.append_assoc] at hk ⊢); (repeat (obtain ⟨hk1, hk⟩ := hk))) | fail)
     | (refine isCond ?_; first | refine WPc.cT ?_ | refine WPc.cF ?_ | (refine WPc.cQ (fun hc => ?_) (fun hc => ?_) <;> try exact prA))
     | (refine isD 2 ?_; first | (refine isAl ?_; refine WPl.nw fun gr => ?_) | (refine isBx ?_; refine WPl.nw fun gr => ?_))
     | (refine isCl ?_; refine WPl.cV (hlt) ?_)
     | (refine isCl ?_; refine WPl.cV (get_t v b 6 2 (by omega) (by omega) (by omega) (by omega)) ?_)
     | (refine isCl ?_; refine WPl.cV (Of_t (subv 1 v 12 4) (seg b 12 4)) ?_)
     | (refine isCl ?_; refine WPl.cV (Of_t (subv 1 v 16 4) (seg b 16 4)) ?_)
     | (show WPl _ _ _ _ _ _ _ (⟨_, .binOp .mul _ _ _ _, _, _, _, _⟩ :: _) _; refine WPl.rdX (ReadR.bin rfl rfl (BinR.mulT hihl (by simp only [kmin]; omega) (by simp only [kmax]; omega))) ?_)
     | (show WPl _ _ _ _ _ _ _ (⟨_, .binOp .and _ _ _ _, _, _, _, _⟩ :: _) _; refine WPl.rdX (ReadR.bin rfl rfl (BinR.andLow (n := 14) (m := 16383) rfl rfl rfl (by omega) (by simp only [kmax]; omega) (by simp only [kmax]; omega))) ?_)
     | (show WPl _ _ _ _ _ _ _ (⟨_, .binOp .neq _ _ _ _, _, _, _, _⟩ :: _) _; refine WPl.rdX (ReadR.binE rfl rfl BinR.neq (congrArg Value.bool hd)) ?_)
     | (refine isOp ?_; first | refine WPl.rd ?_ | refine WPl.sk ?_ | refine WPl.rdB ?_)
     | (refine isAl ?_; refine WPl.nw fun g => ?_)
     | (refine isSt ?_; first | refine WPl.st1 ?_ | refine WPl.stA ?_ | refine WPl.stEB ?_ | refine WPl.stRB ?_)
     | (show WPl _ _ _ _ _ _ _ (⟨_, .indexAddr _ _ _, _, _, _, _⟩ :: _) _; refine WPl.rdX (ReadR.indexE rfl rfl hasA (by first | assumption | omega)) ?_)
     | (show WPl _ _ _ _ _ _ _ (⟨_, .fieldAddr _ _ _, _, _, _, _⟩ :: _) _; refine WPl.rdX (ReadR.fieldE rfl hasA (by first | assumption | omega)) ?_)
     | (show WPl _ _ _ _ _ _ _ (⟨_, .load _ _, _, _, _, _⟩ :: _) _; first | refine WPl.rdX (ReadR.loadE rfl hasA (by assumption)) ?_ | refine WPl.rdX (ReadR.loadES (by assumption) (by first | assumption | omega) rfl hasA) ?_)
     | (show WPl _ _ _ _ _ _ _ (⟨_, .slice _ _ _ _ _, _, _, _, _⟩ :: _) _; first | refine WPl.rdX (ReadR.sliceH rfl rfl hasA (by omega)) ?_ | refine WPl.rdX (ReadR.sliceL rfl rfl hasA (by omega)) ?_ | refine WPl.rdX (ReadR.sliceLH rfl rfl rfl hasA (by omega) (by omega)) ?_)
     | (refine WPl.spQ (fun hc => ?_) (fun hc => ?_) <;> try exact prA)
     | fail)
    all_goals try (first | exact WPq.dTp | exact WPq.dTs | exact WPq.dV | exact WPq.dR | exact WPq.dR2 | exact WPq.dH | exact WPq.dBH | exact WPq.dT)
  · rw [show fVal b = .tuple #[ag (hdc Hd.none), .int .i64 (ferr b)] by unfold fVal fread; rw [if_neg he]]
    refine Triple.enter Tryz.func100 rfl Tryz.ntmps100 rfl (fun W => ?_)
    dsimp only [argsF, Nat.reduceAdd]
    repeat' (first
     | refine WPl.nil ?_ | refine WPq.then ?_ | refine WPq.thenR ?_ | refine WPq.thenE ?_ | refine WPq.blockN ?_ | refine WPq.blockR ?_ | refine WPq.blockE ?_ | refine WPq.blockO rfl ?_ | refine WPc.seq ?_ | refine WPc.block ?_ | refine WPc.ret ?_ | refine WPc.exit ?_ | refine WPc.skip ?_ | refine WPc.region ?_
     | (refine isReg 7 ?_; refine WPc.drA [([], [37, 38, 39, 40, 41, 42, 43, 44, 45, 46, 47, 48, 49, 50]), ([0], [34, 37, 38, 39, 40, 41, 42, 43, 44, 45, 46, 47, 48, 49, 50]), ([0, 1], [34, 35, 37, 38, 39, 40, 41, 42, 43, 44, 45, 46, 47, 48, 49, 50]), ([], [34, 35, 36, 43, 44, 45, 46, 47, 48, 49, 50]), ([3], [34, 35, 36, 37, 43, 44, 45, 46, 47, 48, 49, 50]), ([3, 4], [34, 35, 36, 37, 38, 43, 44, 45, 46, 47, 48, 49, 50]), ([3, 4, 5], [34, 35, 36, 37, 38, 39, 43, 44, 45, 46, 47, 48, 49, 50]), ([3, 4, 5, 6], [34, 35, 36, 37, 38, 39, 40, 43, 44, 45, 46, 47, 48, 49, 50]), ([3, 4, 5, 6, 7], [34, 35, 36, 37, 38, 39, 40, 41, 43, 44, 45, 46, 47, 48, 49, 50]), ([], [34, 35, 36, 37, 38, 39, 40, 41, 42, 44, 45, 46, 47, 48, 49, 50]), ([], [34, 35, 36, 37, 38, 39, 40, 41, 42, 43, 45, 46, 47, 48, 49, 50]), ([], [34, 35, 36, 37, 38, 39, 40, 41, 42, 43, 44, 48, 49, 50]), ([11], [34, 35, 36, 37, 38, 39, 40, 41, 42, 43, 44, 45, 48, 49, 50]), ([11, 12], [34, 35, 36, 37, 38, 39, 40, 41, 42, 43, 44, 45, 46, 48, 49, 50]), ([], [34, 35, 36, 37, 38, 39, 40, 41, 42, 43, 44, 45, 46, 47]), ([14], [34, 35, 36, 37, 38, 39, 40, 41, 42, 43, 44, 45, 46, 47, 48]), ([14, 15], [34, 35, 36, 37, 38, 39, 40, 41, 42, 43, 44, 45, 46, 47, 48, 49]), ([0, 1, 2, 3, 4, 5, 6, 7, 8, 9, 10, 11, 12, 13, 14, 15, 16], [34, 35, 36, 37, 38, 39, 40, 41, 42, 43, 44, 45, 46, 47, 48, 49, 50]), ([0, 1, 2, 3, 4, 5, 6, 7, 8, 9, 10, 11, 12, 13, 14, 15, 16, 17], [34, 35, 36, 37, 38, 39, 40, 41, 42, 43, 44, 45, 46, 47, 48, 49, 50, 51]), ([0, 1, 2, 3, 4, 5, 6, 7, 8, 9, 10, 11, 12, 13, 14, 15, 16, 17, 18], [34, 35, 36, 37, 38, 39, 40, 41, 42, 43, 44, 45, 46, 47, 48, 49, 50, 51])] [] (Γx := []) ?_; dsimp only [prev0, List.length_nil, List.length_cons])
     | (refine gAny ?_; first | (refine gCl ?_; refine RGl.vl (fun e hk => OpT.callN (hlt)) ?_) | (refine gOp ?_; first | refine RGl.rdA ?_ | refine RGl.rdX (fun e hk => by (try dsimp only [bndR, ensR, oksR, fcutR, List.append_nil, List.nil_append, List.cons_append, List.append_assoc] at hk ⊢); exact readB) ?_) | (refine gSt ?_; refine RGl.stA ?_) | (refine RGl.fin (fun e hk => ?_); (try dsimp only [bndA, ensAR, oksA, List.append_nil, List.nil_append, List.cons_append, List.append_assoc] at hk ⊢); (repeat (obtain ⟨hk1, hk⟩ := hk))) | fail)
     | (refine isCond ?_; first | refine WPc.cT ?_ | refine WPc.cF ?_ | (refine WPc.cQ (fun hc => ?_) (fun hc => ?_) <;> try exact prA))
     | (refine isCl ?_; refine WPl.cV (hlt) ?_)
     | (refine isOp ?_; first | refine WPl.rd ?_ | refine WPl.sk ?_ | refine WPl.rdB ?_)
     | (refine isAl ?_; refine WPl.nw fun g => ?_)
     | (refine isSt ?_; first | refine WPl.st1 ?_ | refine WPl.stA ?_ | refine WPl.stEB ?_ | refine WPl.stRB ?_)
     | (show WPl _ _ _ _ _ _ _ (⟨_, .indexAddr _ _ _, _, _, _, _⟩ :: _) _; refine WPl.rdX (ReadR.indexE rfl rfl hasA (by first | assumption | omega)) ?_)
     | (show WPl _ _ _ _ _ _ _ (⟨_, .fieldAddr _ _ _, _, _, _, _⟩ :: _) _; refine WPl.rdX (ReadR.fieldE rfl hasA (by first | assumption | omega)) ?_)
     | (show WPl _ _ _ _ _ _ _ (⟨_, .load _ _, _, _, _, _⟩ :: _) _; first | refine WPl.rdX (ReadR.loadE rfl hasA (by assumption)) ?_ | refine WPl.rdX (ReadR.loadES (by assumption) (by first | assumption | omega) rfl hasA) ?_)
     | (show WPl _ _ _ _ _ _ _ (⟨_, .slice _ _ _ _ _, _, _, _, _⟩ :: _) _; first | refine WPl.rdX (ReadR.sliceH rfl rfl hasA (by omega)) ?_ | refine WPl.rdX (ReadR.sliceL rfl rfl hasA (by omega)) ?_ | refine WPl.rdX (ReadR.sliceLH rfl rfl rfl hasA (by omega) (by omega)) ?_)
     | (refine WPl.spQ (fun hc => ?_) (fun hc => ?_) <;> try exact prA)
     | fail)
    all_goals try (first | exact WPq.dTp | exact WPq.dTs | exact WPq.dV | exact WPq.dR | exact WPq.dR2 | exact WPq.dH | exact WPq.dBH | exact WPq.dT)
end Go.Proofs.YtpilenbdimhegaaGreatDoor
/- Reference of layer 13 (ipfour): reading heads: contracts. -/
namespace Go.Proofs.YtpilenbdimhegaaGreatDoor
open Go.RowKit
set_option linter.unusedSimpArgs false
set_option linter.unusedVariables false
set_option maxRecDepth 20000
set_option maxHeartbeats 4000000
attribute [local irreducible] WPc WPl WPq ReadR OpT BinR HasS bx rdN rowN Take Takes Prov Triple ResF BuildP Done ag Int.decLt Int.decLe Int.instDecidableEq

theorem r13of_t (v : Value) (l : List UInt8) (h : l.length = 4) : Triple Tryz.prog 73 #[v] [rb v l] (RVal (ag (adc (ofA l)))) := by
  rw [show ofA l = Adr.of4 l h by simp [ofA, h]]
  refine Triple.enter Tryz.func73 rfl Tryz.ntmps73 rfl (fun W => ?_)
  dsimp only [argsF, Nat.reduceAdd]
  repeat' (first
   | refine WPl.nil ?_ | refine WPq.then ?_ | refine WPc.seq ?_ | refine WPc.block ?_ | refine WPc.region ?_
   | (refine isD 3 ?_; first | (refine isAl ?_; refine WPl.nw fun g => ?_) | (refine isBx ?_; refine WPl.nw fun g => ?_))
   | (refine isD 2 ?_; first | (refine isAl ?_; refine WPl.nw fun gr => ?_) | (refine isBx ?_; refine WPl.nw fun gr => ?_))
   | (refine isOp ?_; first | refine WPl.rd ?_ | refine WPl.sk ?_ | refine WPl.rdB ?_)
   | (refine isSt ?_; first | refine WPl.st1 ?_ | refine WPl.stA ?_ | refine WPl.stEB ?_ | refine WPl.stRB ?_)
   | fail)
  first | refine WPc.loop (σ := Nat × List UInt8) (fun p => p.1 ≤ 4 ∧ p.2 = over (List.replicate 16 0) 12 (seg l 0 p.1)) (fun p => [bx g 35 [(1, [.bool false]), (16, u8s p.2)], bx gr 35 [(1, [.bool false]), (16, u8s (List.replicate 16 0))], rb v l]) (fun p => [(0, v), (2, .pointer (some ⟨gr, 0, none⟩)), (3, .pointer (some ⟨g, 0, none⟩)), (4, .int .i64 p.1)]) (fun p => 4 - p.1) ((0, List.replicate 16 0)) ?_ takesA frsA (fun st km hx hk => ?_)
  · exact ⟨by omega, by simp [seg, over]⟩
  obtain ⟨i, c⟩ := st
  dsimp only at hx hk ⊢
  obtain ⟨hi, hc0⟩ := hx
  have hcl : c.length = 16 := by rw [hc0, over_length] <;> simp [seg_len]; omega
  by_cases hlt : i < 4
  · skip
    repeat' (first
     | refine WPl.nil ?_ | refine WPq.then ?_ | refine WPq.blockN ?_ | refine WPc.seq ?_ | refine WPc.block ?_ | refine WPc.skip ?_ | refine WPc.region ?_
     | (refine isCond ?_; first | refine WPc.cT ?_ | refine WPc.cF ?_ | (refine WPc.cQ (fun hc => ?_) (fun hc => ?_) <;> try exact prA))
     | (refine isOp ?_; first | refine WPl.rd ?_ | refine WPl.sk ?_ | refine WPl.rdB ?_)
     | (refine isSt ?_; first | refine WPl.st1 ?_ | refine WPl.stA ?_ | refine WPl.stEB ?_ | refine WPl.stRB ?_)
     | fail)
    exact WPq.rnd (i + 1, c.set (12 + i) (l.getD i 0)) ⟨by show i + 1 ≤ 4; omega, by
      show _ = over _ _ (seg l 0 (i + 1))
      have e := seg_snoc (l := l) (k := 0) (n := i) (by omega)
      have hs : (seg l 0 i).length = i := seg_length (by omega)
      rw [e, over_snoc _ _ _ _ (by simp; omega), ← hc0, hs, Nat.zero_add]⟩ (by show 4 - (i + 1) < km; omega)
  · obtain rfl : i = 4 := by omega
    rw [seg, List.drop_zero, List.take_of_length_le (by omega)] at hc0
    subst hc0
    repeat' (first
     | refine WPl.nil ?_ | refine WPq.then ?_ | refine WPq.thenE ?_ | refine WPq.blockE ?_ | refine WPc.seq ?_ | refine WPc.ret ?_ | refine WPc.exit ?_ | refine WPc.region ?_
     | (refine isCond ?_; first | refine WPc.cT ?_ | refine WPc.cF ?_ | (refine WPc.cQ (fun hc => ?_) (fun hc => ?_) <;> try exact prA))
     | (refine isOp ?_; first | refine WPl.rd ?_ | refine WPl.sk ?_ | refine WPl.rdB ?_)
     | (refine isSt ?_; first | refine WPl.st1 ?_ | refine WPl.stA ?_ | refine WPl.stEB ?_ | refine WPl.stRB ?_)
     | fail)
    all_goals try (first | exact WPq.dTp | exact WPq.dTs | exact WPq.dV | exact WPq.dR | exact WPq.dR2 | exact WPq.dH | exact WPq.dBH | exact WPq.dT)
theorem ferr_ne {b : List UInt8} (h : ¬ ferr b = 0) : 2048 < b.length ∨ b.length < 20 ∨ byteN b 0 / 16 ≠ 4 ∨ ihl b < 20 ∨ b.length < ihl b ∨ val (seg b 2 2) ≠ b.length ∨ csum (seg b 0 (ihl b)) ≠ 0 ∨ byteN b 8 = 0 ∨ 128 ≤ byteN b 6 := by
  apply Classical.byContradiction
  intro hn
  apply h
  unfold ferr
  repeat' (first | omega | split)
theorem rf_t (v : Value) (b : List UInt8) (hl : b.length ≤ 1000000) : Triple Tryz.prog 40 #[v] [rb v b] (RVal (fVal b)) := by
  have hb0 := byteN_lt b 0
  have hb6 := byteN_lt b 6
  have hb8 := byteN_lt b 8
  have hihl : (4 : Int) * (((b.getD 0 0).toNat : Nat) % 16) = ((ihl b : Nat) : Int) := by unfold ihl byteN; omega
  have hih := ihl_lt b
  have hv1 := val2_lt (l := b) (k := 2)
  have u0 : byteN b 0 = (b.getD 0 0).toNat := rfl
  have u6 : byteN b 6 = (b.getD 6 0).toNat := rfl
  have u8 : byteN b 8 = (b.getD 8 0).toNat := rfl
  by_cases he : ferr b = 0
  · rw [show fVal b = .tuple #[ag (hdc (fhead b)), .int .i64 0] by unfold fVal fread; rw [if_pos he, he]]
    obtain ⟨h1, h2, h3, h4, h5, h6, h7, h8, h9⟩ := ferr_zero he
    have hv6 := val_seg2 (b := b) (i := 6) (by omega)
    have c6 := (b.getD 6 0).toNat_lt
    have c7 := (b.getD 7 0).toNat_lt
    have hd : (!decide (((((b.getD 6 0).toNat : Nat) : Int) * 256 + (((b.getD 7 0).toNat : Nat) : Int)) % 16384 = 0)) = decide (¬ val (seg b 6 2) % 16384 = 0) := by
      rw [hv6, Bool.eq_iff_iff]; unfold byteN; simp; omega
    have ha1 := (ofA (seg b 12 4)).len
    have ha2 := (ofA (seg b 16 4)).len
    refine Triple.enter Tryz.func40 rfl Tryz.ntmps40 rfl (fun W => ?_)
    dsimp only [argsF, Nat.reduceAdd]
    repeat' (first
     | refine WPl.nil ?_ | refine WPq.then ?_ | refine WPc.seq ?_ | refine WPc.ret ?_ | refine WPc.skip ?_ | refine WPc.region ?_
     | (refine isReg 8 ?_; refine WPc.drA [([], [28, 29, 30]), ([0], [22, 28, 29, 30]), ([0, 1], [22, 23, 28, 29, 30]), ([0, 1, 2], [22, 23, 24, 28, 29, 30]), ([0, 1, 2, 3], [22, 23, 24, 25, 28, 29, 30]), ([0, 1, 2, 3, 4], [22, 23, 24, 25, 26, 28, 29, 30]), ([], [22, 23, 24, 25, 26, 27]), ([6], [22, 23, 24, 25, 26, 27, 28]), ([6, 7], [5, 22, 23, 24, 25, 26, 27, 28, 29]), ([0, 1, 2, 3, 4, 5, 6, 7], [22, 23, 24, 25, 26, 27, 28, 29, 30]), ([0, 1, 2, 3, 4, 5, 6, 7, 8, 9], [5, 22, 23, 24, 25, 26, 27, 28, 29, 30])] [] (Γx := []) ?_; dsimp only [prev0, List.length_nil, List.length_cons])
     | (refine isReg 23 ?_; refine WPc.drA [([28], [73, 74, 75, 76, 77, 78, 79, 80, 81, 82, 83, 84, 85, 86, 87, 88, 89, 90, 91, 92, 93, 94]), ([0, 28], [70, 73, 74, 75, 76, 77, 78, 79, 80, 81, 82, 83, 84, 85, 86, 87, 88, 89, 90, 91, 92, 93, 94]), ([0, 1, 28], [70, 71, 73, 74, 75, 76, 77, 78, 79, 80, 81, 82, 83, 84, 85, 86, 87, 88, 89, 90, 91, 92, 93, 94]), ([28], [70, 71, 72, 74, 75, 76, 77, 78, 79, 80, 81, 82, 83, 84, 85, 86, 87, 88, 89, 90, 91, 92, 93, 94]), ([28], [70, 71, 72, 73, 77, 78, 80, 81, 82, 83, 84, 85, 86, 87, 88, 89, 90, 91, 92, 93, 94]), ([4, 28], [70, 71, 72, 73, 74, 77, 78, 80, 81, 82, 83, 84, 85, 86, 87, 88, 89, 90, 91, 92, 93, 94]), ([4, 5, 28], [70, 71, 72, 73, 74, 75, 77, 78, 80, 81, 82, 83, 84, 85, 86, 87, 88, 89, 90, 91, 92, 93, 94]), ([28], [70, 71, 72, 73, 74, 75, 76, 80, 81, 82, 83, 84, 85, 86, 87, 88, 89, 90, 91, 92, 93, 94]), ([7, 28], [70, 71, 72, 73, 74, 75, 76, 77, 80, 81, 82, 83, 84, 85, 86, 87, 88, 89, 90, 91, 92, 93, 94]), ([4, 5, 6, 7, 8, 28], [70, 71, 72, 73, 74, 75, 76, 77, 78, 80, 81, 82, 83, 84, 85, 86, 87, 88, 89, 90, 91, 92, 93, 94]), ([28], [70, 71, 72, 73, 74, 75, 76, 77, 78, 79, 85, 86, 87, 88, 92, 93, 94]), ([10, 28], [70, 71, 72, 73, 74, 75, 76, 77, 78, 79, 80, 85, 86, 87, 88, 92, 93, 94]), ([10, 11, 28], [70, 71, 72, 73, 74, 75, 76, 77, 78, 79, 80, 81, 85, 86, 87, 88, 92, 93, 94]), ([10, 11, 12, 28], [70, 71, 72, 73, 74, 75, 76, 77, 78, 79, 80, 81, 82, 85, 86, 87, 88, 92, 93, 94]), ([10, 11, 12, 13, 28], [70, 71, 72, 73, 74, 75, 76, 77, 78, 79, 80, 81, 82, 83, 85, 86, 87, 88, 92, 93, 94]), ([28], [70, 71, 72, 73, 74, 75, 76, 77, 78, 79, 80, 81, 82, 83, 84, 92, 93, 94]), ([15, 28], [70, 71, 72, 73, 74, 75, 76, 77, 78, 79, 80, 81, 82, 83, 84, 85, 92, 93, 94]), ([15, 16, 28], [70, 71, 72, 73, 74, 75, 76, 77, 78, 79, 80, 81, 82, 83, 84, 85, 86, 92, 93, 94]), ([15, 16, 17, 28], [70, 71, 72, 73, 74, 75, 76, 77, 78, 79, 80, 81, 82, 83, 84, 85, 86, 87, 92, 93, 94]), ([10, 11, 12, 13, 14, 15, 16, 17, 18, 28], [70, 71, 72, 73, 74, 75, 76, 77, 78, 79, 80, 81, 82, 83, 84, 85, 86, 87, 88, 92, 93, 94]), ([10, 11, 12, 13, 14, 15, 16, 17, 18, 19, 28], [70, 71, 72, 73, 74, 75, 76, 77, 78, 79, 80, 81, 82, 83, 84, 85, 86, 87, 88, 89, 92, 93, 94]), ([10, 11, 12, 13, 14, 15, 16, 17, 18, 19, 20, 28], [70, 71, 72, 73, 74, 75, 76, 77, 78, 79, 80, 81, 82, 83, 84, 85, 86, 87, 88, 89, 90, 92, 93, 94]), ([28], [70, 71, 72, 73, 74, 75, 76, 77, 78, 79, 80, 81, 82, 83, 84, 85, 86, 87, 88, 89, 90, 91]), ([22, 28], [70, 71, 72, 73, 74, 75, 76, 77, 78, 79, 80, 81, 82, 83, 84, 85, 86, 87, 88, 89, 90, 91, 92]), ([22, 23, 28], [70, 71, 72, 73, 74, 75, 76, 77, 78, 79, 80, 81, 82, 83, 84, 85, 86, 87, 88, 89, 90, 91, 92, 93]), ([0, 1, 2, 3, 4, 5, 6, 7, 8, 9, 10, 11, 12, 13, 14, 15, 16, 17, 18, 19, 20, 21, 22, 23, 24, 28], [70, 71, 72, 73, 74, 75, 76, 77, 78, 79, 80, 81, 82, 83, 84, 85, 86, 87, 88, 89, 90, 91, 92, 93, 94]), ([0, 1, 2, 3, 4, 5, 6, 7, 8, 9, 10, 11, 12, 13, 14, 15, 16, 17, 18, 19, 20, 21, 22, 23, 24, 25, 28], [70, 71, 72, 73, 74, 75, 76, 77, 78, 79, 80, 81, 82, 83, 84, 85, 86, 87, 88, 89, 90, 91, 92, 93, 94, 95]), ([0, 1, 2, 3, 4, 5, 6, 7, 8, 9, 10, 11, 12, 13, 14, 15, 16, 17, 18, 19, 20, 21, 22, 23, 24, 25, 26, 28], [70, 71, 72, 73, 74, 75, 76, 77, 78, 79, 80, 81, 82, 83, 84, 85, 86, 87, 88, 89, 90, 91, 92, 93, 94, 95])] [(28, 26), (28, 0), (28, 1), (28, 2), (28, 3), (28, 4), (28, 5), (28, 6), (28, 7), (28, 8), (28, 9), (28, 10), (28, 11), (28, 12), (28, 13), (28, 14), (28, 15), (28, 16), (28, 17), (28, 18), (28, 19), (28, 20), (28, 21), (28, 22), (28, 23), (28, 24), (28, 25)] (Γx := [bx gr 47 (hdc Hd.none)]) ?_; dsimp only [prev0, List.length_nil, List.length_cons])
     | (refine gAny ?_; first | (refine gCl ?_; refine RGl.vl (fun e hk => OpT.callN (rget_t v b 2 2 (by omega) (by omega) (by omega))) ?_) | (refine gCl ?_; refine RGl.vl (fun e hk => OpT.callN (r13of_t (subv 1 v 12 4) (seg b 12 4) (seg_length (by omega)))) ?_) | (refine gCl ?_; refine RGl.vl (fun e hk => OpT.callN (r13of_t (subv 1 v 16 4) (seg b 16 4) (seg_length (by omega)))) ?_) | (show RGl _ _ _ _ _ _ _ _ (⟨_, .binOp .mul _ _ _ _, _, _, _, _⟩ :: _) _ _; refine RGl.rdX (fun e hk => by (try dsimp only [bndR, ensR, oksR, fcutR, List.append_nil, List.nil_append, List.cons_append, List.append_assoc] at hk ⊢); exact ReadR.bin rfl rfl (BinR.mulT hihl (by simp only [kmin]; omega) (by simp only [kmax]; omega))) ?_) | (show RGl _ _ _ _ _ _ _ _ (⟨_, .binOp .neq _ _ _ _, _, _, _, _⟩ :: _) _ _; refine RGl.rdX (fun e hk => by (try dsimp only [bndR, ensR, oksR, fcutR, List.append_nil, List.nil_append, List.cons_append, List.append_assoc] at hk ⊢); exact ReadR.binE rfl rfl BinR.neq (congrArg Value.bool hd)) ?_) | (refine gOp ?_; first | refine RGl.rdA ?_ | refine RGl.rdX (fun e hk => by (try dsimp only [bndR, ensR, oksR, fcutR, List.append_nil, List.nil_append, List.cons_append, List.append_assoc] at hk ⊢); exact readB) ?_) | (refine gSt ?_; refine RGl.stA ?_) | (refine RGl.fin (fun e hk => ?_); (try dsimp only [bndA, ensAR, oksA, List.append_nil, List.nil_append, List.cons_append, List.append_assoc] at hk ⊢); (repeat (obtain ⟨hk1, hk⟩ := hk))) | fail)
     | (refine isCond ?_; first | refine WPc.cT ?_ | refine WPc.cF ?_ | (refine WPc.cQ (fun hc => ?_) (fun hc => ?_) <;> try exact prA))
     | (refine isD 2 ?_; first | (refine isAl ?_; refine WPl.nw fun gr => ?_) | (refine isBx ?_; refine WPl.nw fun gr => ?_))
     | (refine isCl ?_; refine WPl.cV (rsum_t (subv 1 v 0 (ihl b)) (seg b 0 (ihl b)) (by simp [seg_len]; omega)) ?_)
     | (refine isOp ?_; first | refine WPl.rd ?_ | refine WPl.sk ?_ | refine WPl.rdB ?_)
     | (refine isAl ?_; refine WPl.nw fun g => ?_)
     | (refine isSt ?_; first | refine WPl.st1 ?_ | refine WPl.stA ?_ | refine WPl.stEB ?_ | refine WPl.stRB ?_)
     | (refine WPl.spQ (fun hc => ?_) (fun hc => ?_) <;> try exact prA)
     | fail)
    all_goals try (first | exact WPq.dTp | exact WPq.dTs | exact WPq.dV | exact WPq.dR | exact WPq.dR2 | exact WPq.dH | exact WPq.dBH | exact WPq.dT)
  · rw [show fVal b = .tuple #[ag (hdc Hd.none), .int .i64 (ferr b)] by unfold fVal fread; rw [if_neg he]]
    have hne := ferr_ne he
    refine Triple.enter Tryz.func40 rfl Tryz.ntmps40 rfl (fun W => ?_)
    dsimp only [argsF, Nat.reduceAdd]
    repeat' (first
     | refine WPl.nil ?_ | refine WPq.then ?_ | refine WPq.thenR ?_ | refine WPc.seq ?_ | refine WPc.ret ?_ | refine WPc.skip ?_ | refine WPc.region ?_
     | (refine isReg 8 ?_; refine WPc.drA [([], [28, 29, 30]), ([0], [22, 28, 29, 30]), ([0, 1], [22, 23, 28, 29, 30]), ([0, 1, 2], [22, 23, 24, 28, 29, 30]), ([0, 1, 2, 3], [22, 23, 24, 25, 28, 29, 30]), ([0, 1, 2, 3, 4], [22, 23, 24, 25, 26, 28, 29, 30]), ([], [22, 23, 24, 25, 26, 27]), ([6], [22, 23, 24, 25, 26, 27, 28]), ([6, 7], [5, 22, 23, 24, 25, 26, 27, 28, 29]), ([0, 1, 2, 3, 4, 5, 6, 7], [22, 23, 24, 25, 26, 27, 28, 29, 30]), ([0, 1, 2, 3, 4, 5, 6, 7, 8, 9], [5, 22, 23, 24, 25, 26, 27, 28, 29, 30])] [] (Γx := []) ?_; dsimp only [prev0, List.length_nil, List.length_cons])
     | (refine gAny ?_; first | (refine gCl ?_; refine RGl.vl (fun e hk => OpT.callN (rget_t v b 2 2 (by omega) (by omega) (by omega))) ?_) | (show RGl _ _ _ _ _ _ _ _ (⟨_, .binOp .mul _ _ _ _, _, _, _, _⟩ :: _) _ _; refine RGl.rdX (fun e hk => by (try dsimp only [bndR, ensR, oksR, fcutR, List.append_nil, List.nil_append, List.cons_append, List.append_assoc] at hk ⊢); exact ReadR.bin rfl rfl (BinR.mulT hihl (by simp only [kmin]; omega) (by simp only [kmax]; omega))) ?_) | (refine gOp ?_; first | refine RGl.rdA ?_ | refine RGl.rdX (fun e hk => by (try dsimp only [bndR, ensR, oksR, fcutR, List.append_nil, List.nil_append, List.cons_append, List.append_assoc] at hk ⊢); exact readB) ?_) | (refine RGl.fin (fun e hk => ?_); (try dsimp only [bndA, ensAR, oksA, List.append_nil, List.nil_append, List.cons_append, List.append_assoc] at hk ⊢); (repeat (obtain ⟨hk1, hk⟩ := hk))) | fail)
     | (refine isCond ?_; first | refine WPc.cT ?_ | refine WPc.cF ?_ | (refine WPc.cQ (fun hc => ?_) (fun hc => ?_) <;> try exact prA))
     | (refine isD 2 ?_; first | (refine isAl ?_; refine WPl.nw fun gr => ?_) | (refine isBx ?_; refine WPl.nw fun gr => ?_))
     | (refine isCl ?_; refine WPl.cV (rsum_t (subv 1 v 0 (ihl b)) (seg b 0 (ihl b)) (by simp [seg_len]; omega)) ?_)
     | (refine isOp ?_; first | refine WPl.rd ?_ | refine WPl.sk ?_ | refine WPl.rdB ?_)
     | (refine isAl ?_; refine WPl.nw fun g => ?_)
     | (refine isSt ?_; first | refine WPl.st1 ?_ | refine WPl.stA ?_ | refine WPl.stEB ?_ | refine WPl.stRB ?_)
     | (refine WPl.spQ (fun hc => ?_) (fun hc => ?_) <;> try exact prA)
     | fail)
    all_goals
      refine WPq.dV (hc := ?_)
      show Value.tuple #[_, Value.int .i64 _] = Value.tuple #[_, Value.int .i64 _]
      congr 5
      unfold ferr
      repeat' (first | omega | split)
end Go.Proofs.YtpilenbdimhegaaGreatDoor
/- Layer 13 (ipfour): writing heads: contracts. -/
namespace Go.Proofs.YtpilenbdimhegaaGreatDoor
open Go.RowKit
set_option linter.unusedSimpArgs false
set_option linter.unusedVariables false
set_option maxRecDepth 20000
set_option maxHeartbeats 4000000
attribute [local irreducible] WPc WPl WPq ReadR OpT BinR HasS bx rdN rowN Take Takes Prov Triple ResF BuildP Done ag Int.decLt Int.decLe Int.instDecidableEq

def fwBad (h : Hd) : Bool := h.six || (h.part || (decide (((h.hops.toNat : Nat) : Int) = 0) || (h.src.six || (h.dst.six || (!h.src.good || !h.dst.good)))))
def fwerr (h : Hd) (n : Nat) : Int := if fwBad h then 1 else if 2028 < n then 10 else 0
def fpre (h : Hd) (n : Nat) : List UInt8 := [nbs [69, 0] ++ be (20 + n) 2 ++ nbs [0, 0, 0, 0, (h.hops.toNat : Nat), (h.proto.toNat : Nat), 0, 0], h.src.bytes, h.dst.bytes].flatten
def fpkt (h : Hd) (d : List UInt8) : List UInt8 := [over (fpre h d.length) 10 (be (csum (fpre h d.length)) 2), d].flatten
def fwL (h : Hd) (d : List UInt8) : List UInt8 := if fwerr h d.length = 0 then fpkt h d else []
abbrev RW (l : List UInt8) (e : Int) : Value → List Asn → Prop := RRow2 5 1 l.length (u8s l) (.int .i64 e)
theorem fwBad_no {h : Hd} (hb : fwBad h = false) : h.six = false ∧ h.part = false ∧ ¬ ((h.hops.toNat : Nat) : Int) = 0 ∧ h.src.six = false ∧ h.dst.six = false ∧ h.src.good = true ∧ h.dst.good = true := by
  simpa [fwBad] using hb
theorem fpre_len {h : Hd} {n : Nat} (h1 : h.src.six = false) (h2 : h.dst.six = false) : (fpre h n).length = 20 := by
  have a1 := h.src.bytes_len
  have a2 := h.dst.bytes_len
  rw [h1, if_neg (by decide)] at a1
  rw [h2, if_neg (by decide)] at a2
  simp [fpre, nbs, be_length, a1, a2]
theorem fpre_eq (h : Hd) (n : Nat) : [nbs [69, 0] ++ be (20 + n) 2 ++ nbs [0, 0, 0, 0, (h.hops.toNat : Nat), (h.proto.toNat : Nat), 0, 0], h.src.bytes, h.dst.bytes].flatten = fpre h n := rfl
theorem fpkt_eq (h : Hd) (d : List UInt8) : [over (fpre h d.length) 10 (be (csum (fpre h d.length)) 2), d].flatten = fpkt h d := rfl
attribute [local irreducible] fpre fpkt csum over be
theorem fwrite_t (h : Hd) (v : Value) (d : List UInt8) (hd : d.length ≤ 100000) : Triple Tryz.prog 139 #[ag (hdc h), v] [rb v d] (RW (fwL h d) (fwerr h d.length)) := by
  have l1 := h.src.len
  have l2 := h.dst.len
  have g1 := Good_t h.src
  have g2 := Good_t h.dst
  cases hbad : fwBad h with
  | true =>
    have he : fwerr h d.length = 1 := by simp [fwerr, hbad]
    rw [show fwL h d = [] by simp [fwL, he], he]
    refine Triple.enter Tryz.func139 rfl Tryz.ntmps139 rfl (fun W => ?_)
    dsimp only [argsF, Nat.reduceAdd]
    refine WPc.nilRow 5 ?_
    repeat' (first
     | refine WPl.nil ?_ | refine WPq.then ?_ | refine WPq.thenR ?_ | refine WPq.blockR ?_ | refine WPc.seq ?_ | refine WPc.block ?_ | refine WPc.ret ?_ | refine WPc.region ?_
     | (refine isCond ?_; first | refine WPc.cT ?_ | refine WPc.cF ?_ | (refine WPc.cQ (fun hc => ?_) (fun hc => ?_) <;> try first | exact prA | (exfalso; first | (simp only [fwBad, *, decide_false, Bool.or_self, Bool.false_or, Bool.not_true, Bool.false_eq_true] at hbad; done))))
     | (refine isC 32 ?_; refine WPl.cV (g1) ?_)
     | (refine isC 38 ?_; refine WPl.cV (g2) ?_)
     | (refine isOp ?_; first | refine WPl.rd ?_ | refine WPl.sk ?_ | refine WPl.rdB ?_)
     | (refine isBx ?_; refine WPl.nw fun g => ?_)
     | (refine WPl.spQ (fun hc => ?_) (fun hc => ?_) <;> try first | exact prA | (exfalso; first | (simp only [fwBad, *, decide_false, Bool.or_self, Bool.false_or, Bool.not_true, Bool.false_eq_true] at hbad; done)))
     | fail)
    all_goals try (first | exact WPq.dTp | exact WPq.dTs | exact WPq.dV | exact WPq.dR | exact WPq.dR2 | exact WPq.dH | exact WPq.dBH | exact WPq.dT)
  | false =>
    obtain ⟨b1, b2, b3, b4, b5, b6, b7⟩ := fwBad_no hbad
    rw [b6] at g1
    rw [b7] at g2
    by_cases hlen : 2028 < d.length
    · have he : fwerr h d.length = 10 := by simp [fwerr, hbad, hlen]
      rw [show fwL h d = [] by simp [fwL, he], he]
      refine Triple.enter Tryz.func139 rfl Tryz.ntmps139 rfl (fun W => ?_)
      dsimp only [argsF, Nat.reduceAdd]
      refine WPc.nilRow 5 ?_
      repeat' (first
       | refine WPl.nil ?_ | refine WPq.then ?_ | refine WPq.thenR ?_ | refine WPq.blockR ?_ | refine WPc.seq ?_ | refine WPc.block ?_ | refine WPc.ret ?_ | refine WPc.region ?_
       | (refine isCond ?_; first | refine WPc.cT ?_ | refine WPc.cF ?_ | (refine WPc.cQ (fun hc => ?_) (fun hc => ?_) <;> try exact prA))
       | (refine isC 32 ?_; refine WPl.cV (g1) ?_)
       | (refine isC 38 ?_; refine WPl.cV (g2) ?_)
       | (refine isOp ?_; first | refine WPl.rd ?_ | refine WPl.sk ?_ | refine WPl.rdB ?_)
       | (refine isBx ?_; refine WPl.nw fun g => ?_)
       | (refine WPl.spQ (fun hc => ?_) (fun hc => ?_) <;> try exact prA)
       | fail)
      all_goals try (first | exact WPq.dTp | exact WPq.dTs | exact WPq.dV | exact WPq.dR | exact WPq.dR2 | exact WPq.dH | exact WPq.dBH | exact WPq.dT)
    · have he : fwerr h d.length = 0 := by simp [fwerr, hbad, hlen]
      rw [show fwL h d = fpkt h d by simp [fwL, he], he]
      have hpl := fpre_len (n := d.length) b4 b5
      have hcs := csum_le (fpre h d.length)
      have a1 := h.src.bytes_len
      have a2 := h.dst.bytes_len
      rw [b4, if_neg (by decide)] at a1
      rw [b5, if_neg (by decide)] at a2
      have hbe := be_length (20 + d.length) 2
      have hbc := be_length (csum (fpre h d.length)) 2
      have hov : (over (fpre h d.length) 10 (be (csum (fpre h d.length)) 2)).length = 20 := by rw [over_length (by omega), hpl]
      refine Triple.enter Tryz.func139 rfl Tryz.ntmps139 rfl (fun W => ?_)
      dsimp only [argsF, Nat.reduceAdd]
      repeat' (first
       | refine WPl.nil ?_ | refine WPq.then ?_ | refine WPq.blockN ?_ | refine WPc.seq ?_ | refine WPc.block ?_ | refine WPc.ret ?_ | refine WPc.skip ?_ | refine WPc.region ?_
       | (refine isReg 8 ?_; refine WPc.drA [([], [60, 61, 62, 63, 64, 65]), ([], [59, 63, 64]), ([1], [59, 60, 63, 64]), ([1, 2], [59, 60, 61, 63, 64]), ([], [59, 60, 61, 62]), ([4], [59, 60, 61, 62, 63]), ([1, 2, 3, 4, 5], [59, 60, 61, 62, 63, 64]), ([0, 1, 2, 3, 4, 5, 6], [59, 60, 61, 62, 63, 64, 65]), ([0, 1, 2, 3, 4, 5, 6, 7], [59, 60, 61, 62, 63, 64, 65, 66]), ([0, 1, 2, 3, 4, 5, 6, 7, 8], [59, 60, 61, 62, 63, 64, 65, 66, 67])] [] (Γx := []) ?_; dsimp only [prev0, List.length_nil, List.length_cons])
       | (refine isReg 9 ?_; refine WPc.drA [([8], [70, 71, 72, 73, 74]), ([0, 8], [68, 70, 71, 72, 73, 74]), ([8], [68, 69]), ([2, 8], [68, 69, 70]), ([2, 3, 8], [68, 69, 70, 71]), ([2, 3, 4, 8], [68, 69, 70, 71, 72]), ([2, 3, 4, 5, 8], [68, 69, 70, 71, 72, 73]), ([0, 1, 2, 3, 4, 5, 6, 8], [68, 69, 70, 71, 72, 73, 74])] [(8, 7), (8, 0), (8, 1), (8, 2), (8, 3), (8, 4), (8, 5), (8, 6)] (Γx := [ob (e 8).1 (fpre h d.length)]) ?_; dsimp only [prev0, List.length_nil, List.length_cons])
       | (refine gAny ?_; first | (refine gC 74 ?_; refine RGl.row (Γ1 := fun _ => []) (fun e hk => OpT.callN (put_t (.slice none 0 0) [] (csum (fpre h d.length)) 2 (by simp) (by omega) (by omega) (by omega))) ?_) | (refine gC 62 ?_; refine RGl.row (Γ1 := fun _ => []) (fun e hk => OpT.callN (addrBytes_t h.src)) ?_) | (refine gC 65 ?_; refine RGl.row (Γ1 := fun _ => []) (fun e hk => OpT.callN (addrBytes_t h.dst)) ?_) | (refine gC 67 ?_; refine RGl.row (Γ1 := fun _ => []) (fun e hk => OpT.callN (bytesE_t _ [_, _, _] [nbs [69, 0] ++ be (20 + d.length) 2 ++ nbs [0, 0, 0, 0, (h.hops.toNat : Nat), (h.proto.toNat : Nat), 0, 0], h.src.bytes, h.dst.bytes] (fpre h d.length) (fpre_eq h d.length) rfl (by rw [fpre_eq]; omega) (by simp))) ?_) | (refine gCl ?_; refine RGl.vl (fun e hk => OpT.callN (isum_t _ [_] [fpre h d.length] (csum (fpre h d.length)) (by simp [csum]) rfl (by simp [hpl]) (by simp))) ?_) | (refine gOp ?_; first | refine RGl.rdA ?_ | refine RGl.rdX (fun e hk => by (try dsimp only [bndR, ensR, oksR, fcutR, List.append_nil, List.nil_append, List.cons_append, List.append_assoc] at hk ⊢); exact readB) ?_) | (refine gLit ?_; refine RGl.litA ?_) | (refine gCp ?_; refine RGl.cpA ?_) | (refine RGl.fin (fun e hk => ?_); (try dsimp only [bndA, ensAR, oksA, List.append_nil, List.nil_append, List.cons_append, List.append_assoc] at hk ⊢); (repeat (obtain ⟨hk1, hk⟩ := hk))) | fail)
       | (refine isCond ?_; first | refine WPc.cT ?_ | refine WPc.cF ?_ | (refine WPc.cQ (fun hc => ?_) (fun hc => ?_) <;> try exact prA))
       | (refine isC 32 ?_; refine WPl.cV (g1) ?_)
       | (refine isC 38 ?_; refine WPl.cV (g2) ?_)
       | (refine isLit ?_; refine WPl.lit fun v hv => ?_)
       | (refine isApp ?_; refine WPl.app fun v hv => ?_)
       | (refine isLit ?_; refine WPl.lits fun v hv => ?_)
       | (refine isC 51 ?_; refine WPl.cR (put_t _ (nbs [69, 0]) (20 + d.length) 2 (by simp [nbs]) (by omega) (by omega) (by omega)) fun v hv => ?_)
       | (refine isC 79 ?_; refine WPl.cR (bytesE_t _ [_, _] [over (fpre h d.length) 10 (be (csum (fpre h d.length)) 2), d] (fpkt h d) (fpkt_eq h d) rfl (by simp only [List.flatten_cons, List.flatten_nil, List.length_append, List.length_nil]; omega) (by simp)) fun v hv => ?_)
       | (refine isOp ?_; first | refine WPl.rd ?_ | refine WPl.sk ?_ | refine WPl.rdB ?_)
       | (refine isBx ?_; refine WPl.nw fun g => ?_)
       | (refine WPl.spQ (fun hc => ?_) (fun hc => ?_) <;> try exact prA)
       | fail)
      all_goals try (first | exact WPq.dTp | exact WPq.dTs | exact WPq.dV | exact WPq.dR | exact WPq.dR2 | exact WPq.dH | exact WPq.dBH | exact WPq.dT)
end Go.Proofs.YtpilenbdimhegaaGreatDoor
/- Layer 13 (ipfour): plain facts of what is written: it is read, spoilt, cut. -/
namespace Go.Proofs.YtpilenbdimhegaaGreatDoor
open Go.RowKit
set_option linter.unusedSimpArgs false
set_option linter.unusedVariables false
set_option maxRecDepth 20000
set_option maxHeartbeats 4000000
attribute [local irreducible] WPc WPl WPq ReadR OpT BinR HasS bx rdN rowN Take Takes Prov Triple ResF BuildP Done ag Int.decLt Int.decLe Int.instDecidableEq

/-- The weight of a place in the sum. -/
def wgt (k : Nat) : Nat := if k % 2 = 0 then 256 else 1
theorem fwerr_zero {h : Hd} {n : Nat} (he : fwerr h n = 0) : fwBad h = false ∧ n ≤ 2028 := by
  unfold fwerr at he
  cases hb : fwBad h with
  | true => rw [hb] at he; simp at he
  | false =>
    rw [hb] at he
    refine ⟨rfl, ?_⟩
    simp only [Bool.false_eq_true, if_false] at he
    split at he <;> omega
end Go.Proofs.YtpilenbdimhegaaGreatDoor
/- Reference of layer 13 (ipfour): a packet is written: contracts. -/
namespace Go.Proofs.YtpilenbdimhegaaGreatDoor
open Go.RowKit
set_option linter.unusedSimpArgs false
set_option linter.unusedVariables false
set_option maxRecDepth 20000
set_option maxHeartbeats 4000000
attribute [local irreducible] WPc WPl WPq ReadR OpT BinR HasS bx rdN rowN Take Takes Prov Triple ResF BuildP Done ag Int.decLt Int.decLe Int.instDecidableEq
theorem ReadR.convT {P : Program} {n : Nat} {Γ : List Asn} {F : List (Nat × Value)} {d : Option Tmp} {ty : TypeId} {pos : String} {af : Array Edge} {gd : Option (Nat × Bool)} {T1 T2 : TypeId} {k1 k2 : IntKind} {x : Operand} {a c : Int} [h2 : IntI P T2 k2] (hc : k2.wrap a = c) (h1 : (P.underlying T1).isSome = true) (hx : evF F x = some (.int k1 a)) : ReadR P n Γ F ⟨d, .convert T1 T2 x, ty, pos, af, gd⟩ (.int k2 c) := hc ▸ ReadR.convW h1 hx
attribute [local irreducible] be
theorem rfour_t (a : Adr) (h : a.six = false) (hg : a.good = true) : Triple Tryz.prog 85 #[ag (adc a)] [] (RVal (.bool true)) := by
  have g1 := rgood_t a
  have l1 := a.len
  rw [hg] at g1
  refine Triple.enter Tryz.func85 rfl Tryz.ntmps85 rfl (fun W => ?_)
  dsimp only [argsF, Nat.reduceAdd]
  repeat' (first
   | refine WPl.nil ?_ | refine WPq.then ?_ | refine WPq.thenR ?_ | refine WPq.thenE ?_ | refine WPq.blockN ?_ | refine WPq.blockR ?_ | refine WPq.blockE ?_ | refine WPq.blockO rfl ?_ | refine WPc.seq ?_ | refine WPc.block ?_ | refine WPc.ret ?_ | refine WPc.exit ?_ | refine WPc.skip ?_ | refine WPc.region ?_
   | (refine isCond ?_; first | refine WPc.cT ?_ | refine WPc.cF ?_ | (refine WPc.cQ (fun hc => ?_) (fun hc => ?_) <;> try exact prA))
   | (refine isC 8 ?_; refine WPl.cV (g1) ?_)
   | (refine isOp ?_; first | refine WPl.rd ?_ | refine WPl.sk ?_ | refine WPl.rdB ?_)
   | (refine isBx ?_; refine WPl.nw fun g => ?_)
   | (show WPl _ _ _ _ _ _ _ (⟨_, .indexAddr _ _ _, _, _, _, _⟩ :: _) _; refine WPl.rdX (ReadR.indexE rfl rfl hasA (by first | assumption | omega)) ?_)
   | (show WPl _ _ _ _ _ _ _ (⟨_, .fieldAddr _ _ _, _, _, _, _⟩ :: _) _; refine WPl.rdX (ReadR.fieldE rfl hasA (by first | assumption | omega)) ?_)
   | (show WPl _ _ _ _ _ _ _ (⟨_, .load _ _, _, _, _, _⟩ :: _) _; first | refine WPl.rdX (ReadR.loadE rfl hasA (by assumption)) ?_ | refine WPl.rdX (ReadR.loadES (by assumption) (by first | assumption | omega) rfl hasA) ?_)
   | (show WPl _ _ _ _ _ _ _ (⟨_, .slice _ _ _ _ _, _, _, _, _⟩ :: _) _; first | refine WPl.rdX (ReadR.sliceH rfl rfl hasA (by omega)) ?_ | refine WPl.rdX (ReadR.sliceL rfl rfl hasA (by omega)) ?_ | refine WPl.rdX (ReadR.sliceLH rfl rfl rfl hasA (by omega) (by omega)) ?_)
   | (refine WPl.spQ (fun hc => ?_) (fun hc => ?_) <;> try exact prA)
   | fail)
  all_goals try (first | exact WPq.dTp | exact WPq.dTs | exact WPq.dV | exact WPq.dR | exact WPq.dR2 | exact WPq.dH | exact WPq.dBH | exact WPq.dT)
theorem over_cons (x : UInt8) (l n : List UInt8) (k : Nat) : over (x :: l) (k + 1) n = x :: over l k n := by
  unfold over
  rw [List.take_succ_cons, List.cons_append, show k + 1 + n.length = (k + n.length) + 1 by omega, List.drop_succ_cons]
theorem over2 (a b : UInt8) : ∀ (l : List UInt8) (k : Nat), k + 2 ≤ l.length → over l k [a, b] = (l.set k a).set (k + 1) b
  | x :: y :: l, 0, _ => by simp [over]
  | x :: l, k + 1, h => by
    rw [over_cons, over2 a b l k (by simpa using h)]
    rfl
  | [], 0, h => by simp at h
  | [x], 0, h => by simp at h
theorem over_set2 {l : List UInt8} {k n : Nat} (hk : k + 2 ≤ l.length) : (l.set k (UInt8.ofNat (n / 256))).set (k + 1) (UInt8.ofNat n) = over l k (be n 2) := by rw [be2, over2 _ _ l k hk]
theorem wrap_hi {n : Nat} (h : n ≤ 65535) : IntKind.u8.wrap ((n : Int) / 256) = (((UInt8.ofNat (n / 256)).toNat : Nat) : Int) := by rw [IntKind.wrap_u8, u8_of]; omega
theorem wrap_lo {n : Nat} (h : n ≤ 65535) : IntKind.u8.wrap ((n : Int) % 256) = (((UInt8.ofNat n).toNat : Nat) : Int) := by rw [IntKind.wrap_u8, u8_of]; omega
theorem rfwrite_t (h : Hd) (vd : Value) (d : List UInt8) (hd : d.length ≤ 1000) (hb : fwBad h = false) : Triple Tryz.prog 60 #[ag (hdc h), vd] [rb vd d] (RW (fpkt h d) 0) := by
  have l1 := h.src.len
  have l2 := h.dst.len
  obtain ⟨b1, b2, b3, b4, b5, b6, b7⟩ := fwBad_no hb
  have g1 := rfour_t h.src b4 b6
  have g2 := rfour_t h.dst b5 b7
  have a1 := h.src.bytes_le
  have a2 := h.dst.bytes_le
  have hb2 := be_length (20 + d.length) 2
  have hpl := fpre_len (h := h) (n := d.length) b4 b5
  have hpe : nbs [69, 0] ++ be (20 + d.length) 2 ++ nbs [0, 0, 0, 0, (h.hops.toNat : Nat), (h.proto.toNat : Nat), 0, 0] ++ h.src.bytes ++ h.dst.bytes = fpre h d.length := by unfold fpre; simp
  have hcl := csum_le (fpre h d.length)
  have c1 := fun v => rsum_t v (fpre h d.length) (by omega)
  have hres : (((fpre h d.length).set 10 (UInt8.ofNat (csum (fpre h d.length) / 256))).set 11 (UInt8.ofNat (csum (fpre h d.length)))) ++ d = fpkt h d := by rw [over_set2 (by omega)]; unfold fpkt; simp
  have hsl : ((fpre h d.length).set 10 (UInt8.ofNat (csum (fpre h d.length) / 256))).length = 20 := by rw [List.length_set]; exact hpl
  rw [← hres]
  obtain ⟨s, hs⟩ : ∃ s, s = csum (fpre h d.length) := ⟨_, rfl⟩
  rw [← hs] at c1 hcl hsl ⊢
  rw [← hpe] at c1 hpl hsl ⊢
  have hw1 := wrap_hi hcl
  have hw2 := wrap_lo hcl
  clear hs hpe hres
  refine Triple.enter Tryz.func60 rfl Tryz.ntmps60 rfl (fun W => ?_)
  dsimp only [argsF, Nat.reduceAdd]
  repeat' (first
   | refine WPl.nil ?_ | refine WPq.then ?_ | refine WPq.thenR ?_ | refine WPq.thenE ?_ | refine WPq.blockN ?_ | refine WPq.blockR ?_ | refine WPq.blockE ?_ | refine WPq.blockO rfl ?_ | refine WPc.seq ?_ | refine WPc.block ?_ | refine WPc.ret ?_ | refine WPc.exit ?_ | refine WPc.skip ?_ | refine WPc.region ?_
   | (refine isReg 7 ?_; refine WPc.drA [([10], [50, 51, 52, 54, 55]), ([10], [49, 54, 55]), ([1, 10], [49, 50, 54, 55]), ([1, 2, 10], [49, 50, 51, 54, 55]), ([0, 1, 2, 3, 10], [49, 50, 51, 52, 54, 55]), ([10], [49, 50, 51, 52, 53]), ([5, 10], [49, 50, 51, 52, 53, 54]), ([0, 1, 2, 3, 4, 5, 6, 10], [49, 50, 51, 52, 53, 54, 55]), ([0, 1, 2, 3, 4, 5, 6, 7, 10], [49, 50, 51, 52, 53, 54, 55, 56]), ([0, 1, 2, 3, 4, 5, 6, 7, 8, 10], [49, 50, 51, 52, 53, 54, 55, 56, 57])] [(10, 4), (4, 8), (10, 0), (10, 1), (10, 2), (10, 3), (4, 7)] (Γx := [ob w (nbs [69, 0] ++ be (20 + d.length) 2 ++ nbs [0, 0, 0, 0, (h.hops.toNat : Nat), (h.proto.toNat : Nat), 0, 0])]) ?_; dsimp only [prev0, List.length_nil, List.length_cons])
   | (refine gAny ?_; first | (refine gC 13 ?_; refine RGl.vl (fun e hk => OpT.callN (g1)) ?_) | (refine gC 19 ?_; refine RGl.vl (fun e hk => OpT.callN (g2)) ?_) | (refine gC 41 ?_; refine RGl.row (Γ1 := fun _ => []) (fun e hk => OpT.callN (rput_t _ (nbs [69, 0]) (20 + d.length) 2 (by omega) (by omega) (by simp [nbs]))) ?_) | (refine gC 52 ?_; refine RGl.row (Γ1 := fun _ => []) (fun e hk => OpT.callN (rbytes_t h.src)) ?_) | (refine gC 56 ?_; refine RGl.row (Γ1 := fun _ => []) (fun e hk => OpT.callN (rbytes_t h.dst)) ?_) | (refine gC 59 ?_; refine RGl.vl (fun e hk => OpT.callN (c1 _)) ?_) | (refine gD 64 ?_; refine RGl.rdX (fun e hk => by (try dsimp only [bndR, ensR, oksR, fcutR, List.append_nil, List.nil_append, List.cons_append, List.append_assoc] at hk ⊢); exact ReadR.convT hw1 rfl rfl) ?_) | (refine gD 67 ?_; refine RGl.rdX (fun e hk => by (try dsimp only [bndR, ensR, oksR, fcutR, List.append_nil, List.nil_append, List.cons_append, List.append_assoc] at hk ⊢); exact ReadR.convT hw2 rfl rfl) ?_) | (refine gOp ?_; first | refine RGl.rdA ?_ | refine RGl.rdX (fun e hk => by (try dsimp only [bndR, ensR, oksR, fcutR, List.append_nil, List.nil_append, List.cons_append, List.append_assoc] at hk ⊢); exact readB) ?_) | (refine gApp ?_; refine RGl.appA ?_) | (refine RGl.fin (fun e hk => ?_); (try dsimp only [bndA, ensAR, oksA, List.append_nil, List.nil_append, List.cons_append, List.append_assoc] at hk ⊢); (repeat (obtain ⟨hk1, hk⟩ := hk))) | fail)
   | (refine isCond ?_; first | refine WPc.cT ?_ | refine WPc.cF ?_ | (refine WPc.cQ (fun hc => ?_) (fun hc => ?_) <;> try exact prA))
   | (refine isLit ?_; refine WPl.lit fun v hv => ?_)
   | (refine isD 72 ?_; refine WPl.app (h63 := by rw [List.length_set, List.length_set]; omega) fun v hv => ?_)
   | (refine isApp ?_; refine WPl.app fun w hw => ?_)
   | (refine isC 13 ?_; refine WPl.cV (g1) ?_)
   | (refine isC 19 ?_; refine WPl.cV (g2) ?_)
   | (refine isC 41 ?_; refine WPl.cR (rput_t _ (nbs [69, 0]) (20 + d.length) 2 (by omega) (by omega) (by simp [nbs])) fun v hv => ?_)
   | (refine isC 52 ?_; refine WPl.cR (rbytes_t h.src) fun v hv => ?_)
   | (refine isC 56 ?_; refine WPl.cR (rbytes_t h.dst) fun v hv => ?_)
   | (refine isC 59 ?_; refine WPl.cV (c1 _) ?_)
   | (refine isD 64 ?_; refine WPl.rdX (ReadR.convT hw1 rfl rfl) ?_)
   | (refine isD 67 ?_; refine WPl.rdX (ReadR.convT hw2 rfl rfl) ?_)
   | (refine isOp ?_; first | refine WPl.rd ?_ | refine WPl.sk ?_ | refine WPl.rdB ?_)
   | (refine isBx ?_; refine WPl.nw fun g => ?_)
   | (refine isSt ?_; first | refine WPl.st1 ?_ | refine WPl.stA ?_ | refine WPl.stEB ?_ | refine WPl.stRB ?_)
   | (show WPl _ _ _ _ _ _ _ (⟨_, .indexAddr _ _ _, _, _, _, _⟩ :: _) _; refine WPl.rdX (ReadR.indexE rfl rfl hasA (by first | assumption | omega)) ?_)
   | (show WPl _ _ _ _ _ _ _ (⟨_, .fieldAddr _ _ _, _, _, _, _⟩ :: _) _; refine WPl.rdX (ReadR.fieldE rfl hasA (by first | assumption | omega)) ?_)
   | (show WPl _ _ _ _ _ _ _ (⟨_, .load _ _, _, _, _, _⟩ :: _) _; first | refine WPl.rdX (ReadR.loadE rfl hasA (by assumption)) ?_ | refine WPl.rdX (ReadR.loadES (by assumption) (by first | assumption | omega) rfl hasA) ?_)
   | (show WPl _ _ _ _ _ _ _ (⟨_, .slice _ _ _ _ _, _, _, _, _⟩ :: _) _; first | refine WPl.rdX (ReadR.sliceH rfl rfl hasA (by omega)) ?_ | refine WPl.rdX (ReadR.sliceL rfl rfl hasA (by omega)) ?_ | refine WPl.rdX (ReadR.sliceLH rfl rfl rfl hasA (by omega) (by omega)) ?_)
   | (refine WPl.spQ (fun hc => ?_) (fun hc => ?_) <;> try exact prA)
   | fail)
  all_goals try (first | exact WPq.dTp | exact WPq.dTs | exact WPq.dV | exact WPq.dR | exact WPq.dR2 | exact WPq.dH | exact WPq.dBH | exact WPq.dT)
end Go.Proofs.YtpilenbdimhegaaGreatDoor
