/- Layer 21 (health): no health; reports in a row. -/
import Derived.Test.YtnkhcdmkkcpheaaHg
namespace Go.Proofs.Ytnkhcdmkkcpheaa
open Go.RowKit
set_option linter.unusedSimpArgs false
set_option linter.unusedVariables false
set_option maxRecDepth 20000
set_option maxHeartbeats 4000000
attribute [local irreducible] WPc WPl WPq ReadR OpT BinR HasS bx rdN rowN Take Takes Prov Triple ResF BuildP Done ag Int.decLt Int.decLe Int.instDecidableEq
attribute [local irreducible] mput mget mfind
theorem hforget0_t (s b : Int) : Triple Try.prog 35 #[.pointer none, .int .i64 s, .int .i64 b] [] (RVal (resV [])) := by
  refine Triple.enter Try.func35 rfl Try.ntmps35 rfl (fun W => ?_)
  dsimp only [argsF, Nat.reduceAdd]
  repeat' (first
   | refine WPl.nil ?_ | refine WPq.then ?_ | refine WPq.thenR ?_ | refine WPq.thenE ?_ | refine WPq.blockN ?_ | refine WPq.blockR ?_ | refine WPq.blockE ?_ | refine WPq.blockO rfl ?_ | refine WPc.seq ?_ | refine WPc.block ?_ | refine WPc.ret ?_ | refine WPc.exit ?_ | refine WPc.skip ?_ | refine WPc.region ?_
   | (refine isCond ?_; first | refine WPc.cT ?_ | refine WPc.cF ?_ | (refine WPc.cQ (fun hc => ?_) (fun hc => ?_) <;> try exact prA))
   | (refine isD 7 ?_; refine WPl.rdX (readP) ?_)
   | (refine isOp ?_; first | refine WPl.rd ?_ | refine WPl.sk ?_ | refine WPl.rdB ?_)
   | (refine WPl.spQ (fun hc => ?_) (fun hc => ?_) <;> try exact prA)
   | fail)
  all_goals try (first | exact WPq.dTs | exact WPq.dV | exact WPq.dR | exact WPq.dR2 | exact WPq.dH | exact WPq.dBH | exact WPq.dT)
theorem hclear0_t (s : Int) : Triple Try.prog 36 #[.pointer none, .int .i64 s] [] (RVal (resV [])) := by
  refine Triple.enter Try.func36 rfl Try.ntmps36 rfl (fun W => ?_)
  dsimp only [argsF, Nat.reduceAdd]
  repeat' (first
   | refine WPl.nil ?_ | refine WPq.then ?_ | refine WPq.thenR ?_ | refine WPq.thenE ?_ | refine WPq.blockN ?_ | refine WPq.blockR ?_ | refine WPq.blockE ?_ | refine WPq.blockO rfl ?_ | refine WPc.seq ?_ | refine WPc.block ?_ | refine WPc.ret ?_ | refine WPc.exit ?_ | refine WPc.skip ?_ | refine WPc.region ?_
   | (refine isCond ?_; first | refine WPc.cT ?_ | refine WPc.cF ?_ | (refine WPc.cQ (fun hc => ?_) (fun hc => ?_) <;> try exact prA))
   | (refine isD 5 ?_; refine WPl.rdX (readP) ?_)
   | (refine isOp ?_; first | refine WPl.rd ?_ | refine WPl.sk ?_ | refine WPl.rdB ?_)
   | (refine isBx ?_; refine WPl.nw fun g => ?_)
   | (refine WPl.spQ (fun hc => ?_) (fun hc => ?_) <;> try exact prA)
   | fail)
  all_goals try (first | exact WPq.dTs | exact WPq.dV | exact WPq.dR | exact WPq.dR2 | exact WPq.dH | exact WPq.dBH | exact WPq.dT)
theorem hdown0_t (s : Int) : Triple Try.prog 37 #[.pointer none, .int .i64 s] [] (RVal (.slice none 0 0)) := by
  refine Triple.enter Try.func37 rfl Try.ntmps37 rfl (fun W => ?_)
  dsimp only [argsF, Nat.reduceAdd]
  repeat' (first
   | refine WPl.nil ?_ | refine WPq.then ?_ | refine WPq.thenR ?_ | refine WPq.thenE ?_ | refine WPq.blockN ?_ | refine WPq.blockR ?_ | refine WPq.blockE ?_ | refine WPq.blockO rfl ?_ | refine WPc.seq ?_ | refine WPc.block ?_ | refine WPc.ret ?_ | refine WPc.exit ?_ | refine WPc.skip ?_ | refine WPc.region ?_
   | (refine isCond ?_; first | refine WPc.cT ?_ | refine WPc.cF ?_ | (refine WPc.cQ (fun hc => ?_) (fun hc => ?_) <;> try exact prA))
   | (refine isD 9 ?_; refine WPl.rdX (readP) ?_)
   | (refine isOp ?_; first | refine WPl.rd ?_ | refine WPl.sk ?_ | refine WPl.rdB ?_)
   | (refine isAl ?_; refine WPl.nw fun g => ?_)
   | (refine isSt ?_; first | refine WPl.st1 ?_ | refine WPl.stA ?_ | refine WPl.stEB ?_ | refine WPl.stRB ?_)
   | (refine WPl.spQ (fun hc => ?_) (fun hc => ?_) <;> try exact prA)
   | fail)
  all_goals try (first | exact WPq.dTs | exact WPq.dV | exact WPq.dR | exact WPq.dR2 | exact WPq.dH | exact WPq.dBH | exact WPq.dT)
theorem hup0_t (s b : Int) : Triple Try.prog 19 #[.pointer none, .int .i64 s, .int .i64 b] [] (RVal (.bool false)) := by
  refine Triple.enter Try.func19 rfl Try.ntmps19 rfl (fun W => ?_)
  dsimp only [argsF, Nat.reduceAdd]
  repeat' (first
   | refine WPl.nil ?_ | refine WPq.then ?_ | refine WPq.thenR ?_ | refine WPq.thenE ?_ | refine WPq.blockN ?_ | refine WPq.blockR ?_ | refine WPq.blockE ?_ | refine WPq.blockO rfl ?_ | refine WPc.seq ?_ | refine WPc.block ?_ | refine WPc.ret ?_ | refine WPc.exit ?_ | refine WPc.skip ?_ | refine WPc.region ?_
   | (refine isCond ?_; first | refine WPc.cT ?_ | refine WPc.cF ?_ | (refine WPc.cQ (fun hc => ?_) (fun hc => ?_) <;> try exact prA))
   | (refine isD 8 ?_; refine WPl.rdX (readP) ?_)
   | (refine isOp ?_; first | refine WPl.rd ?_ | refine WPl.sk ?_ | refine WPl.rdB ?_)
   | (refine WPl.spQ (fun hc => ?_) (fun hc => ?_) <;> try exact prA)
   | fail)
  all_goals try (first | exact WPq.dTs | exact WPq.dV | exact WPq.dR | exact WPq.dR2 | exact WPq.dH | exact WPq.dBH | exact WPq.dT)
theorem hreport0_t (s b : Int) (ok : Bool) : Triple Try.prog 18 #[.pointer none, .int .i64 s, .int .i64 b, .bool ok] [] (RVal (.bool false)) := by
  refine Triple.enter Try.func18 rfl Try.ntmps18 rfl (fun W => ?_)
  dsimp only [argsF, Nat.reduceAdd]
  repeat' (first
   | refine WPl.nil ?_ | refine WPq.then ?_ | refine WPq.thenR ?_ | refine WPq.thenE ?_ | refine WPq.blockN ?_ | refine WPq.blockR ?_ | refine WPq.blockE ?_ | refine WPq.blockO rfl ?_ | refine WPc.seq ?_ | refine WPc.block ?_ | refine WPc.ret ?_ | refine WPc.exit ?_ | refine WPc.skip ?_ | refine WPc.region ?_
   | (refine isReg 4 ?_; refine WPc.drA [([], [10, 22]), ([0], [10, 18, 22]), ([0, 1], [10, 18, 19, 22]), ([0, 1, 2], [10, 18, 19, 20, 22]), ([], [10, 18, 19, 20, 21]), ([0, 1, 2, 3, 4], [10, 18, 19, 20, 21, 22]), ([], [18, 19, 20, 21, 22, 23]), ([0, 1, 2, 3, 4, 5, 6], [10, 18, 19, 20, 21, 22, 23])] [(6, 7)] (Γx := []) ?_; dsimp only [prev0, List.length_nil, List.length_cons])
   | (refine isReg 6 ?_; refine WPc.drA [([], [32, 33, 34, 35]), ([0], [28, 32, 33, 34, 35]), ([0, 1], [28, 29, 32, 33, 34, 35]), ([0, 1, 2], [28, 29, 30, 32, 33, 34, 35]), ([], [28, 29, 30, 31, 33, 34, 35]), ([], [28, 29, 30, 31, 32]), ([5], [28, 29, 30, 31, 32, 33]), ([5, 6], [28, 29, 30, 31, 32, 33, 34]), ([0, 1, 2, 3, 4, 5, 6, 7], [28, 29, 30, 31, 32, 33, 34, 35])] [] (Γx := []) ?_; dsimp only [prev0, List.length_nil, List.length_cons])
   | (refine isReg 15 ?_; refine WPc.drA [([], [63, 64]), ([0], [59, 63, 64]), ([0, 1], [59, 60, 63, 64]), ([0, 1, 2], [59, 60, 61, 63, 64]), ([], [59, 60, 61, 62, 64]), ([], [59, 60, 61, 62, 63]), ([0, 1, 2, 3, 4, 5], [59, 60, 61, 62, 63, 64])] [] (Γx := []) ?_; dsimp only [prev0, List.length_nil, List.length_cons])
   | (refine gAny ?_; first | (refine gD 14 ?_; refine RGl.rdX (fun e hk => by (try dsimp only [bndR, ensR, oksR, fcutR, List.append_nil, List.nil_append, List.cons_append, List.append_assoc] at hk ⊢); exact readP) ?_) | (refine gOp ?_; first | refine RGl.rdA ?_ | refine RGl.rdX (fun e hk => by (try dsimp only [bndR, ensR, oksR, fcutR, List.append_nil, List.nil_append, List.cons_append, List.append_assoc] at hk ⊢); exact readB) ?_) | (refine gAl ?_; refine RGl.nwA ?_) | (refine gSt ?_; refine RGl.stA ?_) | (refine RGl.fin (fun e hk => ?_); (try dsimp only [bndA, ensAR, oksA, List.append_nil, List.nil_append, List.cons_append, List.append_assoc] at hk ⊢); (repeat (obtain ⟨hk1, hk⟩ := hk))) | fail)
   | (refine isCond ?_; first | refine WPc.cT ?_ | refine WPc.cF ?_ | (refine WPc.cQ (fun hc => ?_) (fun hc => ?_) <;> try exact prA))
   | (refine isD 14 ?_; refine WPl.rdX (readP) ?_)
   | (refine isOp ?_; first | refine WPl.rd ?_ | refine WPl.sk ?_ | refine WPl.rdB ?_)
   | (refine isAl ?_; refine WPl.nw fun g => ?_)
   | (refine isSt ?_; first | refine WPl.st1 ?_ | refine WPl.stA ?_ | refine WPl.stEB ?_ | refine WPl.stRB ?_)
   | (refine WPl.spQ (fun hc => ?_) (fun hc => ?_) <;> try exact prA)
   | fail)
  all_goals try (first | exact WPq.dTs | exact WPq.dV | exact WPq.dR | exact WPq.dR2 | exact WPq.dH | exact WPq.dBH | exact WPq.dT)
theorem i64_3 : in64 3 := by unfold in64; omega
theorem i64_4 : in64 4 := by unfold in64; omega
theorem wrap1 {i : Nat} (h : i ≤ 1000) : IntKind.i64.wrap ((i : Int) + 1) = (i : Int) + 1 := wrapK (by simp only [kmin]; omega) (by simp only [kmax]; omega)
theorem step_down {N M : Int} {i : Nat} (h : i ≤ 1000) : stepS N M false (false, (i : Int)) = if M ≤ (i : Int) + 1 then ((true, 0), true) else ((false, (i : Int) + 1), false) := by
  unfold stepS; rw [wrap1 h]; simp
theorem step_up {N M : Int} {i : Nat} (h : i ≤ 1000) : stepS N M true (true, (i : Int)) = if N ≤ (i : Int) + 1 then ((false, 0), true) else ((true, (i : Int) + 1), false) := by
  unfold stepS; rw [wrap1 h]; simp
theorem healthRow_t (r f : UInt8) : Triple Try.prog 10 #[.int .u8 ((r.toNat : Nat) : Int), .int .u8 ((f.toNat : Nat) : Int)] [] (RVal (.bool true)) := by
  obtain ⟨N, hN⟩ : ∃ N, 1 + (r.toNat : Int) % 100 = N := ⟨_, rfl⟩
  obtain ⟨M, hM⟩ : ∃ M, 1 + (f.toNat : Int) % 100 = M := ⟨_, rfl⟩
  have hN1 : 1 ≤ N ∧ N ≤ 100 := by omega
  have hM1 : 1 ≤ M ∧ M ≤ 100 := by omega
  have c0 := hnew_t N M hN1 hM1
  have hlive := hlives_t
  have n1 := hforget0_t 1 1
  have n2 := hclear0_t 1
  have n3 := hdown0_t 3
  have n4 := hup0_t 3 4
  have n5 := hreport0_t 3 4 true
  have hr := r.toNat_lt
  have hf := f.toNat_lt
  refine Triple.enter Try.func10 rfl Try.ntmps10 rfl (fun W => ?_)
  dsimp only [argsF, Nat.reduceAdd]
  repeat' (first
   | refine WPl.nil ?_ | refine WPq.then ?_ | refine WPq.thenR ?_ | refine WPq.thenE ?_ | refine WPq.blockN ?_ | refine WPq.blockR ?_ | refine WPq.blockE ?_ | refine WPq.blockO rfl ?_ | refine WPc.seq ?_ | refine WPc.block ?_ | refine WPc.ret ?_ | refine WPc.exit ?_ | refine WPc.skip ?_ | refine WPc.region ?_
   | (refine isCond ?_; first | refine WPc.cT ?_ | refine WPc.cF ?_ | (refine WPc.cQ (fun hc => ?_) (fun hc => ?_) <;> try exact prA))
   | (refine isD 15 ?_; refine WPl.rdX (ReadR.binE rfl rfl (BinR.addK (by simp only [kmin]; omega) (by simp only [kmax]; omega)) (congrArg (Value.int .i64) hN)) ?_)
   | (refine isD 19 ?_; refine WPl.rdX (ReadR.binE rfl rfl (BinR.addK (by simp only [kmin]; omega) (by simp only [kmax]; omega)) (congrArg (Value.int .i64) hM)) ?_)
   | (refine isC 23 ?_; refine WPl.cXs (c0) fun v Γ1 hR => ?_; obtain ⟨gh, m, rfl, rfl⟩ := hR; (try dsimp only [putF, List.cons_append, List.nil_append]))
   | (refine isD 27 ?_; refine WPl.rdX (readP) ?_)
   | (refine isOp ?_; first | refine WPl.rd ?_ | refine WPl.sk ?_ | refine WPl.rdB ?_)
   | (refine WPl.spQ (fun hc => ?_) (fun hc => ?_) <;> try exact prA)
   | fail)
  first | refine WPc.loop (σ := Nat × HL) (fun st => (st.1 : Int) ≤ M ∧ mget whoM st.2 (3, 4) = (if (st.1 : Int) < M then (false, (st.1 : Int)) else (true, 0))) (fun st => [bx gh 131 (hbc N M m), mp whoM m st.2]) (fun st => [(5, .int .i64 N), (6, .int .i64 M), (7, hP gh), (9, .int .i64 st.1)]) (fun st => 100 - st.1) ((0, [])) ?_ takesA frsA (fun st km hx hk => ?_)
  · refine ⟨by dsimp only; omega, ?_⟩
    rw [mget_nil, if_pos (by dsimp only; omega)]; rfl
  obtain ⟨i, L⟩ := st
  obtain ⟨hi, he⟩ := hx
  dsimp only at hi he hk ⊢
  by_cases hlt : (i : Int) < M
  · rw [if_pos hlt] at he
    have c1 := hup_t gh m N M 3 4 L i64_3 i64_4
    rw [he] at c1
    by_cases hlast : M ≤ (i : Int) + 1
    · have c2 := hreport_t gh m N M 3 4 false L (true, 0) true (by rw [he, step_down (by omega), if_pos hlast]) i64_3 i64_4
      have heq : (i : Int) = M - 1 := by omega
      repeat' (first
       | refine WPl.nil ?_ | refine WPq.then ?_ | refine WPq.thenR ?_ | refine WPq.thenE ?_ | refine WPq.blockN ?_ | refine WPq.blockR ?_ | refine WPq.blockE ?_ | refine WPq.blockO rfl ?_ | refine WPc.seq ?_ | refine WPc.block ?_ | refine WPc.ret ?_ | refine WPc.exit ?_ | refine WPc.skip ?_ | refine WPc.region ?_
       | (refine isCond ?_; first | refine WPc.cT ?_ | refine WPc.cF ?_ | (refine WPc.cQ (fun hc => ?_) (fun hc => ?_) <;> try exact prA))
       | (refine isC 38 ?_; refine WPl.cTs (c1) ?_; (try dsimp only [putF, List.cons_append, List.nil_append]))
       | (refine isC 42 ?_; refine WPl.cTs (c2) ?_; (try dsimp only [putF, List.cons_append, List.nil_append]))
       | (refine isD 46 ?_; refine WPl.rdX (ReadR.binE rfl rfl BinR.eql (congrArg Value.bool (decide_eq_true heq))) ?_)
       | (refine isOp ?_; first | refine WPl.rd ?_ | refine WPl.sk ?_ | refine WPl.rdB ?_)
       | (refine WPl.spQ (fun hc => ?_) (fun hc => ?_) <;> try exact prA)
       | fail)
      exact WPq.rnd (i + 1, mput L (3, 4) (true, 0)) ⟨by dsimp only; omega, by dsimp only; rw [mget_same, if_neg (by omega)]⟩ (by dsimp only; omega)
    · have c2 := hreport_t gh m N M 3 4 false L (false, (i : Int) + 1) false (by rw [he, step_down (by omega), if_neg hlast]) i64_3 i64_4
      have heq : ¬ (i : Int) = M - 1 := by omega
      repeat' (first
       | refine WPl.nil ?_ | refine WPq.then ?_ | refine WPq.thenR ?_ | refine WPq.thenE ?_ | refine WPq.blockN ?_ | refine WPq.blockR ?_ | refine WPq.blockE ?_ | refine WPq.blockO rfl ?_ | refine WPc.seq ?_ | refine WPc.block ?_ | refine WPc.ret ?_ | refine WPc.exit ?_ | refine WPc.skip ?_ | refine WPc.region ?_
       | (refine isCond ?_; first | refine WPc.cT ?_ | refine WPc.cF ?_ | (refine WPc.cQ (fun hc => ?_) (fun hc => ?_) <;> try exact prA))
       | (refine isC 38 ?_; refine WPl.cTs (c1) ?_; (try dsimp only [putF, List.cons_append, List.nil_append]))
       | (refine isC 42 ?_; refine WPl.cTs (c2) ?_; (try dsimp only [putF, List.cons_append, List.nil_append]))
       | (refine isD 46 ?_; refine WPl.rdX (ReadR.binE rfl rfl BinR.eql (congrArg Value.bool (decide_eq_false heq))) ?_)
       | (refine isOp ?_; first | refine WPl.rd ?_ | refine WPl.sk ?_ | refine WPl.rdB ?_)
       | (refine WPl.spQ (fun hc => ?_) (fun hc => ?_) <;> try exact prA)
       | fail)
      exact WPq.rnd (i + 1, mput L (3, 4) (false, (i : Int) + 1)) ⟨by dsimp only; omega, by dsimp only; rw [mget_same, if_pos (by omega)]; simp⟩ (by dsimp only; omega)
  rw [if_neg hlt] at he
  repeat' (first
   | refine WPl.nil ?_ | refine WPq.then ?_ | refine WPq.thenR ?_ | refine WPq.thenE ?_ | refine WPq.blockN ?_ | refine WPq.blockR ?_ | refine WPq.blockE ?_ | refine WPq.blockO rfl ?_ | refine WPc.seq ?_ | refine WPc.block ?_ | refine WPc.ret ?_ | refine WPc.exit ?_ | refine WPc.skip ?_ | refine WPc.region ?_
   | (refine isCond ?_; first | refine WPc.cT ?_ | refine WPc.cF ?_ | (refine WPc.cQ (fun hc => ?_) (fun hc => ?_) <;> try exact prA))
   | (refine isOp ?_; first | refine WPl.rd ?_ | refine WPl.sk ?_ | refine WPl.rdB ?_)
   | (refine WPl.spQ (fun hc => ?_) (fun hc => ?_) <;> try exact prA)
   | fail)
  first | refine WPc.loop (σ := Nat × HL) (fun st => (st.1 : Int) ≤ N ∧ mget whoM st.2 (3, 4) = (if (st.1 : Int) < N then (true, (st.1 : Int)) else (false, 0))) (fun st => [bx gh 131 (hbc N M m), mp whoM m st.2]) (fun st => [(5, .int .i64 N), (7, hP gh), (10, .int .i64 st.1)]) (fun st => 100 - st.1) ((0, L)) ?_ takesA frsA (fun st km hx hk => ?_)
  · refine ⟨by dsimp only; omega, ?_⟩
    dsimp only
    rw [he, if_pos (by omega)]; rfl
  clear he hi hlt
  obtain ⟨i, L⟩ := st
  obtain ⟨hi, he⟩ := hx
  dsimp only at hi he hk ⊢
  by_cases hlt : (i : Int) < N
  · rw [if_pos hlt] at he
    have c1 := hup_t gh m N M 3 4 L i64_3 i64_4
    rw [he] at c1
    by_cases hlast : N ≤ (i : Int) + 1
    · have c2 := hreport_t gh m N M 3 4 true L (false, 0) true (by rw [he, step_up (by omega), if_pos hlast]) i64_3 i64_4
      have heq : (i : Int) = N - 1 := by omega
      repeat' (first
       | refine WPl.nil ?_ | refine WPq.then ?_ | refine WPq.thenR ?_ | refine WPq.thenE ?_ | refine WPq.blockN ?_ | refine WPq.blockR ?_ | refine WPq.blockE ?_ | refine WPq.blockO rfl ?_ | refine WPc.seq ?_ | refine WPc.block ?_ | refine WPc.ret ?_ | refine WPc.exit ?_ | refine WPc.skip ?_ | refine WPc.region ?_
       | (refine isCond ?_; first | refine WPc.cT ?_ | refine WPc.cF ?_ | (refine WPc.cQ (fun hc => ?_) (fun hc => ?_) <;> try exact prA))
       | (refine isC 55 ?_; refine WPl.cTs (c1) ?_; (try dsimp only [putF, List.cons_append, List.nil_append]))
       | (refine isC 58 ?_; refine WPl.cTs (c2) ?_; (try dsimp only [putF, List.cons_append, List.nil_append]))
       | (refine isD 62 ?_; refine WPl.rdX (ReadR.binE rfl rfl BinR.eql (congrArg Value.bool (decide_eq_true heq))) ?_)
       | (refine isOp ?_; first | refine WPl.rd ?_ | refine WPl.sk ?_ | refine WPl.rdB ?_)
       | (refine WPl.spQ (fun hc => ?_) (fun hc => ?_) <;> try exact prA)
       | fail)
      exact WPq.rnd (i + 1, mput L (3, 4) (false, 0)) ⟨by dsimp only; omega, by dsimp only; rw [mget_same, if_neg (by omega)]⟩ (by dsimp only; omega)
    · have c2 := hreport_t gh m N M 3 4 true L (true, (i : Int) + 1) false (by rw [he, step_up (by omega), if_neg hlast]) i64_3 i64_4
      have heq : ¬ (i : Int) = N - 1 := by omega
      repeat' (first
       | refine WPl.nil ?_ | refine WPq.then ?_ | refine WPq.thenR ?_ | refine WPq.thenE ?_ | refine WPq.blockN ?_ | refine WPq.blockR ?_ | refine WPq.blockE ?_ | refine WPq.blockO rfl ?_ | refine WPc.seq ?_ | refine WPc.block ?_ | refine WPc.ret ?_ | refine WPc.exit ?_ | refine WPc.skip ?_ | refine WPc.region ?_
       | (refine isCond ?_; first | refine WPc.cT ?_ | refine WPc.cF ?_ | (refine WPc.cQ (fun hc => ?_) (fun hc => ?_) <;> try exact prA))
       | (refine isC 55 ?_; refine WPl.cTs (c1) ?_; (try dsimp only [putF, List.cons_append, List.nil_append]))
       | (refine isC 58 ?_; refine WPl.cTs (c2) ?_; (try dsimp only [putF, List.cons_append, List.nil_append]))
       | (refine isD 62 ?_; refine WPl.rdX (ReadR.binE rfl rfl BinR.eql (congrArg Value.bool (decide_eq_false heq))) ?_)
       | (refine isOp ?_; first | refine WPl.rd ?_ | refine WPl.sk ?_ | refine WPl.rdB ?_)
       | (refine WPl.spQ (fun hc => ?_) (fun hc => ?_) <;> try exact prA)
       | fail)
      exact WPq.rnd (i + 1, mput L (3, 4) (true, (i : Int) + 1)) ⟨by dsimp only; omega, by dsimp only; rw [mget_same, if_pos (by omega)]; simp⟩ (by dsimp only; omega)
  · rw [if_neg hlt] at he
    have c1 := hup_t gh m N M 3 4 L i64_3 i64_4
    rw [he] at c1
    repeat' (first
     | refine WPl.nil ?_ | refine WPq.then ?_ | refine WPq.thenR ?_ | refine WPq.thenE ?_ | refine WPq.blockN ?_ | refine WPq.blockR ?_ | refine WPq.blockE ?_ | refine WPq.blockO rfl ?_ | refine WPc.seq ?_ | refine WPc.block ?_ | refine WPc.ret ?_ | refine WPc.exit ?_ | refine WPc.skip ?_ | refine WPc.region ?_
     | (refine isCond ?_; first | refine WPc.cT ?_ | refine WPc.cF ?_ | (refine WPc.cQ (fun hc => ?_) (fun hc => ?_) <;> try exact prA))
     | (refine isC 66 ?_; refine WPl.cV (n1) ?_)
     | (refine isC 68 ?_; refine WPl.cV (n2) ?_)
     | (refine isC 70 ?_; refine WPl.cTs (c1) ?_; (try dsimp only [putF, List.cons_append, List.nil_append]))
     | (refine isC 73 ?_; refine WPl.cV (n4) ?_)
     | (refine isC 78 ?_; refine WPl.cV (n5) ?_)
     | (refine isC 83 ?_; refine WPl.cV (n3) ?_)
     | (refine isC 88 ?_; refine WPl.cV (hlive) ?_)
     | (refine isOp ?_; first | refine WPl.rd ?_ | refine WPl.sk ?_ | refine WPl.rdB ?_)
     | (refine WPl.spQ (fun hc => ?_) (fun hc => ?_) <;> try exact prA)
     | fail)
    all_goals first | exact WPq.dV | exact absurd rfl hc | simp at hc
end Go.Proofs.Ytnkhcdmkkcpheaa
