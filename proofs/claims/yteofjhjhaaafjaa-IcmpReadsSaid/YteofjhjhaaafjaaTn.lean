/- Layer 24 (tmpl) and its reference: values, spans, reading: contracts. -/
import Derived.Test.YteofjhjhaaafjaaTm
namespace Go.Proofs.Yteofjhjhaaafjaa
open Go.RowKit
set_option linter.unusedSimpArgs false
set_option linter.unusedVariables false
set_option maxRecDepth 20000
set_option maxHeartbeats 4000000
attribute [local irreducible] WPc WPl WPq ReadR OpT BinR HasS bx rdN rowN Take Takes Prov Triple ResF BuildP Done ag Int.decLt Int.decLe Int.instDecidableEq

def valL (b : Int) (u : Nat) : List UInt8 := if idB b then be b.toNat 2 ++ be u 8 else []
abbrev tmc (s : Int) (a : Adr) (n b : Int) (u : Nat) : Ch := [(1, [.int .i64 s]), (1, [.bool a.six]), (16, u8s a.b), (1, [.int .i64 n]), (1, [.int .i64 b]), (1, [.int .u64 (u : Int)])]
theorem idB_nat {n : Int} (h : idB n = true) : ∃ m : Nat, n = m ∧ m ≤ 65535 := by
  simp only [idB, Bool.and_eq_true, decide_eq_true_eq] at h
  obtain ⟨m, rfl⟩ := Int.eq_ofNat_of_zero_le h.1
  exact ⟨m, rfl, by omega⟩
theorem valN_t (b : Int) (u : Nat) (hu : u < 18446744073709551616) : Triple Try.prog 28 #[.int .i64 b, .int .u64 (u : Int)] [] (RRow2 5 1 (valL b u).length (u8s (valL b u)) (.bool (idB b))) := by
  have hid := tid_t b
  cases hb : idB b with
  | false =>
    rw [hb] at hid
    rw [show valL b u = [] by simp [valL, hb]]
    refine Triple.enter Try.func28 rfl Try.ntmps28 rfl (fun W => ?_)
    dsimp only [argsF, Nat.reduceAdd]
    refine WPc.nilRow 5 ?_
    repeat' (first
     | refine WPl.nil ?_ | refine WPq.then ?_ | refine WPq.thenR ?_ | refine WPq.thenE ?_ | refine WPq.blockN ?_ | refine WPq.blockR ?_ | refine WPq.blockE ?_ | refine WPq.blockO rfl ?_ | refine WPc.seq ?_ | refine WPc.block ?_ | refine WPc.ret ?_ | refine WPc.exit ?_ | refine WPc.skip ?_ | refine WPc.region ?_
     | (refine isCond ?_; first | refine WPc.cT ?_ | refine WPc.cF ?_ | (refine WPc.cQ (fun hc => ?_) (fun hc => ?_) <;> try exact prA))
     | (refine isCl ?_; refine WPl.cV (hid) ?_)
     | (refine isOp ?_; first | refine WPl.rd ?_ | refine WPl.sk ?_ | refine WPl.rdB ?_)
     | (refine WPl.spQ (fun hc => ?_) (fun hc => ?_) <;> try exact prA)
     | fail)
    all_goals try (first | exact WPq.dV | exact WPq.dR | exact WPq.dR2 | exact WPq.dH | exact WPq.dBH | exact WPq.dT)
  | true =>
    rw [hb] at hid
    rw [show valL b u = [] ++ be b.toNat 2 ++ be u 8 by simp [valL, hb]]
    obtain ⟨m, rfl, hm⟩ := idB_nat hb
    simp only [Int.toNat_natCast]
    have hbl := be_length m 2
    refine Triple.enter Try.func28 rfl Try.ntmps28 rfl (fun W => ?_)
    dsimp only [argsF, Nat.reduceAdd]
    repeat' (first
     | refine WPl.nil ?_ | refine WPq.then ?_ | refine WPq.thenR ?_ | refine WPq.thenE ?_ | refine WPq.blockN ?_ | refine WPq.blockR ?_ | refine WPq.blockE ?_ | refine WPq.blockO rfl ?_ | refine WPc.seq ?_ | refine WPc.block ?_ | refine WPc.ret ?_ | refine WPc.exit ?_ | refine WPc.skip ?_ | refine WPc.region ?_
     | (refine isCond ?_; first | refine WPc.cT ?_ | refine WPc.cF ?_ | (refine WPc.cQ (fun hc => ?_) (fun hc => ?_) <;> try exact prA))
     | (refine isCl ?_; refine WPl.cV (hid) ?_)
     | (refine isCl ?_; refine WPl.cR (put_t _ [] m 2 (by simp) (by omega) (by omega) (by omega)) fun v hv => ?_)
     | (refine isCl ?_; refine WPl.cR (put_t _ ([] ++ be m 2) u 8 (by simp [hbl]) hu (by omega) (by omega)) fun v hv => ?_)
     | (refine isOp ?_; first | refine WPl.rd ?_ | refine WPl.sk ?_ | refine WPl.rdB ?_)
     | (refine WPl.spQ (fun hc => ?_) (fun hc => ?_) <;> try exact prA)
     | fail)
    all_goals try (first | exact WPq.dV | exact WPq.dR | exact WPq.dR2 | exact WPq.dH | exact WPq.dBH | exact WPq.dT)
theorem tgood_t (s : Int) (a : Adr) (n b : Int) (u : Nat) (h1 : -9223372036854775808 ≤ n) (h2 : n ≤ 9223372036854775807) : Triple Try.prog 31 #[ag (tmc s a n b u)] [] (RVal (.bool (keyOk s a n && idB b))) := by
  have hlen := a.len
  have hk := key_t s a n h1 h2
  have hid := tid_t b
  cases ho : keyOk s a n with
  | false =>
    rw [ho] at hk
    refine Triple.enter Try.func31 rfl Try.ntmps31 rfl (fun W => ?_)
    dsimp only [argsF, Nat.reduceAdd]
    repeat' (first
     | refine WPl.nil ?_ | refine WPq.then ?_ | refine WPq.thenR ?_ | refine WPq.thenE ?_ | refine WPq.blockN ?_ | refine WPq.blockR ?_ | refine WPq.blockE ?_ | refine WPq.blockO rfl ?_ | refine WPc.seq ?_ | refine WPc.block ?_ | refine WPc.ret ?_ | refine WPc.exit ?_ | refine WPc.skip ?_ | refine WPc.region ?_
     | (refine isCond ?_; first | refine WPc.cT ?_ | refine WPc.cF ?_ | (refine WPc.cQ (fun hc => ?_) (fun hc => ?_) <;> try exact prA))
     | (refine isCl ?_; refine WPl.cR2 (hk) fun v hv => ?_)
     | (refine isCl ?_; refine WPl.cV (hid) ?_)
     | (refine isOp ?_; first | refine WPl.rd ?_ | refine WPl.sk ?_ | refine WPl.rdB ?_)
     | (refine isBx ?_; refine WPl.nw fun g => ?_)
     | (refine WPl.spQ (fun hc => ?_) (fun hc => ?_) <;> try exact prA)
     | fail)
    all_goals try (first | exact WPq.dV | exact WPq.dR | exact WPq.dR2 | exact WPq.dH | exact WPq.dBH | exact WPq.dT)
  | true =>
    rw [ho] at hk
    refine Triple.enter Try.func31 rfl Try.ntmps31 rfl (fun W => ?_)
    dsimp only [argsF, Nat.reduceAdd]
    repeat' (first
     | refine WPl.nil ?_ | refine WPq.then ?_ | refine WPq.thenR ?_ | refine WPq.thenE ?_ | refine WPq.blockN ?_ | refine WPq.blockR ?_ | refine WPq.blockE ?_ | refine WPq.blockO rfl ?_ | refine WPc.seq ?_ | refine WPc.block ?_ | refine WPc.ret ?_ | refine WPc.exit ?_ | refine WPc.skip ?_ | refine WPc.region ?_
     | (refine isCond ?_; first | refine WPc.cT ?_ | refine WPc.cF ?_ | (refine WPc.cQ (fun hc => ?_) (fun hc => ?_) <;> try exact prA))
     | (refine isCl ?_; refine WPl.cR2 (hk) fun v hv => ?_)
     | (refine isCl ?_; refine WPl.cV (hid) ?_)
     | (refine isOp ?_; first | refine WPl.rd ?_ | refine WPl.sk ?_ | refine WPl.rdB ?_)
     | (refine isBx ?_; refine WPl.nw fun g => ?_)
     | (refine WPl.spQ (fun hc => ?_) (fun hc => ?_) <;> try exact prA)
     | fail)
    exact WPq.dV (hc := by simp [resV])
def fromL (s : Int) : List UInt8 := if idB s then be s.toNat 2 else []
def toL (s : Int) : List UInt8 := if idB s && decide (s < 65535) then be (s.toNat + 1) 2 else []
/-- Two results of one's own. -/
def RRows (l k : List UInt8) : Value → List Asn → Prop := fun v Γ => ∃ s t, v = .tuple #[s, t] ∧ s.oneCell' = true ∧ t.oneCell' = true ∧ Γ = [ob s l, ob t k]
theorem WPq.dRR {P : Program} {n : Nat} {W : World} {S : Nat → Prop} {Γ : List Asn} {F : List (Nat × Value)} {fn : Func} {rs : List ResultVar} {v u : Value} {l k : List UInt8} {Γx : List Asn} {ex : Exit} (he : ex = .ret ∨ ex = .normal := by first | exact .inl rfl | exact .inr rfl | fail) (hr : fn.results = rs.toArray := by first | rfl | fail) (h : ResF P Γ F rs [v, u] := by first | exact resA | fail) (hp : Takes Γ [ob v l, ob u k] Γx := by first | exact takesA | fail) (h1 : v.oneCell' = true := by first | assumption | rfl | fail) (h2 : u.oneCell' = true := by first | assumption | rfl | fail) : WPq n W S Γ F (Done P fn W S (RRows l k)) ex :=
  WPq.doneX he hr h hp ⟨v, u, rfl, h1, h2, rfl⟩ (fun A hA => by rcases List.mem_cons.1 hA with rfl | hA; exact rowN_own; rw [List.mem_singleton.1 hA]; exact rowN_own)
theorem WPl.cRR {P : Program} {n : Nat} {W : World} {S : Nat → Prop} {Γ : List Asn} {F : List (Nat × Value)} {Q : Exit → Act → World → Prop} {ops : Array Oper} {os : List Oper} {d : Tmp} {f : FuncId} {xs : List Operand} {ts : Array TypeId} {ty : TypeId} {pos : String} {af : Array Edge} {gd : Option (Nat × Bool)} {vs : List Value} {Δ : List Asn} {l k : List UInt8}
    (h : Triple P f vs.toArray Δ (RRows l k)) (kk : ∀ s, s.oneCell' = true → ∀ t, t.oneCell' = true → WPl P n W S (ob s l :: ob t k :: Γ) ((d, .tuple #[s, t]) :: F) ops os Q) (hx : evFs F xs vs := by first | exact evsA | fail) (hΔ : Provs Γ Δ := by first | exact provsA | fail) (hc : isCode P f = true := by first | kernel_rfl | fail) (hd : Nat.blt d n = true := by first | rfl | fail) (hw : wantG F ops gd = some true := by first | rfl | fail) :
    WPl P n W S Γ F ops (⟨some d, .call { callee := .value (.func f), args := xs.toArray, argTypes := ts }, ty, pos, af, gd⟩ :: os) Q :=
  WPl.call h hx hΔ hc hd hw (by rintro v Γ' ⟨s, t, rfl, h1, h2, rfl⟩; exact kk s h1 t h2)
theorem span_t (s : Int) : Triple Try.prog 23 #[.int .i64 s] [] (RRows (fromL s) (toL s)) := by
  have hid := tid_t s
  cases hb : idB s with
  | false =>
    rw [hb] at hid
    rw [show fromL s = [] by simp [fromL, hb], show toL s = [] by simp [toL, hb]]
    refine Triple.enter Try.func23 rfl Try.ntmps23 rfl (fun W => ?_)
    dsimp only [argsF, Nat.reduceAdd]
    refine WPc.nilRow 5 (WPc.nilRow 5 ?_)
    repeat' (first
     | refine WPl.nil ?_ | refine WPq.then ?_ | refine WPq.thenR ?_ | refine WPq.thenE ?_ | refine WPq.blockN ?_ | refine WPq.blockR ?_ | refine WPq.blockE ?_ | refine WPq.blockO rfl ?_ | refine WPc.seq ?_ | refine WPc.block ?_ | refine WPc.ret ?_ | refine WPc.exit ?_ | refine WPc.skip ?_ | refine WPc.region ?_
     | (refine isCond ?_; first | refine WPc.cT ?_ | refine WPc.cF ?_ | (refine WPc.cQ (fun hc => ?_) (fun hc => ?_) <;> try exact prA))
     | (refine isCl ?_; refine WPl.cV (hid) ?_)
     | (refine isOp ?_; first | refine WPl.rd ?_ | refine WPl.sk ?_ | refine WPl.rdB ?_)
     | (refine WPl.spQ (fun hc => ?_) (fun hc => ?_) <;> try exact prA)
     | fail)
    exact WPq.dRR
  | true =>
    rw [hb] at hid
    obtain ⟨m, rfl, hm⟩ := idB_nat hb
    rw [show fromL m = [] ++ be m 2 by simp [fromL, hb]]
    by_cases hl : m < 65535
    · rw [show toL m = [] ++ be (m + 1) 2 by simp [toL, hb]; omega]
      refine Triple.enter Try.func23 rfl Try.ntmps23 rfl (fun W => ?_)
      dsimp only [argsF, Nat.reduceAdd]
      repeat' (first
       | refine WPl.nil ?_ | refine WPq.then ?_ | refine WPq.thenR ?_ | refine WPq.thenE ?_ | refine WPq.blockN ?_ | refine WPq.blockR ?_ | refine WPq.blockE ?_ | refine WPq.blockO rfl ?_ | refine WPc.seq ?_ | refine WPc.block ?_ | refine WPc.ret ?_ | refine WPc.exit ?_ | refine WPc.skip ?_ | refine WPc.region ?_
       | (refine isCond ?_; first | refine WPc.cT ?_ | refine WPc.cF ?_ | (refine WPc.cQ (fun hc => ?_) (fun hc => ?_) <;> try exact prA))
       | (refine isCl ?_; refine WPl.cV (hid) ?_)
       | (refine isCl ?_; refine WPl.cR (put_t _ [] m 2 (by simp) (by omega) (by omega) (by omega)) fun v hv => ?_)
       | (refine isCl ?_; refine WPl.cR (put_t _ [] (m + 1) 2 (by simp) (by omega) (by omega) (by omega)) fun v hv => ?_)
       | (refine isOp ?_; first | refine WPl.rd ?_ | refine WPl.sk ?_ | refine WPl.rdB ?_)
       | (refine WPl.spQ (fun hc => ?_) (fun hc => ?_) <;> try exact prA)
       | fail)
      exact WPq.dRR
    · rw [show toL m = [] by simp [toL, hb]; omega]
      refine Triple.enter Try.func23 rfl Try.ntmps23 rfl (fun W => ?_)
      dsimp only [argsF, Nat.reduceAdd]
      refine WPc.nilRow 5 ?_
      repeat' (first
       | refine WPl.nil ?_ | refine WPq.then ?_ | refine WPq.thenR ?_ | refine WPq.thenE ?_ | refine WPq.blockN ?_ | refine WPq.blockR ?_ | refine WPq.blockE ?_ | refine WPq.blockO rfl ?_ | refine WPc.seq ?_ | refine WPc.block ?_ | refine WPc.ret ?_ | refine WPc.exit ?_ | refine WPc.skip ?_ | refine WPc.region ?_
       | (refine isCond ?_; first | refine WPc.cT ?_ | refine WPc.cF ?_ | (refine WPc.cQ (fun hc => ?_) (fun hc => ?_) <;> try exact prA))
       | (refine isCl ?_; refine WPl.cV (hid) ?_)
       | (refine isCl ?_; refine WPl.cR (put_t _ [] m 2 (by simp) (by omega) (by omega) (by omega)) fun v hv => ?_)
       | (refine isOp ?_; first | refine WPl.rd ?_ | refine WPl.sk ?_ | refine WPl.rdB ?_)
       | (refine WPl.spQ (fun hc => ?_) (fun hc => ?_) <;> try exact prA)
       | fail)
      exact WPq.dRR
theorem equal_t (v u : Value) (l k : List UInt8) : Triple Try.prog 66 #[v, u] [rb v l, rb u k] (RVal (.bool (decide (l = k)))) := by
  refine Triple.enter Try.func66 rfl Try.ntmps66 rfl (fun W => ?_)
  dsimp only [argsF, Nat.reduceAdd]
  repeat' (first
   | refine WPl.nil ?_ | refine WPq.then ?_ | refine WPq.thenR ?_ | refine WPq.thenE ?_ | refine WPq.blockN ?_ | refine WPq.blockR ?_ | refine WPq.blockE ?_ | refine WPq.blockO rfl ?_ | refine WPc.seq ?_ | refine WPc.block ?_ | refine WPc.ret ?_ | refine WPc.exit ?_ | refine WPc.skip ?_ | refine WPc.region ?_
   | (refine isCond ?_; first | refine WPc.cT ?_ | refine WPc.cF ?_ | (refine WPc.cQ (fun hc => ?_) (fun hc => ?_) <;> try exact prA))
   | (refine isOp ?_; first | refine WPl.rd ?_ | refine WPl.sk ?_ | refine WPl.rdB ?_)
   | (refine WPl.spQ (fun hc => ?_) (fun hc => ?_) <;> try exact prA)
   | fail)
  all_goals try (first | exact WPq.dV | exact WPq.dR | exact WPq.dR2 | exact WPq.dH | exact WPq.dBH | exact WPq.dT)
end Go.Proofs.Yteofjhjhaaafjaa
