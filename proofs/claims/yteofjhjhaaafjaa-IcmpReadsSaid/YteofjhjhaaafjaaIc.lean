/- Layer 36 (icmp): heads and messages, read: contracts. -/
import Derived.Test.YteofjhjhaaafjaaPk
namespace Go.Proofs.Yteofjhjhaaafjaa
open Go.RowKit
set_option linter.unusedSimpArgs false
set_option linter.unusedVariables false
set_option maxRecDepth 20000
set_option maxHeartbeats 400000
attribute [local irreducible] WPc WPl WPq ReadR OpT BinR HasS bx rdN rowN Take Takes Prov Triple ResF BuildP Done ag Int.decLt Int.decLe Int.instDecidableEq

/-- A field of a struct that is a value. -/
def fieldD (P : Program) (T : TypeId) (k : Nat) : Option (Nat × Option Bool) := match P.underlying T with | some (.struct fs) => (fs[k]?).map fun f => (f.offset, (P.underlying f.type).map aggB) | _ => none
theorem ReadR.fieldN {P : Program} {n : Nat} {Γ : List Asn} {F : List (Nat × Value)} {d : Option Tmp} {ty : TypeId} {pos : String} {af : Array Edge} {gd : Option (Nat × Bool)} {T : TypeId} {k off : Nat} {x : Operand} {cs : Ch} {v : Value}
    (hx : evF F x = some (ag cs)) (hd : fieldD P T k = some (off, some false)) (hv : (flat cs)[off]? = some v) : ReadR P n Γ F ⟨d, .field T x k, ty, pos, af, gd⟩ v := by
  unfold ReadR
  intro ρ w hf hw
  unfold fieldD at hd
  cases hu : P.underlying T with
  | none => rw [hu] at hd; cases hd
  | some dd =>
    rw [hu] at hd
    cases dd with
    | struct fs =>
      simp only at hd
      cases hk : fs[k]? with
      | none => rw [hk] at hd; cases hd
      | some f =>
        rw [hk] at hd
        simp only [Option.map_some, Option.some.injEq, Prod.mk.injEq] at hd
        obtain ⟨rfl, h2⟩ := hd
        cases hf2 : P.underlying f.type with
        | none => rw [hf2] at h2; cases h2
        | some d2 =>
          rw [hf2] at h2
          simp only [Option.map_some, Option.some.injEq] at h2
          have h3 : (flat cs).toArray[f.offset]? = some v := by simpa using hv
          have hp : (part f.type (flat cs).toArray f.offset).run P w = .ok v w := by
            unfold part
            rw [Sem.run_bind, run_isAggT hf2, Result.andThen_ok, h2]
            simp only [Bool.false_eq_true, if_false, h3]
            rfl
          have he := hf.eval hx
          unfold ag at he
          simp [execOp, he, Instr.field, run_underlying hu, hk, Sem.run_bind, asAgg, hp]
    | _ => cases hd
theorem subv_one {sz : Nat} {v : Value} {k n : Nat} (h : v.oneCell' = true) : (subv sz v k n).oneCell' = true := by
  unfold subv
  split
  · rfl
  · exact h
def ihE (b : List UInt8) : Int := if phE b = 0 then (if (phH b).part then 13 else 0) else phE b
attribute [local irreducible] xread xerr fread ferr psu
theorem ihead_t (v : Value) (b : List UInt8) (hl : b.length ≤ 100000) : Triple Try.prog 120 #[v] [rb v b] (RVal (.tuple #[ag (hdc (phH b)), .int .i64 (ihE b)])) := by
  have hb0 := byteN_lt b 0
  have u0 : byteN b 0 = (b.getD 0 0).toNat := rfl
  have c4 := fread_t v b (by omega)
  have c6 := xread_t v b hl
  by_cases h0 : b.length = 0
  · rw [show phH b = Hd.none by unfold phH; rw [if_pos h0], show ihE b = 9 by unfold ihE phE; rw [if_pos h0, if_neg (by omega)]]
    refine Triple.enter Try.func120 rfl Try.ntmps120 rfl (fun W => ?_)
    dsimp only [argsF, Nat.reduceAdd]
    repeat' (first
     | refine WPl.nil ?_ | refine WPq.then ?_ | refine WPq.thenR ?_ | refine WPq.thenE ?_ | refine WPq.blockN ?_ | refine WPq.blockR ?_ | refine WPq.blockE ?_ | refine WPq.blockO rfl ?_ | refine WPc.seq ?_ | refine WPc.block ?_ | refine WPc.ret ?_ | refine WPc.exit ?_ | refine WPc.skip ?_ | refine WPc.region ?_
     | (refine isCond ?_; first | refine WPc.cT ?_ | refine WPc.cF ?_ | (refine WPc.cQ (fun hc => ?_) (fun hc => ?_) <;> try exact prA))
     | (refine isOp ?_; first | refine WPl.rd ?_ | refine WPl.sk ?_ | refine WPl.rdB ?_)
     | (refine isAl ?_; refine WPl.nw fun g => ?_)
     | (refine isSt ?_; first | refine WPl.st1 ?_ | refine WPl.stA ?_ | refine WPl.stEB ?_ | refine WPl.stRB ?_)
     | (refine WPl.spQ (fun hc => ?_) (fun hc => ?_) <;> try exact prA)
     | fail)
    all_goals try (first | exact WPq.dV | exact WPq.dR | exact WPq.dR2 | exact WPq.dH | exact WPq.dBH | exact WPq.dT)
  · by_cases h4 : byteN b 0 / 16 = 4
    · have hE : ihE b = if ferr b = 0 then (if (fread b).part then 13 else 0) else ferr b := by unfold ihE phE phH; rw [if_neg h0, if_pos h4, if_neg h0, if_pos h4]
      rw [show phH b = fread b by unfold phH; rw [if_neg h0, if_pos h4], hE]
      clear hE c6
      obtain ⟨X, hX⟩ : ∃ X, X = fread b := ⟨_, rfl⟩
      obtain ⟨c, hc⟩ : ∃ c, c = ferr b := ⟨_, rfl⟩
      simp only [fVal] at c4
      rw [← hX, ← hc] at c4 ⊢
      clear hX hc
      have k1 := X.src.len
      have k2 := X.dst.len
      obtain ⟨six, pr, pos, a1, a2, pt, hp⟩ := X
      by_cases hc0 : c = 0
      · subst hc0
        cases pt with
        | true =>
          rw [if_pos rfl, if_pos rfl]
          refine Triple.enter Try.func120 rfl Try.ntmps120 rfl (fun W => ?_)
          dsimp only [argsF, Nat.reduceAdd]
          repeat' (first
           | refine WPl.nil ?_ | refine WPq.then ?_ | refine WPq.thenR ?_ | refine WPq.thenE ?_ | refine WPq.blockN ?_ | refine WPq.blockR ?_ | refine WPq.blockE ?_ | refine WPq.blockO rfl ?_ | refine WPc.seq ?_ | refine WPc.block ?_ | refine WPc.ret ?_ | refine WPc.exit ?_ | refine WPc.skip ?_ | refine WPc.region ?_
           | (refine isCond ?_; first | refine WPc.cT ?_ | refine WPc.cF ?_ | (refine WPc.cQ (fun hc => ?_) (fun hc => ?_) <;> try exact prA))
           | (refine isC 18 ?_; refine WPl.cV (c4) ?_)
           | (refine isOp ?_; first | refine WPl.rd ?_ | refine WPl.sk ?_ | refine WPl.rdB ?_)
           | (refine isAl ?_; refine WPl.nw fun g => ?_)
           | (refine isSt ?_; first | refine WPl.st1 ?_ | refine WPl.stA ?_ | refine WPl.stEB ?_ | refine WPl.stRB ?_)
           | (refine WPl.spQ (fun hc => ?_) (fun hc => ?_) <;> try exact prA)
           | fail)
          all_goals try (first | exact WPq.dV | exact WPq.dR | exact WPq.dR2 | exact WPq.dH | exact WPq.dBH | exact WPq.dT)
        | false =>
          rw [if_pos rfl, if_neg (by simp)]
          refine Triple.enter Try.func120 rfl Try.ntmps120 rfl (fun W => ?_)
          dsimp only [argsF, Nat.reduceAdd]
          repeat' (first
           | refine WPl.nil ?_ | refine WPq.then ?_ | refine WPq.thenR ?_ | refine WPq.thenE ?_ | refine WPq.blockN ?_ | refine WPq.blockR ?_ | refine WPq.blockE ?_ | refine WPq.blockO rfl ?_ | refine WPc.seq ?_ | refine WPc.block ?_ | refine WPc.ret ?_ | refine WPc.exit ?_ | refine WPc.skip ?_ | refine WPc.region ?_
           | (refine isCond ?_; first | refine WPc.cT ?_ | refine WPc.cF ?_ | (refine WPc.cQ (fun hc => ?_) (fun hc => ?_) <;> try exact prA))
           | (refine isC 18 ?_; refine WPl.cV (c4) ?_)
           | (refine isOp ?_; first | refine WPl.rd ?_ | refine WPl.sk ?_ | refine WPl.rdB ?_)
           | (refine isAl ?_; refine WPl.nw fun g => ?_)
           | (refine isSt ?_; first | refine WPl.st1 ?_ | refine WPl.stA ?_ | refine WPl.stEB ?_ | refine WPl.stRB ?_)
           | (refine WPl.spQ (fun hc => ?_) (fun hc => ?_) <;> try exact prA)
           | fail)
          all_goals try (first | exact WPq.dV | exact WPq.dR | exact WPq.dR2 | exact WPq.dH | exact WPq.dBH | exact WPq.dT)
      · rw [if_neg hc0]
        refine Triple.enter Try.func120 rfl Try.ntmps120 rfl (fun W => ?_)
        dsimp only [argsF, Nat.reduceAdd]
        repeat' (first
         | refine WPl.nil ?_ | refine WPq.then ?_ | refine WPq.thenR ?_ | refine WPq.thenE ?_ | refine WPq.blockN ?_ | refine WPq.blockR ?_ | refine WPq.blockE ?_ | refine WPq.blockO rfl ?_ | refine WPc.seq ?_ | refine WPc.block ?_ | refine WPc.ret ?_ | refine WPc.exit ?_ | refine WPc.skip ?_ | refine WPc.region ?_
         | (refine isCond ?_; first | refine WPc.cT ?_ | refine WPc.cF ?_ | (refine WPc.cQ (fun hc => ?_) (fun hc => ?_) <;> try exact prA))
         | (refine isC 18 ?_; refine WPl.cV (c4) ?_)
         | (refine isOp ?_; first | refine WPl.rd ?_ | refine WPl.sk ?_ | refine WPl.rdB ?_)
         | (refine isAl ?_; refine WPl.nw fun g => ?_)
         | (refine isSt ?_; first | refine WPl.st1 ?_ | refine WPl.stA ?_ | refine WPl.stEB ?_ | refine WPl.stRB ?_)
         | (refine WPl.spQ (fun hc => ?_) (fun hc => ?_) <;> try exact prA)
         | fail)
        all_goals try (first | exact WPq.dV | exact WPq.dR | exact WPq.dR2 | exact WPq.dH | exact WPq.dBH | exact WPq.dT)
    · by_cases h6 : byteN b 0 / 16 = 6
      · have hE : ihE b = if xerr b = 0 then (if (xread b).part then 13 else 0) else xerr b := by unfold ihE phE phH; rw [if_neg h0, if_neg h4, if_pos h6, if_neg h0, if_neg h4, if_pos h6]
        rw [show phH b = xread b by unfold phH; rw [if_neg h0, if_neg h4, if_pos h6], hE]
        clear hE c4
        obtain ⟨X, hX⟩ : ∃ X, X = xread b := ⟨_, rfl⟩
        obtain ⟨c, hc⟩ : ∃ c, c = xerr b := ⟨_, rfl⟩
        simp only [sVal] at c6
        rw [← hX, ← hc] at c6 ⊢
        clear hX hc
        have k1 := X.src.len
        have k2 := X.dst.len
        obtain ⟨six, pr, pos, a1, a2, pt, hp⟩ := X
        by_cases hc0 : c = 0
        · subst hc0
          cases pt with
          | true =>
            rw [if_pos rfl, if_pos rfl]
            refine Triple.enter Try.func120 rfl Try.ntmps120 rfl (fun W => ?_)
            dsimp only [argsF, Nat.reduceAdd]
            repeat' (first
             | refine WPl.nil ?_ | refine WPq.then ?_ | refine WPq.thenR ?_ | refine WPq.thenE ?_ | refine WPq.blockN ?_ | refine WPq.blockR ?_ | refine WPq.blockE ?_ | refine WPq.blockO rfl ?_ | refine WPc.seq ?_ | refine WPc.block ?_ | refine WPc.ret ?_ | refine WPc.exit ?_ | refine WPc.skip ?_ | refine WPc.region ?_
             | (refine isCond ?_; first | refine WPc.cT ?_ | refine WPc.cF ?_ | (refine WPc.cQ (fun hc => ?_) (fun hc => ?_) <;> try exact prA))
             | (refine isC 29 ?_; refine WPl.cV (c6) ?_)
             | (refine isOp ?_; first | refine WPl.rd ?_ | refine WPl.sk ?_ | refine WPl.rdB ?_)
             | (refine isAl ?_; refine WPl.nw fun g => ?_)
             | (refine isSt ?_; first | refine WPl.st1 ?_ | refine WPl.stA ?_ | refine WPl.stEB ?_ | refine WPl.stRB ?_)
             | (refine WPl.spQ (fun hc => ?_) (fun hc => ?_) <;> try exact prA)
             | fail)
            all_goals try (first | exact WPq.dV | exact WPq.dR | exact WPq.dR2 | exact WPq.dH | exact WPq.dBH | exact WPq.dT)
          | false =>
            rw [if_pos rfl, if_neg (by simp)]
            refine Triple.enter Try.func120 rfl Try.ntmps120 rfl (fun W => ?_)
            dsimp only [argsF, Nat.reduceAdd]
            repeat' (first
             | refine WPl.nil ?_ | refine WPq.then ?_ | refine WPq.thenR ?_ | refine WPq.thenE ?_ | refine WPq.blockN ?_ | refine WPq.blockR ?_ | refine WPq.blockE ?_ | refine WPq.blockO rfl ?_ | refine WPc.seq ?_ | refine WPc.block ?_ | refine WPc.ret ?_ | refine WPc.exit ?_ | refine WPc.skip ?_ | refine WPc.region ?_
             | (refine isCond ?_; first | refine WPc.cT ?_ | refine WPc.cF ?_ | (refine WPc.cQ (fun hc => ?_) (fun hc => ?_) <;> try exact prA))
             | (refine isC 29 ?_; refine WPl.cV (c6) ?_)
             | (refine isOp ?_; first | refine WPl.rd ?_ | refine WPl.sk ?_ | refine WPl.rdB ?_)
             | (refine isAl ?_; refine WPl.nw fun g => ?_)
             | (refine isSt ?_; first | refine WPl.st1 ?_ | refine WPl.stA ?_ | refine WPl.stEB ?_ | refine WPl.stRB ?_)
             | (refine WPl.spQ (fun hc => ?_) (fun hc => ?_) <;> try exact prA)
             | fail)
            all_goals try (first | exact WPq.dV | exact WPq.dR | exact WPq.dR2 | exact WPq.dH | exact WPq.dBH | exact WPq.dT)
        · rw [if_neg hc0]
          refine Triple.enter Try.func120 rfl Try.ntmps120 rfl (fun W => ?_)
          dsimp only [argsF, Nat.reduceAdd]
          repeat' (first
           | refine WPl.nil ?_ | refine WPq.then ?_ | refine WPq.thenR ?_ | refine WPq.thenE ?_ | refine WPq.blockN ?_ | refine WPq.blockR ?_ | refine WPq.blockE ?_ | refine WPq.blockO rfl ?_ | refine WPc.seq ?_ | refine WPc.block ?_ | refine WPc.ret ?_ | refine WPc.exit ?_ | refine WPc.skip ?_ | refine WPc.region ?_
           | (refine isCond ?_; first | refine WPc.cT ?_ | refine WPc.cF ?_ | (refine WPc.cQ (fun hc => ?_) (fun hc => ?_) <;> try exact prA))
           | (refine isC 29 ?_; refine WPl.cV (c6) ?_)
           | (refine isOp ?_; first | refine WPl.rd ?_ | refine WPl.sk ?_ | refine WPl.rdB ?_)
           | (refine isAl ?_; refine WPl.nw fun g => ?_)
           | (refine isSt ?_; first | refine WPl.st1 ?_ | refine WPl.stA ?_ | refine WPl.stEB ?_ | refine WPl.stRB ?_)
           | (refine WPl.spQ (fun hc => ?_) (fun hc => ?_) <;> try exact prA)
           | fail)
          all_goals try (first | exact WPq.dV | exact WPq.dR | exact WPq.dR2 | exact WPq.dH | exact WPq.dBH | exact WPq.dT)
      · rw [show phH b = Hd.none by unfold phH; rw [if_neg h0, if_neg h4, if_neg h6], show ihE b = 12 by unfold ihE phE; rw [if_neg h0, if_neg h4, if_neg h6, if_neg (by omega)]]
        refine Triple.enter Try.func120 rfl Try.ntmps120 rfl (fun W => ?_)
        dsimp only [argsF, Nat.reduceAdd]
        repeat' (first
         | refine WPl.nil ?_ | refine WPq.then ?_ | refine WPq.thenR ?_ | refine WPq.thenE ?_ | refine WPq.blockN ?_ | refine WPq.blockR ?_ | refine WPq.blockE ?_ | refine WPq.blockO rfl ?_ | refine WPc.seq ?_ | refine WPc.block ?_ | refine WPc.ret ?_ | refine WPc.exit ?_ | refine WPc.skip ?_ | refine WPc.region ?_
         | (refine isCond ?_; first | refine WPc.cT ?_ | refine WPc.cF ?_ | (refine WPc.cQ (fun hc => ?_) (fun hc => ?_) <;> try exact prA))
         | (refine isOp ?_; first | refine WPl.rd ?_ | refine WPl.sk ?_ | refine WPl.rdB ?_)
         | (refine isAl ?_; refine WPl.nw fun g => ?_)
         | (refine isSt ?_; first | refine WPl.st1 ?_ | refine WPl.stA ?_ | refine WPl.stEB ?_ | refine WPl.stRB ?_)
         | (refine WPl.spQ (fun hc => ?_) (fun hc => ?_) <;> try exact prA)
         | fail)
        all_goals try (first | exact WPq.dV | exact WPq.dR | exact WPq.dR2 | exact WPq.dH | exact WPq.dBH | exact WPq.dT)
abbrev wdc (s : Bool) : Ch := if s then [(1, [.int .u8 58]), (1, [.int .u8 1]), (1, [.int .u8 128]), (1, [.int .u8 129])] else [(1, [.int .u8 1]), (1, [.int .u8 3]), (1, [.int .u8 8]), (1, [.int .u8 0])]
theorem ow6_t : Triple Try.prog 121 #[.bool true] [] (RVal (ag [(1, [.int .u8 58]), (1, [.int .u8 1]), (1, [.int .u8 128]), (1, [.int .u8 129])])) := by
  refine Triple.enter Try.func121 rfl Try.ntmps121 rfl (fun W => ?_)
  dsimp only [argsF, Nat.reduceAdd]
  repeat' (first
   | refine WPl.nil ?_ | refine WPq.then ?_ | refine WPq.thenR ?_ | refine WPq.thenE ?_ | refine WPq.blockN ?_ | refine WPq.blockR ?_ | refine WPq.blockE ?_ | refine WPq.blockO rfl ?_ | refine WPc.seq ?_ | refine WPc.block ?_ | refine WPc.ret ?_ | refine WPc.exit ?_ | refine WPc.skip ?_ | refine WPc.region ?_
   | (refine isCond ?_; first | refine WPc.cT ?_ | refine WPc.cF ?_ | (refine WPc.cQ (fun hc => ?_) (fun hc => ?_) <;> try exact prA))
   | (refine isOp ?_; first | refine WPl.rd ?_ | refine WPl.sk ?_ | refine WPl.rdB ?_)
   | (refine isAl ?_; refine WPl.nw fun g => ?_)
   | (refine isSt ?_; first | refine WPl.st1 ?_ | refine WPl.stA ?_ | refine WPl.stEB ?_ | refine WPl.stRB ?_)
   | (refine WPl.spQ (fun hc => ?_) (fun hc => ?_) <;> try exact prA)
   | fail)
  all_goals try (first | exact WPq.dV | exact WPq.dR | exact WPq.dR2 | exact WPq.dH | exact WPq.dBH | exact WPq.dT)
theorem ow4_t : Triple Try.prog 121 #[.bool false] [] (RVal (ag [(1, [.int .u8 1]), (1, [.int .u8 3]), (1, [.int .u8 8]), (1, [.int .u8 0])])) := by
  refine Triple.enter Try.func121 rfl Try.ntmps121 rfl (fun W => ?_)
  dsimp only [argsF, Nat.reduceAdd]
  repeat' (first
   | refine WPl.nil ?_ | refine WPq.then ?_ | refine WPq.thenR ?_ | refine WPq.thenE ?_ | refine WPq.blockN ?_ | refine WPq.blockR ?_ | refine WPq.blockE ?_ | refine WPq.blockO rfl ?_ | refine WPc.seq ?_ | refine WPc.block ?_ | refine WPc.ret ?_ | refine WPc.exit ?_ | refine WPc.skip ?_ | refine WPc.region ?_
   | (refine isCond ?_; first | refine WPc.cT ?_ | refine WPc.cF ?_ | (refine WPc.cQ (fun hc => ?_) (fun hc => ?_) <;> try exact prA))
   | (refine isOp ?_; first | refine WPl.rd ?_ | refine WPl.sk ?_ | refine WPl.rdB ?_)
   | (refine isAl ?_; refine WPl.nw fun g => ?_)
   | (refine isSt ?_; first | refine WPl.st1 ?_ | refine WPl.stA ?_ | refine WPl.stEB ?_ | refine WPl.stRB ?_)
   | (refine WPl.spQ (fun hc => ?_) (fun hc => ?_) <;> try exact prA)
   | fail)
  all_goals try (first | exact WPq.dV | exact WPq.dR | exact WPq.dR2 | exact WPq.dH | exact WPq.dBH | exact WPq.dT)
theorem ahead6_t (h : Hd) (hs : h.six = true) (k : Int) (n : Nat) (hkw : IntKind.u64.wrap k = (n : Int)) (hn : n < 18446744073709551616) : Triple Try.prog 128 #[ag (hdc h), .int .i64 k] [] (ROb (psu h n)) := by
  have l1 := h.src.len
  have l2 := h.dst.len
  refine Triple.enter Try.func128 rfl Try.ntmps128 rfl (fun W => ?_)
  dsimp only [argsF, Nat.reduceAdd]
  repeat' (first
   | refine WPl.nil ?_ | refine WPq.then ?_ | refine WPq.thenR ?_ | refine WPq.thenE ?_ | refine WPq.blockN ?_ | refine WPq.blockR ?_ | refine WPq.blockE ?_ | refine WPq.blockO rfl ?_ | refine WPc.seq ?_ | refine WPc.block ?_ | refine WPc.ret ?_ | refine WPc.exit ?_ | refine WPc.skip ?_ | refine WPc.region ?_
   | (refine isCond ?_; first | refine WPc.cT ?_ | refine WPc.cF ?_ | (refine WPc.cQ (fun hc => ?_) (fun hc => ?_) <;> try exact prA))
   | (refine isC 9 ?_; refine WPl.cR (Pseudo_t h k n hkw hn) fun v hv => ?_)
   | (refine isOp ?_; first | refine WPl.rd ?_ | refine WPl.sk ?_ | refine WPl.rdB ?_)
   | (refine isBx ?_; refine WPl.nw fun g => ?_)
   | (refine WPl.spQ (fun hc => ?_) (fun hc => ?_) <;> try exact prA)
   | fail)
  all_goals try (first | exact WPq.dV | exact WPq.dR | exact WPq.dR2 | exact WPq.dH | exact WPq.dBH | exact WPq.dT)
theorem ahead4_t (h : Hd) (hs : h.six = false) (k : Int) : Triple Try.prog 128 #[ag (hdc h), .int .i64 k] [] (RVal (.slice none 0 0)) := by
  have l1 := h.src.len
  have l2 := h.dst.len
  refine Triple.enter Try.func128 rfl Try.ntmps128 rfl (fun W => ?_)
  dsimp only [argsF, Nat.reduceAdd]
  repeat' (first
   | refine WPl.nil ?_ | refine WPq.then ?_ | refine WPq.thenR ?_ | refine WPq.thenE ?_ | refine WPq.blockN ?_ | refine WPq.blockR ?_ | refine WPq.blockE ?_ | refine WPq.blockO rfl ?_ | refine WPc.seq ?_ | refine WPc.block ?_ | refine WPc.ret ?_ | refine WPc.exit ?_ | refine WPc.skip ?_ | refine WPc.region ?_
   | (refine isCond ?_; first | refine WPc.cT ?_ | refine WPc.cF ?_ | (refine WPc.cQ (fun hc => ?_) (fun hc => ?_) <;> try exact prA))
   | (refine isOp ?_; first | refine WPl.rd ?_ | refine WPl.sk ?_ | refine WPl.rdB ?_)
   | (refine isBx ?_; refine WPl.nw fun g => ?_)
   | (refine WPl.spQ (fun hc => ?_) (fun hc => ?_) <;> try exact prA)
   | fail)
  all_goals try (first | exact WPq.dV | exact WPq.dR | exact WPq.dR2 | exact WPq.dH | exact WPq.dBH | exact WPq.dT)
/-- What is wrong with a message; the message. -/
def imM (b : List UInt8) : List UInt8 := seg b (phH b).pos.toNat (b.length - (phH b).pos.toNat)
def imP (h : Hd) (m : List UInt8) : List UInt8 := (if h.six then psu h m.length else []) ++ m
def imE (h : Hd) (m : List UInt8) : Int := if h.proto.toNat ≠ (if h.six then 58 else 1) then 6 else if m.length < 4 then 9 else if csum (imP h m) ≠ 0 then 5 else 0
def irE (b : List UInt8) : Int := if ihE b = 0 then imE (phH b) (imM b) else ihE b
theorem ihE_pos {b : List UInt8} (h : ihE b = 0) : 0 ≤ (phH b).pos ∧ (phH b).pos ≤ b.length := by
  apply phE_pos
  apply Classical.byContradiction
  intro hh
  unfold ihE at h
  rw [if_neg hh] at h
  exact hh h
theorem imE_cases (h : Hd) (m : List UInt8) : (h.six = true ∨ h.six = false) := by cases h.six <;> simp
attribute [local irreducible] phH phE ihE
theorem iread_t (vb : Value) (b : List UInt8) (hl : b.length ≤ 100000) : Triple Try.prog 113 #[vb] [rb vb b] (RVal (.tuple #[ag (hdc (phH b)), (if irE b = 0 then subv 1 vb (phH b).pos.toNat (b.length - (phH b).pos.toNat) else .slice none 0 0), .int .i64 (irE b)])) := by
  have c1 := ihead_t vb b hl
  by_cases he : ihE b = 0
  · obtain ⟨p1, p2⟩ := ihE_pos he
    have hE : irE b = imE (phH b) (imM b) := by unfold irE; rw [if_pos he]
    obtain ⟨k, hk⟩ : ∃ k : Nat, (phH b).pos = (k : Int) := ⟨(phH b).pos.toNat, by omega⟩
    have hM : imM b = seg b k (b.length - k) := by unfold imM; rw [hk]; rfl
    rw [hE, hM]
    rw [he] at c1
    clear he hE hM
    obtain ⟨X, hX⟩ : ∃ X, X = phH b := ⟨_, rfl⟩
    rw [← hX] at c1 hk p1 p2 ⊢
    clear hX
    obtain ⟨six, pr, pos, a1, a2, pt, hp⟩ := X
    dsimp only at hk p1 p2 ⊢
    subst hk
    have k1 := a1.len
    have k2 := a2.len
    have hkb : k ≤ b.length := by omega
    have hkn : ((k : Int)).toNat = k := rfl
    rw [hkn]
    have hml : (seg b k (b.length - k)).length = b.length - k := by rw [seg_len]; omega
    have hw := wrapLen (n := b.length - k) (by omega)
    cases six with
    | true =>
      by_cases e1 : pr.toNat = 58
      · by_cases e2 : b.length - k < 4
        · rw [show imE _ (seg b k (b.length - k)) = 9 by unfold imE; rw [if_neg (by simpa using e1), hml, if_pos e2], if_neg (by omega)]
          refine Triple.enter Try.func113 rfl Try.ntmps113 rfl (fun W => ?_)
          dsimp only [argsF, Nat.reduceAdd]
          repeat' (first
           | refine WPl.nil ?_ | refine WPq.then ?_ | refine WPq.thenR ?_ | refine WPq.thenE ?_ | refine WPq.blockN ?_ | refine WPq.blockR ?_ | refine WPq.blockE ?_ | refine WPq.blockO rfl ?_ | refine WPc.seq ?_ | refine WPc.block ?_ | refine WPc.ret ?_ | refine WPc.exit ?_ | refine WPc.skip ?_ | refine WPc.region ?_
           | (refine isReg 5 ?_; refine WPc.drA [([], [21, 22, 23, 24]), ([0], [19, 21, 22, 23, 24]), ([], [19, 20]), ([2], [19, 20, 21]), ([2, 3], [19, 20, 21, 22]), ([2, 3, 4], [19, 20, 21, 22, 23]), ([0, 1, 2, 3, 4, 5], [19, 20, 21, 22, 23, 24]), ([0, 1, 2, 3, 4, 5, 6], [19, 20, 21, 22, 23, 24, 25])] [] (Γx := []) ?_; dsimp only [prev0, List.length_nil, List.length_cons])
           | (refine gAny ?_; first | (refine gC 7 ?_; refine RGl.vl (fun e hk => OpT.callN (c1)) ?_) | (refine gC 23 ?_; refine RGl.vl (fun e hk => OpT.callN (ow6_t)) ?_) | (refine gD 24 ?_; refine RGl.rdX (fun e hk => by (try dsimp only [bndR, ensR, oksR, fcutR, List.append_nil, List.nil_append, List.cons_append, List.append_assoc] at hk ⊢); exact ReadR.fieldN (off := 0) rfl (by kernel_rfl) rfl) ?_) | (refine gOp ?_; first | refine RGl.rdA ?_ | refine RGl.rdX (fun e hk => by (try dsimp only [bndR, ensR, oksR, fcutR, List.append_nil, List.nil_append, List.cons_append, List.append_assoc] at hk ⊢); exact readB) ?_) | (refine RGl.fin (fun e hk => ?_); (try dsimp only [bndA, ensAR, oksA, List.append_nil, List.nil_append, List.cons_append, List.append_assoc] at hk ⊢); (repeat (obtain ⟨hk1, hk⟩ := hk))) | fail)
           | (refine isCond ?_; first | refine WPc.cT ?_ | refine WPc.cF ?_ | (refine WPc.cQ (fun hc => ?_) (fun hc => ?_) <;> try exact prA))
           | (refine isC 7 ?_; refine WPl.cV (c1) ?_)
           | (refine isC 23 ?_; refine WPl.cV (ow6_t) ?_)
           | (refine isD 24 ?_; refine WPl.rdX (ReadR.fieldN (off := 0) rfl (by kernel_rfl) rfl) ?_)
           | (refine isOp ?_; first | refine WPl.rd ?_ | refine WPl.sk ?_ | refine WPl.rdB ?_)
           | (refine isAl ?_; refine WPl.nw fun g => ?_)
           | (refine isSt ?_; first | refine WPl.st1 ?_ | refine WPl.stA ?_ | refine WPl.stEB ?_ | refine WPl.stRB ?_)
           | (refine WPl.spQ (fun hc => ?_) (fun hc => ?_) <;> try exact prA)
           | fail)
          all_goals try (first | exact WPq.dV | exact WPq.dR | exact WPq.dR2 | exact WPq.dH | exact WPq.dBH | exact WPq.dT)
        · have hps := psu_len ⟨true, pr, (k : Int), a1, a2, pt, hp⟩ (b.length - k)
          have c2 := ahead6_t ⟨true, pr, (k : Int), a1, a2, pt, hp⟩ rfl ((seg b k (b.length - k)).length : Int) (b.length - k) (by rw [hml]; exact hw) (by omega)
          by_cases e3 : csum (psu ⟨true, pr, (k : Int), a1, a2, pt, hp⟩ (b.length - k) ++ seg b k (b.length - k)) = 0
          · rw [show imE _ (seg b k (b.length - k)) = 0 by unfold imE imP; rw [if_neg (by simpa using e1), hml, if_neg e2, if_pos rfl, if_neg (by simpa using e3)], if_pos rfl]
            obtain ⟨Q, hQ⟩ : ∃ Q, Q = psu ⟨true, pr, (k : Int), a1, a2, pt, hp⟩ (b.length - k) := ⟨_, rfl⟩
            rw [← hQ] at c2 hps e3
            clear hQ
            refine Triple.enter Try.func113 rfl Try.ntmps113 rfl (fun W => ?_)
            dsimp only [argsF, Nat.reduceAdd]
            refine WPc.know (p := vb.oneCell' = true) (HasS.one (n := b.length) (xs := u8s b) hasA) fun hone => ?_
            repeat' (first
             | refine WPl.nil ?_ | refine WPq.then ?_ | refine WPq.thenR ?_ | refine WPq.thenE ?_ | refine WPq.blockN ?_ | refine WPq.blockR ?_ | refine WPq.blockE ?_ | refine WPq.blockO rfl ?_ | refine WPc.seq ?_ | refine WPc.block ?_ | refine WPc.ret ?_ | refine WPc.exit ?_ | refine WPc.skip ?_ | refine WPc.region ?_
             | (refine isReg 5 ?_; refine WPc.drA [([], [21, 22, 23, 24]), ([0], [19, 21, 22, 23, 24]), ([], [19, 20]), ([2], [19, 20, 21]), ([2, 3], [19, 20, 21, 22]), ([2, 3, 4], [19, 20, 21, 22, 23]), ([0, 1, 2, 3, 4, 5], [19, 20, 21, 22, 23, 24]), ([0, 1, 2, 3, 4, 5, 6], [19, 20, 21, 22, 23, 24, 25])] [] (Γx := []) ?_; dsimp only [prev0, List.length_nil, List.length_cons])
             | (refine gAny ?_; first | (refine gC 7 ?_; refine RGl.vl (fun e hk => OpT.callN (c1)) ?_) | (refine gC 23 ?_; refine RGl.vl (fun e hk => OpT.callN (ow6_t)) ?_) | (refine gC 36 ?_; refine RGl.row (Γ1 := fun _ => []) (fun e hk => OpT.callN (c2)) ?_) | (refine gC 39 ?_; refine RGl.vl (fun e hk => OpT.callN (igood_t _ [w, subv 1 vb k (b.length - k)] [Q, seg b k (b.length - k)] true (by simp [e3]) rfl (by simp; omega) (by simp))) ?_) | (refine gD 24 ?_; refine RGl.rdX (fun e hk => by (try dsimp only [bndR, ensR, oksR, fcutR, List.append_nil, List.nil_append, List.cons_append, List.append_assoc] at hk ⊢); exact ReadR.fieldN (off := 0) rfl (by kernel_rfl) rfl) ?_) | (refine gOp ?_; first | refine RGl.rdA ?_ | refine RGl.rdX (fun e hk => by (try dsimp only [bndR, ensR, oksR, fcutR, List.append_nil, List.nil_append, List.cons_append, List.append_assoc] at hk ⊢); exact readB) ?_) | (refine RGl.fin (fun e hk => ?_); (try dsimp only [bndA, ensAR, oksA, List.append_nil, List.nil_append, List.cons_append, List.append_assoc] at hk ⊢); (repeat (obtain ⟨hk1, hk⟩ := hk))) | fail)
             | (refine isCond ?_; first | refine WPc.cT ?_ | refine WPc.cF ?_ | (refine WPc.cQ (fun hc => ?_) (fun hc => ?_) <;> try exact prA))
             | (refine isC 7 ?_; refine WPl.cV (c1) ?_)
             | (refine isC 23 ?_; refine WPl.cV (ow6_t) ?_)
             | (refine isD 24 ?_; refine WPl.rdX (ReadR.fieldN (off := 0) rfl (by kernel_rfl) rfl) ?_)
             | (refine isD 38 ?_; refine WPl.lits (h1 := .lit hw (.lit (subv_one hone) .nil)) fun v hv => ?_)
             | (refine isC 36 ?_; refine WPl.cR (c2) fun w hw => ?_)
             | (refine isC 39 ?_; refine WPl.cV (igood_t _ [w, subv 1 vb k (b.length - k)] [Q, seg b k (b.length - k)] true (by simp [e3]) rfl (by simp; omega) (by simp)) ?_)
             | (refine isOp ?_; first | refine WPl.rd ?_ | refine WPl.sk ?_ | refine WPl.rdB ?_)
             | (refine isAl ?_; refine WPl.nw fun g => ?_)
             | (refine isSt ?_; first | refine WPl.st1 ?_ | refine WPl.stA ?_ | refine WPl.stEB ?_ | refine WPl.stRB ?_)
             | (refine WPl.spQ (fun hc => ?_) (fun hc => ?_) <;> try exact prA)
             | fail)
            all_goals try (first | exact WPq.dV | exact WPq.dR | exact WPq.dR2 | exact WPq.dH | exact WPq.dBH | exact WPq.dT)
          · rw [show imE _ (seg b k (b.length - k)) = 5 by unfold imE imP; rw [if_neg (by simpa using e1), hml, if_neg e2, if_pos rfl, if_pos (by simpa using e3)], if_neg (by omega)]
            obtain ⟨Q, hQ⟩ : ∃ Q, Q = psu ⟨true, pr, (k : Int), a1, a2, pt, hp⟩ (b.length - k) := ⟨_, rfl⟩
            rw [← hQ] at c2 hps e3
            clear hQ
            refine Triple.enter Try.func113 rfl Try.ntmps113 rfl (fun W => ?_)
            dsimp only [argsF, Nat.reduceAdd]
            refine WPc.know (p := vb.oneCell' = true) (HasS.one (n := b.length) (xs := u8s b) hasA) fun hone => ?_
            repeat' (first
             | refine WPl.nil ?_ | refine WPq.then ?_ | refine WPq.thenR ?_ | refine WPq.thenE ?_ | refine WPq.blockN ?_ | refine WPq.blockR ?_ | refine WPq.blockE ?_ | refine WPq.blockO rfl ?_ | refine WPc.seq ?_ | refine WPc.block ?_ | refine WPc.ret ?_ | refine WPc.exit ?_ | refine WPc.skip ?_ | refine WPc.region ?_
             | (refine isReg 5 ?_; refine WPc.drA [([], [21, 22, 23, 24]), ([0], [19, 21, 22, 23, 24]), ([], [19, 20]), ([2], [19, 20, 21]), ([2, 3], [19, 20, 21, 22]), ([2, 3, 4], [19, 20, 21, 22, 23]), ([0, 1, 2, 3, 4, 5], [19, 20, 21, 22, 23, 24]), ([0, 1, 2, 3, 4, 5, 6], [19, 20, 21, 22, 23, 24, 25])] [] (Γx := []) ?_; dsimp only [prev0, List.length_nil, List.length_cons])
             | (refine gAny ?_; first | (refine gC 7 ?_; refine RGl.vl (fun e hk => OpT.callN (c1)) ?_) | (refine gC 23 ?_; refine RGl.vl (fun e hk => OpT.callN (ow6_t)) ?_) | (refine gC 36 ?_; refine RGl.row (Γ1 := fun _ => []) (fun e hk => OpT.callN (c2)) ?_) | (refine gC 39 ?_; refine RGl.vl (fun e hk => OpT.callN (igood_t _ [w, subv 1 vb k (b.length - k)] [Q, seg b k (b.length - k)] false (by simp [e3]) rfl (by simp; omega) (by simp))) ?_) | (refine gD 24 ?_; refine RGl.rdX (fun e hk => by (try dsimp only [bndR, ensR, oksR, fcutR, List.append_nil, List.nil_append, List.cons_append, List.append_assoc] at hk ⊢); exact ReadR.fieldN (off := 0) rfl (by kernel_rfl) rfl) ?_) | (refine gOp ?_; first | refine RGl.rdA ?_ | refine RGl.rdX (fun e hk => by (try dsimp only [bndR, ensR, oksR, fcutR, List.append_nil, List.nil_append, List.cons_append, List.append_assoc] at hk ⊢); exact readB) ?_) | (refine RGl.fin (fun e hk => ?_); (try dsimp only [bndA, ensAR, oksA, List.append_nil, List.nil_append, List.cons_append, List.append_assoc] at hk ⊢); (repeat (obtain ⟨hk1, hk⟩ := hk))) | fail)
             | (refine isCond ?_; first | refine WPc.cT ?_ | refine WPc.cF ?_ | (refine WPc.cQ (fun hc => ?_) (fun hc => ?_) <;> try exact prA))
             | (refine isC 7 ?_; refine WPl.cV (c1) ?_)
             | (refine isC 23 ?_; refine WPl.cV (ow6_t) ?_)
             | (refine isD 24 ?_; refine WPl.rdX (ReadR.fieldN (off := 0) rfl (by kernel_rfl) rfl) ?_)
             | (refine isD 38 ?_; refine WPl.lits (h1 := .lit hw (.lit (subv_one hone) .nil)) fun v hv => ?_)
             | (refine isC 36 ?_; refine WPl.cR (c2) fun w hw => ?_)
             | (refine isC 39 ?_; refine WPl.cV (igood_t _ [w, subv 1 vb k (b.length - k)] [Q, seg b k (b.length - k)] false (by simp [e3]) rfl (by simp; omega) (by simp)) ?_)
             | (refine isOp ?_; first | refine WPl.rd ?_ | refine WPl.sk ?_ | refine WPl.rdB ?_)
             | (refine isAl ?_; refine WPl.nw fun g => ?_)
             | (refine isSt ?_; first | refine WPl.st1 ?_ | refine WPl.stA ?_ | refine WPl.stEB ?_ | refine WPl.stRB ?_)
             | (refine WPl.spQ (fun hc => ?_) (fun hc => ?_) <;> try exact prA)
             | fail)
            all_goals try (first | exact WPq.dV | exact WPq.dR | exact WPq.dR2 | exact WPq.dH | exact WPq.dBH | exact WPq.dT)
      · rw [show imE _ (seg b k (b.length - k)) = 6 by unfold imE; rw [if_pos (by simpa using e1)], if_neg (by omega)]
        refine Triple.enter Try.func113 rfl Try.ntmps113 rfl (fun W => ?_)
        dsimp only [argsF, Nat.reduceAdd]
        repeat' (first
         | refine WPl.nil ?_ | refine WPq.then ?_ | refine WPq.thenR ?_ | refine WPq.thenE ?_ | refine WPq.blockN ?_ | refine WPq.blockR ?_ | refine WPq.blockE ?_ | refine WPq.blockO rfl ?_ | refine WPc.seq ?_ | refine WPc.block ?_ | refine WPc.ret ?_ | refine WPc.exit ?_ | refine WPc.skip ?_ | refine WPc.region ?_
         | (refine isReg 5 ?_; refine WPc.drA [([], [21, 22, 23, 24]), ([0], [19, 21, 22, 23, 24]), ([], [19, 20]), ([2], [19, 20, 21]), ([2, 3], [19, 20, 21, 22]), ([2, 3, 4], [19, 20, 21, 22, 23]), ([0, 1, 2, 3, 4, 5], [19, 20, 21, 22, 23, 24]), ([0, 1, 2, 3, 4, 5, 6], [19, 20, 21, 22, 23, 24, 25])] [] (Γx := []) ?_; dsimp only [prev0, List.length_nil, List.length_cons])
         | (refine gAny ?_; first | (refine gC 7 ?_; refine RGl.vl (fun e hk => OpT.callN (c1)) ?_) | (refine gC 23 ?_; refine RGl.vl (fun e hk => OpT.callN (ow6_t)) ?_) | (refine gD 24 ?_; refine RGl.rdX (fun e hk => by (try dsimp only [bndR, ensR, oksR, fcutR, List.append_nil, List.nil_append, List.cons_append, List.append_assoc] at hk ⊢); exact ReadR.fieldN (off := 0) rfl (by kernel_rfl) rfl) ?_) | (refine gOp ?_; first | refine RGl.rdA ?_ | refine RGl.rdX (fun e hk => by (try dsimp only [bndR, ensR, oksR, fcutR, List.append_nil, List.nil_append, List.cons_append, List.append_assoc] at hk ⊢); exact readB) ?_) | (refine RGl.fin (fun e hk => ?_); (try dsimp only [bndA, ensAR, oksA, List.append_nil, List.nil_append, List.cons_append, List.append_assoc] at hk ⊢); (repeat (obtain ⟨hk1, hk⟩ := hk))) | fail)
         | (refine isCond ?_; first | refine WPc.cT ?_ | refine WPc.cF ?_ | (refine WPc.cQ (fun hc => ?_) (fun hc => ?_) <;> try exact prA))
         | (refine isC 7 ?_; refine WPl.cV (c1) ?_)
         | (refine isC 23 ?_; refine WPl.cV (ow6_t) ?_)
         | (refine isD 24 ?_; refine WPl.rdX (ReadR.fieldN (off := 0) rfl (by kernel_rfl) rfl) ?_)
         | (refine isOp ?_; first | refine WPl.rd ?_ | refine WPl.sk ?_ | refine WPl.rdB ?_)
         | (refine isAl ?_; refine WPl.nw fun g => ?_)
         | (refine isSt ?_; first | refine WPl.st1 ?_ | refine WPl.stA ?_ | refine WPl.stEB ?_ | refine WPl.stRB ?_)
         | (refine WPl.spQ (fun hc => ?_) (fun hc => ?_) <;> try exact prA)
         | fail)
        all_goals try (first | exact WPq.dV | exact WPq.dR | exact WPq.dR2 | exact WPq.dH | exact WPq.dBH | exact WPq.dT)
    | false =>
      by_cases e1 : pr.toNat = 1
      · by_cases e2 : b.length - k < 4
        · rw [show imE _ (seg b k (b.length - k)) = 9 by unfold imE; rw [if_neg (by simpa using e1), hml, if_pos e2], if_neg (by omega)]
          refine Triple.enter Try.func113 rfl Try.ntmps113 rfl (fun W => ?_)
          dsimp only [argsF, Nat.reduceAdd]
          repeat' (first
           | refine WPl.nil ?_ | refine WPq.then ?_ | refine WPq.thenR ?_ | refine WPq.thenE ?_ | refine WPq.blockN ?_ | refine WPq.blockR ?_ | refine WPq.blockE ?_ | refine WPq.blockO rfl ?_ | refine WPc.seq ?_ | refine WPc.block ?_ | refine WPc.ret ?_ | refine WPc.exit ?_ | refine WPc.skip ?_ | refine WPc.region ?_
           | (refine isReg 5 ?_; refine WPc.drA [([], [21, 22, 23, 24]), ([0], [19, 21, 22, 23, 24]), ([], [19, 20]), ([2], [19, 20, 21]), ([2, 3], [19, 20, 21, 22]), ([2, 3, 4], [19, 20, 21, 22, 23]), ([0, 1, 2, 3, 4, 5], [19, 20, 21, 22, 23, 24]), ([0, 1, 2, 3, 4, 5, 6], [19, 20, 21, 22, 23, 24, 25])] [] (Γx := []) ?_; dsimp only [prev0, List.length_nil, List.length_cons])
           | (refine gAny ?_; first | (refine gC 7 ?_; refine RGl.vl (fun e hk => OpT.callN (c1)) ?_) | (refine gC 23 ?_; refine RGl.vl (fun e hk => OpT.callN (ow4_t)) ?_) | (refine gD 24 ?_; refine RGl.rdX (fun e hk => by (try dsimp only [bndR, ensR, oksR, fcutR, List.append_nil, List.nil_append, List.cons_append, List.append_assoc] at hk ⊢); exact ReadR.fieldN (off := 0) rfl (by kernel_rfl) rfl) ?_) | (refine gOp ?_; first | refine RGl.rdA ?_ | refine RGl.rdX (fun e hk => by (try dsimp only [bndR, ensR, oksR, fcutR, List.append_nil, List.nil_append, List.cons_append, List.append_assoc] at hk ⊢); exact readB) ?_) | (refine RGl.fin (fun e hk => ?_); (try dsimp only [bndA, ensAR, oksA, List.append_nil, List.nil_append, List.cons_append, List.append_assoc] at hk ⊢); (repeat (obtain ⟨hk1, hk⟩ := hk))) | fail)
           | (refine isCond ?_; first | refine WPc.cT ?_ | refine WPc.cF ?_ | (refine WPc.cQ (fun hc => ?_) (fun hc => ?_) <;> try exact prA))
           | (refine isC 7 ?_; refine WPl.cV (c1) ?_)
           | (refine isC 23 ?_; refine WPl.cV (ow4_t) ?_)
           | (refine isD 24 ?_; refine WPl.rdX (ReadR.fieldN (off := 0) rfl (by kernel_rfl) rfl) ?_)
           | (refine isOp ?_; first | refine WPl.rd ?_ | refine WPl.sk ?_ | refine WPl.rdB ?_)
           | (refine isAl ?_; refine WPl.nw fun g => ?_)
           | (refine isSt ?_; first | refine WPl.st1 ?_ | refine WPl.stA ?_ | refine WPl.stEB ?_ | refine WPl.stRB ?_)
           | (refine WPl.spQ (fun hc => ?_) (fun hc => ?_) <;> try exact prA)
           | fail)
          all_goals try (first | exact WPq.dV | exact WPq.dR | exact WPq.dR2 | exact WPq.dH | exact WPq.dBH | exact WPq.dT)
        · have c2 := ahead4_t ⟨false, pr, (k : Int), a1, a2, pt, hp⟩ rfl ((seg b k (b.length - k)).length : Int)
          by_cases e3 : csum (seg b k (b.length - k)) = 0
          · rw [show imE _ (seg b k (b.length - k)) = 0 by unfold imE imP; rw [if_neg (by simpa using e1), hml, if_neg e2]; simp [e3], if_pos rfl]
            refine Triple.enter Try.func113 rfl Try.ntmps113 rfl (fun W => ?_)
            dsimp only [argsF, Nat.reduceAdd]
            refine WPc.know (p := vb.oneCell' = true) (HasS.one (n := b.length) (xs := u8s b) hasA) fun hone => ?_
            repeat' (first
             | refine WPl.nil ?_ | refine WPq.then ?_ | refine WPq.thenR ?_ | refine WPq.thenE ?_ | refine WPq.blockN ?_ | refine WPq.blockR ?_ | refine WPq.blockE ?_ | refine WPq.blockO rfl ?_ | refine WPc.seq ?_ | refine WPc.block ?_ | refine WPc.ret ?_ | refine WPc.exit ?_ | refine WPc.skip ?_ | refine WPc.region ?_
             | (refine isReg 5 ?_; refine WPc.drA [([], [21, 22, 23, 24]), ([0], [19, 21, 22, 23, 24]), ([], [19, 20]), ([2], [19, 20, 21]), ([2, 3], [19, 20, 21, 22]), ([2, 3, 4], [19, 20, 21, 22, 23]), ([0, 1, 2, 3, 4, 5], [19, 20, 21, 22, 23, 24]), ([0, 1, 2, 3, 4, 5, 6], [19, 20, 21, 22, 23, 24, 25])] [] (Γx := []) ?_; dsimp only [prev0, List.length_nil, List.length_cons])
             | (refine gAny ?_; first | (refine gC 7 ?_; refine RGl.vl (fun e hk => OpT.callN (c1)) ?_) | (refine gC 23 ?_; refine RGl.vl (fun e hk => OpT.callN (ow4_t)) ?_) | (refine gC 36 ?_; refine RGl.vl (fun e hk => OpT.callN (c2)) ?_) | (refine gC 39 ?_; refine RGl.vl (fun e hk => OpT.callN (igood_t _ [.slice none 0 0, subv 1 vb k (b.length - k)] [[], seg b k (b.length - k)] true (by simp [e3]) rfl (by simp; omega) (by simp))) ?_) | (refine gD 24 ?_; refine RGl.rdX (fun e hk => by (try dsimp only [bndR, ensR, oksR, fcutR, List.append_nil, List.nil_append, List.cons_append, List.append_assoc] at hk ⊢); exact ReadR.fieldN (off := 0) rfl (by kernel_rfl) rfl) ?_) | (refine gOp ?_; first | refine RGl.rdA ?_ | refine RGl.rdX (fun e hk => by (try dsimp only [bndR, ensR, oksR, fcutR, List.append_nil, List.nil_append, List.cons_append, List.append_assoc] at hk ⊢); exact readB) ?_) | (refine RGl.fin (fun e hk => ?_); (try dsimp only [bndA, ensAR, oksA, List.append_nil, List.nil_append, List.cons_append, List.append_assoc] at hk ⊢); (repeat (obtain ⟨hk1, hk⟩ := hk))) | fail)
             | (refine isCond ?_; first | refine WPc.cT ?_ | refine WPc.cF ?_ | (refine WPc.cQ (fun hc => ?_) (fun hc => ?_) <;> try exact prA))
             | (refine isC 7 ?_; refine WPl.cV (c1) ?_)
             | (refine isC 23 ?_; refine WPl.cV (ow4_t) ?_)
             | (refine isD 24 ?_; refine WPl.rdX (ReadR.fieldN (off := 0) rfl (by kernel_rfl) rfl) ?_)
             | (refine isD 38 ?_; refine WPl.lits (h1 := .lit rfl (.lit (subv_one hone) .nil)) fun v hv => ?_)
             | (refine isC 36 ?_; refine WPl.cV (c2) ?_)
             | (refine isC 39 ?_; refine WPl.cV (igood_t _ [.slice none 0 0, subv 1 vb k (b.length - k)] [[], seg b k (b.length - k)] true (by simp [e3]) rfl (by simp; omega) (by simp)) ?_)
             | (refine isOp ?_; first | refine WPl.rd ?_ | refine WPl.sk ?_ | refine WPl.rdB ?_)
             | (refine isAl ?_; refine WPl.nw fun g => ?_)
             | (refine isSt ?_; first | refine WPl.st1 ?_ | refine WPl.stA ?_ | refine WPl.stEB ?_ | refine WPl.stRB ?_)
             | (refine WPl.spQ (fun hc => ?_) (fun hc => ?_) <;> try exact prA)
             | fail)
            all_goals try (first | exact WPq.dV | exact WPq.dR | exact WPq.dR2 | exact WPq.dH | exact WPq.dBH | exact WPq.dT)
          · rw [show imE _ (seg b k (b.length - k)) = 5 by unfold imE imP; rw [if_neg (by simpa using e1), hml, if_neg e2]; simp [e3], if_neg (by omega)]
            refine Triple.enter Try.func113 rfl Try.ntmps113 rfl (fun W => ?_)
            dsimp only [argsF, Nat.reduceAdd]
            refine WPc.know (p := vb.oneCell' = true) (HasS.one (n := b.length) (xs := u8s b) hasA) fun hone => ?_
            repeat' (first
             | refine WPl.nil ?_ | refine WPq.then ?_ | refine WPq.thenR ?_ | refine WPq.thenE ?_ | refine WPq.blockN ?_ | refine WPq.blockR ?_ | refine WPq.blockE ?_ | refine WPq.blockO rfl ?_ | refine WPc.seq ?_ | refine WPc.block ?_ | refine WPc.ret ?_ | refine WPc.exit ?_ | refine WPc.skip ?_ | refine WPc.region ?_
             | (refine isReg 5 ?_; refine WPc.drA [([], [21, 22, 23, 24]), ([0], [19, 21, 22, 23, 24]), ([], [19, 20]), ([2], [19, 20, 21]), ([2, 3], [19, 20, 21, 22]), ([2, 3, 4], [19, 20, 21, 22, 23]), ([0, 1, 2, 3, 4, 5], [19, 20, 21, 22, 23, 24]), ([0, 1, 2, 3, 4, 5, 6], [19, 20, 21, 22, 23, 24, 25])] [] (Γx := []) ?_; dsimp only [prev0, List.length_nil, List.length_cons])
             | (refine gAny ?_; first | (refine gC 7 ?_; refine RGl.vl (fun e hk => OpT.callN (c1)) ?_) | (refine gC 23 ?_; refine RGl.vl (fun e hk => OpT.callN (ow4_t)) ?_) | (refine gC 36 ?_; refine RGl.vl (fun e hk => OpT.callN (c2)) ?_) | (refine gC 39 ?_; refine RGl.vl (fun e hk => OpT.callN (igood_t _ [.slice none 0 0, subv 1 vb k (b.length - k)] [[], seg b k (b.length - k)] false (by simp [e3]) rfl (by simp; omega) (by simp))) ?_) | (refine gD 24 ?_; refine RGl.rdX (fun e hk => by (try dsimp only [bndR, ensR, oksR, fcutR, List.append_nil, List.nil_append, List.cons_append, List.append_assoc] at hk ⊢); exact ReadR.fieldN (off := 0) rfl (by kernel_rfl) rfl) ?_) | (refine gOp ?_; first | refine RGl.rdA ?_ | refine RGl.rdX (fun e hk => by (try dsimp only [bndR, ensR, oksR, fcutR, List.append_nil, List.nil_append, List.cons_append, List.append_assoc] at hk ⊢); exact readB) ?_) | (refine RGl.fin (fun e hk => ?_); (try dsimp only [bndA, ensAR, oksA, List.append_nil, List.nil_append, List.cons_append, List.append_assoc] at hk ⊢); (repeat (obtain ⟨hk1, hk⟩ := hk))) | fail)
             | (refine isCond ?_; first | refine WPc.cT ?_ | refine WPc.cF ?_ | (refine WPc.cQ (fun hc => ?_) (fun hc => ?_) <;> try exact prA))
             | (refine isC 7 ?_; refine WPl.cV (c1) ?_)
             | (refine isC 23 ?_; refine WPl.cV (ow4_t) ?_)
             | (refine isD 24 ?_; refine WPl.rdX (ReadR.fieldN (off := 0) rfl (by kernel_rfl) rfl) ?_)
             | (refine isD 38 ?_; refine WPl.lits (h1 := .lit rfl (.lit (subv_one hone) .nil)) fun v hv => ?_)
             | (refine isC 36 ?_; refine WPl.cV (c2) ?_)
             | (refine isC 39 ?_; refine WPl.cV (igood_t _ [.slice none 0 0, subv 1 vb k (b.length - k)] [[], seg b k (b.length - k)] false (by simp [e3]) rfl (by simp; omega) (by simp)) ?_)
             | (refine isOp ?_; first | refine WPl.rd ?_ | refine WPl.sk ?_ | refine WPl.rdB ?_)
             | (refine isAl ?_; refine WPl.nw fun g => ?_)
             | (refine isSt ?_; first | refine WPl.st1 ?_ | refine WPl.stA ?_ | refine WPl.stEB ?_ | refine WPl.stRB ?_)
             | (refine WPl.spQ (fun hc => ?_) (fun hc => ?_) <;> try exact prA)
             | fail)
            all_goals try (first | exact WPq.dV | exact WPq.dR | exact WPq.dR2 | exact WPq.dH | exact WPq.dBH | exact WPq.dT)
      · rw [show imE _ (seg b k (b.length - k)) = 6 by unfold imE; rw [if_pos (by simpa using e1)], if_neg (by omega)]
        refine Triple.enter Try.func113 rfl Try.ntmps113 rfl (fun W => ?_)
        dsimp only [argsF, Nat.reduceAdd]
        repeat' (first
         | refine WPl.nil ?_ | refine WPq.then ?_ | refine WPq.thenR ?_ | refine WPq.thenE ?_ | refine WPq.blockN ?_ | refine WPq.blockR ?_ | refine WPq.blockE ?_ | refine WPq.blockO rfl ?_ | refine WPc.seq ?_ | refine WPc.block ?_ | refine WPc.ret ?_ | refine WPc.exit ?_ | refine WPc.skip ?_ | refine WPc.region ?_
         | (refine isReg 5 ?_; refine WPc.drA [([], [21, 22, 23, 24]), ([0], [19, 21, 22, 23, 24]), ([], [19, 20]), ([2], [19, 20, 21]), ([2, 3], [19, 20, 21, 22]), ([2, 3, 4], [19, 20, 21, 22, 23]), ([0, 1, 2, 3, 4, 5], [19, 20, 21, 22, 23, 24]), ([0, 1, 2, 3, 4, 5, 6], [19, 20, 21, 22, 23, 24, 25])] [] (Γx := []) ?_; dsimp only [prev0, List.length_nil, List.length_cons])
         | (refine gAny ?_; first | (refine gC 7 ?_; refine RGl.vl (fun e hk => OpT.callN (c1)) ?_) | (refine gC 23 ?_; refine RGl.vl (fun e hk => OpT.callN (ow4_t)) ?_) | (refine gD 24 ?_; refine RGl.rdX (fun e hk => by (try dsimp only [bndR, ensR, oksR, fcutR, List.append_nil, List.nil_append, List.cons_append, List.append_assoc] at hk ⊢); exact ReadR.fieldN (off := 0) rfl (by kernel_rfl) rfl) ?_) | (refine gOp ?_; first | refine RGl.rdA ?_ | refine RGl.rdX (fun e hk => by (try dsimp only [bndR, ensR, oksR, fcutR, List.append_nil, List.nil_append, List.cons_append, List.append_assoc] at hk ⊢); exact readB) ?_) | (refine RGl.fin (fun e hk => ?_); (try dsimp only [bndA, ensAR, oksA, List.append_nil, List.nil_append, List.cons_append, List.append_assoc] at hk ⊢); (repeat (obtain ⟨hk1, hk⟩ := hk))) | fail)
         | (refine isCond ?_; first | refine WPc.cT ?_ | refine WPc.cF ?_ | (refine WPc.cQ (fun hc => ?_) (fun hc => ?_) <;> try exact prA))
         | (refine isC 7 ?_; refine WPl.cV (c1) ?_)
         | (refine isC 23 ?_; refine WPl.cV (ow4_t) ?_)
         | (refine isD 24 ?_; refine WPl.rdX (ReadR.fieldN (off := 0) rfl (by kernel_rfl) rfl) ?_)
         | (refine isOp ?_; first | refine WPl.rd ?_ | refine WPl.sk ?_ | refine WPl.rdB ?_)
         | (refine isAl ?_; refine WPl.nw fun g => ?_)
         | (refine isSt ?_; first | refine WPl.st1 ?_ | refine WPl.stA ?_ | refine WPl.stEB ?_ | refine WPl.stRB ?_)
         | (refine WPl.spQ (fun hc => ?_) (fun hc => ?_) <;> try exact prA)
         | fail)
        all_goals try (first | exact WPq.dV | exact WPq.dR | exact WPq.dR2 | exact WPq.dH | exact WPq.dBH | exact WPq.dT)
  · rw [show irE b = ihE b by unfold irE; rw [if_neg he], if_neg he]
    obtain ⟨X, hX⟩ : ∃ X, X = phH b := ⟨_, rfl⟩
    obtain ⟨c, hc⟩ : ∃ c, c = ihE b := ⟨_, rfl⟩
    rw [← hX, ← hc] at c1 ⊢
    rw [← hc] at he
    clear hX hc
    have k1 := X.src.len
    have k2 := X.dst.len
    refine Triple.enter Try.func113 rfl Try.ntmps113 rfl (fun W => ?_)
    dsimp only [argsF, Nat.reduceAdd]
    repeat' (first
     | refine WPl.nil ?_ | refine WPq.then ?_ | refine WPq.thenR ?_ | refine WPq.thenE ?_ | refine WPq.blockN ?_ | refine WPq.blockR ?_ | refine WPq.blockE ?_ | refine WPq.blockO rfl ?_ | refine WPc.seq ?_ | refine WPc.block ?_ | refine WPc.ret ?_ | refine WPc.exit ?_ | refine WPc.skip ?_ | refine WPc.region ?_
     | (refine isReg 5 ?_; refine WPc.drA [([], [21, 22, 23, 24]), ([0], [19, 21, 22, 23, 24]), ([], [19, 20]), ([2], [19, 20, 21]), ([2, 3], [19, 20, 21, 22]), ([2, 3, 4], [19, 20, 21, 22, 23]), ([0, 1, 2, 3, 4, 5], [19, 20, 21, 22, 23, 24]), ([0, 1, 2, 3, 4, 5, 6], [19, 20, 21, 22, 23, 24, 25])] [] (Γx := []) ?_; dsimp only [prev0, List.length_nil, List.length_cons])
     | (refine gAny ?_; first | (refine gC 7 ?_; refine RGl.vl (fun e hk => OpT.callN (c1)) ?_) | (refine gOp ?_; first | refine RGl.rdA ?_ | refine RGl.rdX (fun e hk => by (try dsimp only [bndR, ensR, oksR, fcutR, List.append_nil, List.nil_append, List.cons_append, List.append_assoc] at hk ⊢); exact readB) ?_) | (refine RGl.fin (fun e hk => ?_); (try dsimp only [bndA, ensAR, oksA, List.append_nil, List.nil_append, List.cons_append, List.append_assoc] at hk ⊢); (repeat (obtain ⟨hk1, hk⟩ := hk))) | fail)
     | (refine isCond ?_; first | refine WPc.cT ?_ | refine WPc.cF ?_ | (refine WPc.cQ (fun hc => ?_) (fun hc => ?_) <;> try exact prA))
     | (refine isC 7 ?_; refine WPl.cV (c1) ?_)
     | (refine isOp ?_; first | refine WPl.rd ?_ | refine WPl.sk ?_ | refine WPl.rdB ?_)
     | (refine isAl ?_; refine WPl.nw fun g => ?_)
     | (refine isSt ?_; first | refine WPl.st1 ?_ | refine WPl.stA ?_ | refine WPl.stEB ?_ | refine WPl.stRB ?_)
     | (refine WPl.spQ (fun hc => ?_) (fun hc => ?_) <;> try exact prA)
     | fail)
    all_goals try (first | exact WPq.dV | exact WPq.dR | exact WPq.dR2 | exact WPq.dH | exact WPq.dBH | exact WPq.dT)
end Go.Proofs.Yteofjhjhaaafjaa
