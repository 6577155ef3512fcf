/- Layer 12 (addr): addresses, prefixes: contracts. -/
import Derived.Test.YteofjhjhaaafjaaRa
namespace Go.Proofs.Yteofjhjhaaafjaa
open Go.RowKit
set_option linter.unusedSimpArgs false
set_option linter.unusedVariables false
set_option maxRecDepth 20000
set_option maxHeartbeats 4000000
attribute [local irreducible] WPc WPl WPq ReadR OpT BinR HasS bx rdN rowN Take Takes Prov Triple ResF BuildP Done ag Int.decLt Int.decLe Int.instDecidableEq

/-- An address. -/
structure Adr where
  six : Bool
  b : List UInt8
  len : b.length = 16
instance (a : Adr) : LenI a.b 16 := ⟨a.len⟩
abbrev adc (a : Adr) : Ch := [(1, [.bool a.six]), (16, u8s a.b)]
theorem Adr.ext {a c : Adr} (h : a.six = c.six) (k : a.b = c.b) : a = c := by cases a; cases c; simp_all
def Adr.bytes (a : Adr) : List UInt8 := if a.six then a.b else seg a.b 12 4
theorem Adr.bytes_len (a : Adr) : a.bytes.length = if a.six then 16 else 4 := by
  unfold Adr.bytes; split
  · exact a.len
  · exact seg_length (by rw [a.len]; decide)
theorem Adr.bytes_le (a : Adr) : a.bytes.length ≤ 16 := by rw [a.bytes_len]; split <;> omega
/-- The address of IPv4 of four bytes. -/
def Adr.of4 (l : List UInt8) (h : l.length = 4) : Adr := ⟨false, over (List.replicate 16 0) 12 l, by rw [over_length] <;> simp [h]⟩
def Adr.of6 (l : List UInt8) (h : l.length = 16) : Adr := ⟨true, l, h⟩
def Adr.zero : Adr := ⟨false, List.replicate 16 0, by simp⟩
def Adr.good (a : Adr) : Bool := a.six || decide (seg a.b 0 12 = List.replicate 12 0)

theorem bytesE_t (v : Value) (vs : List Value) (ls : List (List UInt8)) (r : List UInt8) (hr : ls.flatten = r) (h : vs.length = ls.length) (hl : ls.flatten.length ≤ 1000000) (h0 : vs.length ≤ 1000000) :
    Triple Try.prog 61 #[v] (rdN v vs.length vs :: rbz vs ls) (ROb r) := hr ▸ bytes_t v vs ls h hl h0

theorem raw_t (a : Adr) : Triple Try.prog 101 #[ag (adc a)] [] (RHd a.bytes.length (u8s a.bytes)) := by
  have hl := a.len
  refine Triple.enter Try.func101 rfl Try.ntmps101 rfl (fun W => ?_)
  dsimp only [argsF, Nat.reduceAdd]
  repeat' (first
   | refine WPl.nil ?_ | refine WPq.then ?_ | refine WPq.thenR ?_ | refine WPq.thenE ?_ | refine WPq.blockN ?_ | refine WPq.blockR ?_ | refine WPq.blockE ?_ | refine WPq.blockO rfl ?_ | refine WPc.seq ?_ | refine WPc.block ?_ | refine WPc.ret ?_ | refine WPc.exit ?_ | refine WPc.skip ?_ | refine WPc.region ?_
   | (refine isCond ?_; first | refine WPc.cT ?_ | refine WPc.cF ?_ | (refine WPc.cQ (fun hc => ?_) (fun hc => ?_) <;> try exact prA))
   | (refine isOp ?_; first | refine WPl.rd ?_ | refine WPl.sk ?_ | refine WPl.rdB ?_)
   | (refine isBx ?_; refine WPl.nw fun g => ?_)
   | (refine WPl.spQ (fun hc => ?_) (fun hc => ?_) <;> try exact prA)
   | fail)
  · rw [show a.bytes = a.b by simp [Adr.bytes, hc]]
    all_goals try (first | exact WPq.dV | exact WPq.dR | exact WPq.dR2 | exact WPq.dH | exact WPq.dBH | exact WPq.dT)
  · rw [show a.bytes = seg a.b 12 4 by simp [Adr.bytes, hc]]
    all_goals try (first | exact WPq.dV | exact WPq.dR | exact WPq.dR2 | exact WPq.dH | exact WPq.dBH | exact WPq.dT)
theorem addrBytes_t (a : Adr) : Triple Try.prog 63 #[ag (adc a)] [] (ROb a.bytes) := by
  have hl := a.bytes_le
  refine Triple.enter Try.func63 rfl Try.ntmps63 rfl (fun W => ?_)
  dsimp only [argsF, Nat.reduceAdd]
  repeat' (first
   | refine WPl.nil ?_ | refine WPq.then ?_ | refine WPq.thenR ?_ | refine WPq.thenE ?_ | refine WPq.blockN ?_ | refine WPq.blockR ?_ | refine WPq.blockE ?_ | refine WPq.blockO rfl ?_ | refine WPc.seq ?_ | refine WPc.block ?_ | refine WPc.ret ?_ | refine WPc.exit ?_ | refine WPc.skip ?_ | refine WPc.region ?_
   | (refine isCond ?_; first | refine WPc.cT ?_ | refine WPc.cF ?_ | (refine WPc.cQ (fun hc => ?_) (fun hc => ?_) <;> try exact prA))
   | (refine isCl ?_; refine WPl.cH (raw_t a) fun v hv => ?_)
   | (refine isLit ?_; refine WPl.lits fun v hv => ?_)
   | (refine isCl ?_; refine WPl.cR (bytesE_t _ [_] [a.bytes] a.bytes (by simp) rfl (by simp; omega) (by simp)) fun v hv => ?_)
   | (refine isOp ?_; first | refine WPl.rd ?_ | refine WPl.sk ?_ | refine WPl.rdB ?_)
   | (refine isBx ?_; refine WPl.nw fun g => ?_)
   | (refine WPl.spQ (fun hc => ?_) (fun hc => ?_) <;> try exact prA)
   | fail)
  all_goals try (first | exact WPq.dV | exact WPq.dR | exact WPq.dR2 | exact WPq.dH | exact WPq.dBH | exact WPq.dT)
theorem good_t (a : Adr) : Triple Try.prog 109 #[ag (adc a)] [] (RVal (.bool a.good)) := by
  have hl := a.len
  refine Triple.enter Try.func109 rfl Try.ntmps109 rfl (fun W => ?_)
  dsimp only [argsF, Nat.reduceAdd]
  repeat' (first
   | refine WPl.nil ?_ | refine WPq.then ?_ | refine WPq.thenR ?_ | refine WPq.thenE ?_ | refine WPq.blockN ?_ | refine WPq.blockR ?_ | refine WPq.blockE ?_ | refine WPq.blockO rfl ?_ | refine WPc.seq ?_ | refine WPc.block ?_ | refine WPc.ret ?_ | refine WPc.exit ?_ | refine WPc.skip ?_ | refine WPc.region ?_
   | (refine isCond ?_; first | refine WPc.cT ?_ | refine WPc.cF ?_ | (refine WPc.cQ (fun hc => ?_) (fun hc => ?_) <;> try exact prA))
   | (refine isOp ?_; first | refine WPl.rd ?_ | refine WPl.sk ?_ | refine WPl.rdB ?_)
   | (refine isBx ?_; refine WPl.nw fun g => ?_)
   | (refine WPl.spQ (fun hc => ?_) (fun hc => ?_) <;> try exact prA)
   | fail)
  · exact WPq.dV (hc := by simp [resV, Adr.good, hc])
  · exact WPq.dV (hc := by simp [resV, Adr.good, hc])
theorem last_t (v : Value) (l : List UInt8) (h : l.length = 4) : Triple Try.prog 126 #[v] [rb v l] (RVal (ag (adc (Adr.of4 l h)))) := by
  refine Triple.enter Try.func126 rfl Try.ntmps126 rfl (fun W => ?_)
  dsimp only [argsF, Nat.reduceAdd]
  repeat' (first
   | refine WPl.nil ?_ | refine WPq.then ?_ | refine WPq.thenR ?_ | refine WPq.thenE ?_ | refine WPq.blockN ?_ | refine WPq.blockR ?_ | refine WPq.blockE ?_ | refine WPq.blockO rfl ?_ | refine WPc.seq ?_ | refine WPc.block ?_ | refine WPc.ret ?_ | refine WPc.exit ?_ | refine WPc.skip ?_ | refine WPc.region ?_
   | (refine isCond ?_; first | refine WPc.cT ?_ | refine WPc.cF ?_ | (refine WPc.cQ (fun hc => ?_) (fun hc => ?_) <;> try exact prA))
   | (refine isCp ?_; first | refine WPl.cpA fun v => ?_ | refine WPl.cpE fun v => ?_)
   | (refine isOp ?_; first | refine WPl.rd ?_ | refine WPl.sk ?_ | refine WPl.rdB ?_)
   | (refine isAl ?_; refine WPl.nw fun g => ?_)
   | (refine isSt ?_; first | refine WPl.st1 ?_ | refine WPl.stA ?_ | refine WPl.stEB ?_ | refine WPl.stRB ?_)
   | (refine WPl.spQ (fun hc => ?_) (fun hc => ?_) <;> try exact prA)
   | fail)
  all_goals try (first | exact WPq.dV | exact WPq.dR | exact WPq.dR2 | exact WPq.dH | exact WPq.dBH | exact WPq.dT)
theorem of4_t (v : Value) (l : List UInt8) (h : l.length = 4) : Triple Try.prog 103 #[v] [rb v l] (RVal (.tuple #[ag (adc (Adr.of4 l h)), .bool true])) := by
  refine Triple.enter Try.func103 rfl Try.ntmps103 rfl (fun W => ?_)
  dsimp only [argsF, Nat.reduceAdd]
  repeat' (first
   | refine WPl.nil ?_ | refine WPq.then ?_ | refine WPq.thenR ?_ | refine WPq.thenE ?_ | refine WPq.blockN ?_ | refine WPq.blockR ?_ | refine WPq.blockE ?_ | refine WPq.blockO rfl ?_ | refine WPc.seq ?_ | refine WPc.block ?_ | refine WPc.ret ?_ | refine WPc.exit ?_ | refine WPc.skip ?_ | refine WPc.region ?_
   | (refine isCond ?_; first | refine WPc.cT ?_ | refine WPc.cF ?_ | (refine WPc.cQ (fun hc => ?_) (fun hc => ?_) <;> try exact prA))
   | (refine isCl ?_; refine WPl.cV (last_t _ l h) ?_)
   | (refine isOp ?_; first | refine WPl.rd ?_ | refine WPl.sk ?_ | refine WPl.rdB ?_)
   | (refine isAl ?_; refine WPl.nw fun g => ?_)
   | (refine isSt ?_; first | refine WPl.st1 ?_ | refine WPl.stA ?_ | refine WPl.stEB ?_ | refine WPl.stRB ?_)
   | (refine WPl.spQ (fun hc => ?_) (fun hc => ?_) <;> try exact prA)
   | fail)
  all_goals try (first | exact WPq.dV | exact WPq.dR | exact WPq.dR2 | exact WPq.dH | exact WPq.dBH | exact WPq.dT)
theorem of6_t (v : Value) (l : List UInt8) (h : l.length = 16) : Triple Try.prog 103 #[v] [rb v l] (RVal (.tuple #[ag (adc (Adr.of6 l h)), .bool true])) := by
  refine Triple.enter Try.func103 rfl Try.ntmps103 rfl (fun W => ?_)
  dsimp only [argsF, Nat.reduceAdd]
  repeat' (first
   | refine WPl.nil ?_ | refine WPq.then ?_ | refine WPq.thenR ?_ | refine WPq.thenE ?_ | refine WPq.blockN ?_ | refine WPq.blockR ?_ | refine WPq.blockE ?_ | refine WPq.blockO rfl ?_ | refine WPc.seq ?_ | refine WPc.block ?_ | refine WPc.ret ?_ | refine WPc.exit ?_ | refine WPc.skip ?_ | refine WPc.region ?_
   | (refine isCond ?_; first | refine WPc.cT ?_ | refine WPc.cF ?_ | (refine WPc.cQ (fun hc => ?_) (fun hc => ?_) <;> try exact prA))
   | (refine isOp ?_; first | refine WPl.rd ?_ | refine WPl.sk ?_ | refine WPl.rdB ?_)
   | (refine isAl ?_; refine WPl.nw fun g => ?_)
   | (refine isSt ?_; first | refine WPl.st1 ?_ | refine WPl.stA ?_ | refine WPl.stEB ?_ | refine WPl.stRB ?_)
   | (refine WPl.spQ (fun hc => ?_) (fun hc => ?_) <;> try exact prA)
   | fail)
  all_goals try (first | exact WPq.dV | exact WPq.dR | exact WPq.dR2 | exact WPq.dH | exact WPq.dBH | exact WPq.dT)
theorem ofNo_t (v : Value) (l : List UInt8) (h : l.length ≠ 4) (h' : l.length ≠ 16) : Triple Try.prog 103 #[v] [rb v l] (RVal (.tuple #[ag (adc Adr.zero), .bool false])) := by
  refine Triple.enter Try.func103 rfl Try.ntmps103 rfl (fun W => ?_)
  dsimp only [argsF, Nat.reduceAdd]
  repeat' (first
   | refine WPl.nil ?_ | refine WPq.then ?_ | refine WPq.thenR ?_ | refine WPq.thenE ?_ | refine WPq.blockN ?_ | refine WPq.blockR ?_ | refine WPq.blockE ?_ | refine WPq.blockO rfl ?_ | refine WPc.seq ?_ | refine WPc.block ?_ | refine WPc.ret ?_ | refine WPc.exit ?_ | refine WPc.skip ?_ | refine WPc.region ?_
   | (refine isCond ?_; first | refine WPc.cT ?_ | refine WPc.cF ?_ | (refine WPc.cQ (fun hc => ?_) (fun hc => ?_) <;> try exact prA))
   | (refine isOp ?_; first | refine WPl.rd ?_ | refine WPl.sk ?_ | refine WPl.rdB ?_)
   | (refine isAl ?_; refine WPl.nw fun g => ?_)
   | (refine isSt ?_; first | refine WPl.st1 ?_ | refine WPl.stA ?_ | refine WPl.stEB ?_ | refine WPl.stRB ?_)
   | (refine WPl.spQ (fun hc => ?_) (fun hc => ?_) <;> try exact prA)
   | fail)
  all_goals try (first | exact WPq.dV | exact WPq.dR | exact WPq.dR2 | exact WPq.dH | exact WPq.dBH | exact WPq.dT)
theorem Adr.bits_le (a : Adr) : a.bytes.length * 8 = if a.six then 128 else 32 := by rw [a.bytes_len]; split <;> omega
/-- How many bits it has. -/
def Adr.bits (a : Adr) : Nat := if a.six then 128 else 32
theorem Adr.bits_len (a : Adr) : a.bytes.length * 8 = a.bits := a.bits_le
def Adr.maskOk (a : Adr) (n : Int) : Bool := a.good && decide (0 ≤ n ∧ n ≤ a.bits)
def Adr.masked (a : Adr) (n : Nat) : Adr := ⟨a.six, if a.six then maskB a.b n else List.replicate 12 0 ++ maskB (seg a.b 12 4) n, by
  have := a.len
  split
  · simp [this]
  · simp [seg, this]⟩
abbrev pfc (a : Adr) (n : Int) : Ch := [(1, [.bool a.six]), (16, u8s a.b), (1, [.int .i64 n])]
def maskA (a : Adr) (n : Int) : Adr := if a.maskOk n then a.masked n.toNat else Adr.zero
def maskN (a : Adr) (n : Int) : Int := if a.maskOk n then n else 0
theorem Adr.masked6 {a : Adr} (h : a.six = true) (n : Nat) : a.masked n = Adr.of6 (maskB a.bytes n) (by rw [maskB_length, a.bytes_len, if_pos h]) := by
  apply Adr.ext
  · exact h
  · simp [Adr.masked, Adr.of6, Adr.bytes, h]
theorem Adr.masked4 {a : Adr} (h : a.six = false) (n : Nat) : a.masked n = Adr.of4 (maskB a.bytes n) (by rw [maskB_length, a.bytes_len, h]; rfl) := by
  have hl : (maskB (seg a.b 12 4) n).length = 4 := by simp [seg, a.len]
  apply Adr.ext
  · exact h
  · simp only [Adr.masked, Adr.of4, Adr.bytes, h, over, Bool.false_eq_true, if_false]
    rw [hl]; simp

theorem BinR.shlMask {P : Program} {T : TypeId} {k2 : IntKind} {k : Nat} (hk : k ≤ 8) : BinR P .shl T (.int .u8 255) (.int k2 (8 - (k : Int))) (.int .u8 ((255 * 2 ^ (8 - k) % 256 : Nat) : Int)) := by
  have := BinR.shlN (P := P) (T := T) (k := .u8) (k2 := k2) (a := 255) (s := 8 - k) rfl (by show 8 - k ≤ 8; omega)
  rw [show ((8 - k : Nat) : Int) = 8 - (k : Int) by omega] at this
  exact this
theorem and_mask : ∀ (c : Fin 256) (s : Fin 9), c.val &&& (255 * 2 ^ s.val % 256) = c.val / 2 ^ s.val * 2 ^ s.val := by decide +kernel
theorem BinR.andMask {P : Program} {T : TypeId} {k : Nat} {c : UInt8} (hk : k ≤ 8) : BinR P .and T (.int .u8 ((c.toNat : Nat) : Int)) (.int .u8 ((255 * 2 ^ (8 - k) % 256 : Nat) : Int)) (.int .u8 (((mskb k c).toNat : Nat) : Int)) := by
  have h1 := c.toNat_lt
  have := BinR.andN (P := P) (T := T) (k := .u8) (a := c.toNat) (b := 255 * 2 ^ (8 - k) % 256) rfl (by exact h1) (by show _ < 2 ^ 8; omega)
  have e := and_mask ⟨c.toNat, by simpa using h1⟩ ⟨8 - k, by omega⟩
  simp only at e
  rw [e, ← mskb_toNat] at this
  exact this
theorem ReadR.minE {P : Program} {n : Nat} {Γ : List Asn} {F : List (Nat × Value)} {d : Option Tmp} {ty : TypeId} {pos : String} {af : Array Edge} {gd : Option (Nat × Bool)} {x y : Operand} {ts : Array TypeId} {k : IntKind} {a b : Int} (c : Int) (hx : evF F x = some (.int k a)) (hy : evF F y = some (.int k b)) (h : (if b < a then b else a) = c) :
    ReadR P n Γ F ⟨d, .call { callee := .builtin .min, args := #[x, y], argTypes := ts }, ty, pos, af, gd⟩ (.int k c) := h ▸ ReadR.min hx hy

end Go.Proofs.Yteofjhjhaaafjaa
