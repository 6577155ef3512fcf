/- Layer 3 (dev): bytes that are turned: Spoil of the program, and of the reference. -/
import Derived.Test.YtepmikgjnmjheaaEf
namespace Go.Proofs.Ytepmikgjnmjheaa
open Go.RowKit
set_option linter.unusedSimpArgs false
set_option linter.unusedVariables false
section
variable {P : Program} {T : TypeId} {k : IntKind}
theorem BinR.xorN {a b : Nat} (hk : isU k = true) (ha : a < 2 ^ kw k) (hb : b < 2 ^ kw k) : BinR P .xor T (.int k (a : Int)) (.int k (b : Int)) (.int k ((a ^^^ b : Nat) : Int)) := fun X Y w => by
  have h1 : (BitVec.ofInt k.bits (a : Int) ^^^ BitVec.ofInt k.bits (b : Int)).toNat = a ^^^ b := by
    rw [BitVec.toNat_xor, kw_bits, bv_nat ha, bv_nat hb]
  have e1 : a % 2 ^ k.bits = a := by rw [kw_bits]; exact Nat.mod_eq_of_lt ha
  have e2 : b % 2 ^ k.bits = b := by rw [kw_bits]; exact Nat.mod_eq_of_lt hb
  simp [eqGuard, binOp, Op.intBits, e1, e2, wrap_nat hk (Nat.xor_lt_two_pow ha hb)]
theorem BinR.xor8 {a b : UInt8} : BinR P .xor T (.int .u8 ((a.toNat : Nat) : Int)) (.int .u8 ((b.toNat : Nat) : Int)) (.int .u8 (((a ^^^ b).toNat : Nat) : Int)) := by
  rw [UInt8.toNat_xor]
  exact BinR.xorN rfl a.toNat_lt b.toNat_lt
theorem BinR.shrZ {k2 : IntKind} {a m z : Nat} {s : Int} (h : s = (m : Int)) (hs : m ≤ kw k) (hz : a / 2 ^ m = z) : BinR P .shr T (.int k (a : Int)) (.int k2 s) (.int k (z : Int)) := by
  subst h; subst hz
  exact BinR.shrN hs
end
section
variable {P : Program} {n : Nat} {Γ : List Asn} {F : List (Nat × Value)} {d : Option Tmp} {ty : TypeId} {pos : String} {af : Array Edge} {gd : Option (Nat × Bool)}
theorem ReadR.indexEA {T e : TypeId} {ag : Bool} {mm : Nat} [hT : ArrI P T mm e] [he : TyI P e ag 1] {x ix : Operand} {s : Value} {k : IntKind} {i j m : Nat} {xs : List Value} (hx : evF F x = some (.pointer (some (ela s i)))) (hi : evF F ix = some (.int k (Int.ofNat j))) (h : HasS Γ s m xs) (hlt : j < mm) (hl : i < xs.length) :
    ReadR P n Γ F ⟨d, .indexAddr T x ix, ty, pos, af, gd⟩ (.pointer (some (ela s (i + j)))) := fun ρ w hf hw => by
  have h5 : ¬ mm ≤ j := by omega
  obtain ⟨a, cap, hv', h1, h2, h3, h4⟩ := (h w hw).at
  obtain ⟨ad, rfl, _⟩ := h4 i _ (List.getElem?_eq_getElem hl)
  simp [execOp, hf.eval hx, hf.eval hi, Instr.indexAt, run_underlying hT.und, asIntOf, Instr.sureAddr, Sem.run_bind, h5, he.run_sizeOf, ela_add _ _ _ ⟨_, _, _, hv'⟩]
end
theorem xor_mod2 (x y : Nat) : (x ^^^ y) % 2 = (x + y) % 2 := by
  have h : (x ^^^ y) % 2 ^ 1 = x % 2 ^ 1 ^^^ y % 2 ^ 1 := Nat.xor_mod_two_pow ..
  rw [Nat.pow_one] at h
  rw [h, Nat.add_mod]
  rcases Nat.mod_two_eq_zero_or_one x with h1 | h1 <;> rcases Nat.mod_two_eq_zero_or_one y with h2 | h2 <;> rw [h1, h2] <;> rfl
theorem xor_step {a b m : Nat} : 2 * ((a ^^^ b) / 2 ^ (m + 1)) + (a / 2 ^ m + b / 2 ^ m) % 2 = (a ^^^ b) / 2 ^ m := by
  have h1 : (a ^^^ b) / 2 ^ m = (a / 2 ^ m) ^^^ (b / 2 ^ m) := Nat.xor_div_two_pow ..
  have h2 : (a ^^^ b) / 2 ^ (m + 1) = (a ^^^ b) / 2 ^ m / 2 := by rw [Nat.pow_succ, Nat.div_div_eq_div_mul]
  have h3 : ((a / 2 ^ m) ^^^ (b / 2 ^ m)) % 2 = (a / 2 ^ m + b / 2 ^ m) % 2 := xor_mod2 _ _
  rw [h2]
  omega
open Go.RowKit
set_option linter.unusedSimpArgs false
set_option linter.unusedVariables false
set_option maxRecDepth 20000
set_option maxHeartbeats 1000000
attribute [local irreducible] WPc WPl WPq ReadR OpT BinR HasS bx rdN rowN Take Takes Prov Triple ResF BuildP Done ag Int.decLt Int.decLe Int.instDecidableEq
attribute [local irreducible] mp rmp rg rgo bag vrow secs mput mget mfind mdel intsV skeys vault pickG fburn fb1 valsV zAt zB vers crashT intsN
def xorB (b : List UInt8) (at' : Nat) (by' : UInt8) : List UInt8 := b.set at' (b.getD at' 0 ^^^ by')
def Sec.xor (s : Sec) (at' : Nat) (by' : UInt8) : Sec := ⟨xorB s.b at' by', by unfold xorB; rw [List.length_set]; exact s.len⟩
theorem turned_t (bv : Value) (b : List UInt8) (at' : Nat) (b2 : UInt8) (hat : at' < b.length) (hb : b.length ≤ 100000) :
    Triple Try.prog 72 #[bv, .int .i64 (at' : Int), .int .u8 ((b2.toNat : Nat) : Int)] [rb bv b] (ROb (xorB b at' b2)) := by
  obtain ⟨b0, hb0⟩ : ∃ b0, b[at']? = some b0 := ⟨_, List.getElem?_eq_getElem hat⟩
  have hbv : (u8s b)[at']? = some (.int .u8 ((b0.toNat : Nat) : Int)) := by unfold u8s; rw [List.getElem?_map, hb0]; rfl
  have hx : xorB b at' b2 = b.set at' (b0 ^^^ b2) := by unfold xorB; rw [List.getD_eq_getElem?_getD, hb0]; rfl
  rw [hx]
  obtain ⟨C, hC⟩ : ∃ C, C = (b0 ^^^ b2).toNat := ⟨_, rfl⟩
  have hC8 : C < 256 := by rw [hC]; exact (b0 ^^^ b2).toNat_lt
  have hCx : C = b0.toNat ^^^ b2.toNat := by rw [hC, UInt8.toNat_xor]
  have hb08 := b0.toNat_lt
  have hb28 := b2.toNat_lt
  refine Triple.enter Try.func72 rfl Try.ntmps72 rfl (fun W => ?_)
  dsimp only [argsF, Nat.reduceAdd]
  repeat' (first
   | refine WPl.nil ?_ | refine WPq.then ?_ | refine WPq.thenR ?_ | refine WPq.thenE ?_ | refine WPq.blockN ?_ | refine WPq.blockR ?_ | refine WPq.blockE ?_ | refine WPq.blockO rfl ?_ | refine WPc.seq ?_ | refine WPc.block ?_ | refine WPc.ret ?_ | refine WPc.exit ?_ | refine WPc.skip ?_ | refine WPc.region ?_
   | (refine isCond ?_; first | refine WPc.cT ?_ | refine WPc.cF ?_ | (refine WPc.cQ (fun hc => ?_) (fun hc => ?_) <;> try exact prA))
   | (refine isLit ?_; refine WPl.lit fun v10 hv10 => ?_)
   | (refine isApp ?_; refine WPl.app fun v12 hv12 => ?_)
   | (refine isOp ?_; first | refine WPl.rd ?_ | refine WPl.sk ?_ | refine WPl.rdB ?_)
   | (refine isSt ?_; first | refine WPl.st1 ?_ | refine WPl.stA ?_ | refine WPl.stEB ?_ | refine WPl.stRB ?_)
   | (show WPl _ _ _ _ _ _ _ (⟨_, .indexAddr _ _ _, _, _, _, _⟩ :: _) _; refine WPl.rdX (ReadR.indexE rfl rfl hasA (by first | assumption | omega)) ?_)
   | (show WPl _ _ _ _ _ _ _ (⟨_, .fieldAddr _ _ _, _, _, _, _⟩ :: _) _; refine WPl.rdX (ReadR.fieldE rfl hasA (by first | assumption | omega)) ?_)
   | (show WPl _ _ _ _ _ _ _ (⟨_, .load _ _, _, _, _, _⟩ :: _) _; first | refine WPl.rdX (ReadR.loadE rfl hasA (by assumption)) ?_ | refine WPl.rdX (ReadR.loadES (by assumption) (by first | assumption | omega) rfl hasA) ?_)
   | (show WPl _ _ _ _ _ _ _ (⟨_, .slice _ _ _ _ _, _, _, _, _⟩ :: _) _; first | refine WPl.rdX (ReadR.sliceH rfl rfl hasA (by omega)) ?_ | refine WPl.rdX (ReadR.sliceL rfl rfl hasA (by omega)) ?_ | refine WPl.rdX (ReadR.sliceLH rfl rfl rfl hasA (by omega) (by omega)) ?_)
   | (refine WPl.spQ (fun hc => ?_) (fun hc => ?_) <;> try exact prA)
   | fail)
  rw [show nbs [] ++ b = b from rfl]
  first | refine WPc.loop (σ := Nat × Int × Int) (fun st => st.1 ≤ 8 ∧ st.2.1 = ((C / 2 ^ st.1 : Nat) : Int) ∧ st.2.2 = (st.1 : Int) - 1) (fun st => [rb bv b, ob v12 b]) (fun st => [(0, bv), (1, .int .i64 (at' : Int)), (2, .int .u8 ((b2.toNat : Nat) : Int)), (7, v12), (8, .int .u8 st.2.1), (9, .int .i64 st.2.2)]) (fun st => st.1) ((8, 0, 7)) ?_ takesA frsA (fun st km hx hk => ?_)
  · refine ⟨Nat.le_refl _, ?_, rfl⟩
    show (0 : Int) = ((C / 256 : Nat) : Int)
    omega
  obtain ⟨st, x, y⟩ := st
  obtain ⟨h8, hxx, hyy⟩ := hx
  dsimp only at h8 hxx hyy hk ⊢
  have hkm : km = st := hk
  clear hk
  cases st with
  | zero =>
    have hxc : x = (((b0 ^^^ b2).toNat : Nat) : Int) := by rw [hxx, Nat.pow_zero, Nat.div_one, hC]
    subst hxc
    repeat' (first
     | refine WPl.nil ?_ | refine WPq.then ?_ | refine WPq.thenR ?_ | refine WPq.thenE ?_ | refine WPq.blockN ?_ | refine WPq.blockR ?_ | refine WPq.blockE ?_ | refine WPq.blockO rfl ?_ | refine WPc.seq ?_ | refine WPc.block ?_ | refine WPc.ret ?_ | refine WPc.exit ?_ | refine WPc.skip ?_ | refine WPc.region ?_
     | (refine isCond ?_; first | refine WPc.cT ?_ | refine WPc.cF ?_ | (refine WPc.cQ (fun hc => ?_) (fun hc => ?_) <;> try first | exact prA | (exfalso; first | omega)))
     | (show WPl _ _ _ _ _ _ _ (⟨_, .store _ (.tmp 36) _, _, _, _, _⟩ :: _) _; first | refine WPl.stEB (b := (b0 ^^^ b2)) ?_ | refine WPl.stRB (b := (b0 ^^^ b2)) ?_)
     | (refine isOp ?_; first | refine WPl.rd ?_ | refine WPl.sk ?_ | refine WPl.rdB ?_)
     | (refine isSt ?_; first | refine WPl.st1 ?_ | refine WPl.stA ?_ | refine WPl.stEB ?_ | refine WPl.stRB ?_)
     | (show WPl _ _ _ _ _ _ _ (⟨_, .indexAddr _ _ _, _, _, _, _⟩ :: _) _; refine WPl.rdX (ReadR.indexE rfl rfl hasA (by first | assumption | omega)) ?_)
     | (show WPl _ _ _ _ _ _ _ (⟨_, .fieldAddr _ _ _, _, _, _, _⟩ :: _) _; refine WPl.rdX (ReadR.fieldE rfl hasA (by first | assumption | omega)) ?_)
     | (show WPl _ _ _ _ _ _ _ (⟨_, .load _ _, _, _, _, _⟩ :: _) _; first | refine WPl.rdX (ReadR.loadE rfl hasA (by assumption)) ?_ | refine WPl.rdX (ReadR.loadES (by assumption) (by first | assumption | omega) rfl hasA) ?_)
     | (show WPl _ _ _ _ _ _ _ (⟨_, .slice _ _ _ _ _, _, _, _, _⟩ :: _) _; first | refine WPl.rdX (ReadR.sliceH rfl rfl hasA (by omega)) ?_ | refine WPl.rdX (ReadR.sliceL rfl rfl hasA (by omega)) ?_ | refine WPl.rdX (ReadR.sliceLH rfl rfl rfl hasA (by omega) (by omega)) ?_)
     | (refine WPl.spQ (fun hc => ?_) (fun hc => ?_) <;> try first | exact prA | (exfalso; first | omega))
     | fail)
    exact WPq.dR
  | succ m =>
    have hy0 : y ≥ 0 := by omega
    have hst := xor_step (a := b0.toNat) (b := b2.toNat) (m := m)
    rw [← hCx] at hst
    obtain ⟨z1, hz1⟩ : ∃ z1, b0.toNat / 2 ^ m = z1 := ⟨_, rfl⟩
    obtain ⟨z2, hz2⟩ : ∃ z2, b2.toNat / 2 ^ m = z2 := ⟨_, rfl⟩
    obtain ⟨q, hq⟩ : ∃ q, C / 2 ^ m = q := ⟨_, rfl⟩
    obtain ⟨q2, hq2⟩ : ∃ q2, C / 2 ^ (m + 1) = q2 := ⟨_, rfl⟩
    have h1l : z1 < 256 := by rw [← hz1]; exact Nat.lt_of_le_of_lt (Nat.div_le_self _ _) hb08
    have h2l : z2 < 256 := by rw [← hz2]; exact Nat.lt_of_le_of_lt (Nat.div_le_self _ _) hb28
    have hql : q < 256 := by rw [← hq]; exact Nat.lt_of_le_of_lt (Nat.div_le_self _ _) hC8
    rw [hz1, hz2, hq, hq2] at hst
    rw [hq2] at hxx
    have hw24 : IntKind.u64.wrap y = y := by rw [IntKind.wrap_u64]; omega
    have hw30 : IntKind.u8.wrap ((z1 : Int) + (z2 : Int)) = (((z1 + z2) % 256 : Nat) : Int) := by rw [IntKind.wrap_u8]; omega
    have hw31 : (((z1 + z2) % 256 : Nat) : Int) % 2 = (((z1 + z2) % 2 : Nat) : Int) := by omega
    have hw32 : 2 * x + (((z1 + z2) % 2 : Nat) : Int) = (q : Int) := by omega
    have hym : y = (m : Int) := by omega
    have hm8 : m ≤ kw .u8 := by show m ≤ 8; omega
    repeat' (first
     | refine WPl.nil ?_ | refine WPq.then ?_ | refine WPq.thenR ?_ | refine WPq.thenE ?_ | refine WPq.blockN ?_ | refine WPq.blockR ?_ | refine WPq.blockE ?_ | refine WPq.blockO rfl ?_ | refine WPc.seq ?_ | refine WPc.block ?_ | refine WPc.ret ?_ | refine WPc.exit ?_ | refine WPc.skip ?_ | refine WPc.region ?_
     | (refine isCond ?_; first | refine WPc.cT ?_ | refine WPc.cF ?_ | (refine WPc.cQ (fun hc => ?_) (fun hc => ?_) <;> try exact prA))
     | (refine isD 14 ?_; refine WPl.rdX (ReadR.binE rfl rfl BinR.geq (congrArg Value.bool (decide_eq_true hy0))) ?_)
     | (refine isD 18 ?_; refine WPl.rdX (ReadR.binE rfl rfl (BinR.mulK (by simp only [kmin]; omega) (by simp only [kmax]; omega)) rfl) ?_)
     | (refine isD 21 ?_; refine WPl.rdX (ReadR.indexE1 (i := at') rfl rfl hasA hat) ?_)
     | (refine isD 22 ?_; refine WPl.rdX (ReadR.loadE rfl hasA hbv) ?_)
     | (refine isD 24 ?_; refine WPl.rdX (ReadR.conv rfl hw24) ?_)
     | (refine isD 28 ?_; refine WPl.rdX (ReadR.conv rfl hw24) ?_)
     | (refine isD 25 ?_; refine WPl.rdX (ReadR.binE rfl rfl (BinR.shrZ hym hm8 hz1) rfl) ?_)
     | (refine isD 29 ?_; refine WPl.rdX (ReadR.binE rfl rfl (BinR.shrZ hym hm8 hz2) rfl) ?_)
     | (refine isD 30 ?_; refine WPl.rdX (ReadR.binE rfl rfl BinR.addW (congrArg (Value.int .u8) hw30)) ?_)
     | (refine isD 31 ?_; refine WPl.rdX (ReadR.binE rfl rfl (BinR.remK (by omega) (by omega)) (congrArg (Value.int .u8) hw31)) ?_)
     | (refine isD 32 ?_; refine WPl.rdX (ReadR.binE rfl rfl (BinR.addK (by simp only [kmin]; omega) (by simp only [kmax]; omega)) (congrArg (Value.int .u8) hw32)) ?_)
     | (refine isOp ?_; first | refine WPl.rd ?_ | refine WPl.sk ?_ | refine WPl.rdB ?_)
     | (refine isSt ?_; first | refine WPl.st1 ?_ | refine WPl.stA ?_ | refine WPl.stEB ?_ | refine WPl.stRB ?_)
     | (show WPl _ _ _ _ _ _ _ (⟨_, .indexAddr _ _ _, _, _, _, _⟩ :: _) _; refine WPl.rdX (ReadR.indexE rfl rfl hasA (by first | assumption | omega)) ?_)
     | (show WPl _ _ _ _ _ _ _ (⟨_, .fieldAddr _ _ _, _, _, _, _⟩ :: _) _; refine WPl.rdX (ReadR.fieldE rfl hasA (by first | assumption | omega)) ?_)
     | (show WPl _ _ _ _ _ _ _ (⟨_, .load _ _, _, _, _, _⟩ :: _) _; first | refine WPl.rdX (ReadR.loadE rfl hasA (by assumption)) ?_ | refine WPl.rdX (ReadR.loadES (by assumption) (by first | assumption | omega) rfl hasA) ?_)
     | (show WPl _ _ _ _ _ _ _ (⟨_, .slice _ _ _ _ _, _, _, _, _⟩ :: _) _; first | refine WPl.rdX (ReadR.sliceH rfl rfl hasA (by omega)) ?_ | refine WPl.rdX (ReadR.sliceL rfl rfl hasA (by omega)) ?_ | refine WPl.rdX (ReadR.sliceLH rfl rfl rfl hasA (by omega) (by omega)) ?_)
     | (refine WPl.spQ (fun hc => ?_) (fun hc => ?_) <;> try exact prA)
     | fail)
    refine WPq.rnd (m, (q : Int), y - 1) ⟨by dsimp only; omega, by dsimp only; rw [hq], by dsimp only; omega⟩ (by dsimp only; omega)
end Go.Proofs.Ytepmikgjnmjheaa
