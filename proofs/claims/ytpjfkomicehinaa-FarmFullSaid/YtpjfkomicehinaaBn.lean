/- Separation: what numbers do, as the walk meets them, of all kinds. -/
import Derived.Test.YtpjfkomicehinaaSA
namespace Go.Proofs.Ytpjfkomicehinaa
open Go.RowKit
set_option linter.unusedSimpArgs false
set_option linter.unusedVariables false

def kmin : IntKind → Int
  | .u8 | .u16 | .u32 | .u64 => 0
  | .i8 => -128 | .i16 => -32768 | .i32 => -2147483648 | .i64 => -9223372036854775808
def kmax : IntKind → Int
  | .u8 => 255 | .u16 => 65535 | .u32 => 4294967295 | .u64 => 18446744073709551615
  | .i8 => 127 | .i16 => 32767 | .i32 => 2147483647 | .i64 => 9223372036854775807
theorem wrapK {k : IntKind} {a : Int} (h1 : kmin k ≤ a) (h2 : a ≤ kmax k) : k.wrap a = a := by
  cases k <;> simp only [kmin, kmax] at h1 h2 <;> simp [IntKind.wrap, IntKind.bits, IntKind.signed] <;> omega

variable {P : Program} {T : TypeId} {k k2 : IntKind} {a b : Int}
theorem BinR.addK (h1 : kmin k ≤ a + b) (h2 : a + b ≤ kmax k) : BinR P .add T (.int k a) (.int k b) (.int k (a + b)) := BinR.addW.of (by rw [wrapK h1 h2])
theorem BinR.subK (h1 : kmin k ≤ a - b) (h2 : a - b ≤ kmax k) : BinR P .sub T (.int k a) (.int k b) (.int k (a - b)) := BinR.subW.of (by rw [wrapK h1 h2])
theorem BinR.mulK (h1 : kmin k ≤ a * b) (h2 : a * b ≤ kmax k) : BinR P .mul T (.int k a) (.int k b) (.int k (a * b)) := BinR.mulW.of (by rw [wrapK h1 h2])
theorem BinR.quoK (h0 : 0 ≤ a) (hb : 0 < b) (h2 : a ≤ kmax k) : BinR P .quo T (.int k a) (.int k b) (.int k (a / b)) := fun X Y w => by
  have hne : b ≠ 0 := by omega
  have e : a.tdiv b = a / b := Int.tdiv_eq_ediv_of_nonneg h0
  have h3 : 0 ≤ a / b := Int.ediv_nonneg h0 (by omega)
  have h4 : a / b ≤ a := Int.ediv_le_self _ h0
  have h5 : kmin k ≤ 0 := by cases k <;> decide
  simp [eqGuard, binOp, Op.intDiv, hne, e, wrapK (k := k) (a := a / b) (by omega) (by omega)]
theorem BinR.remK (h0 : 0 ≤ a) (hb : 0 < b) : BinR P .rem T (.int k a) (.int k b) (.int k (a % b)) := fun X Y w => by
  have hne : b ≠ 0 := by omega
  have e : a.tmod b = a % b := Int.tmod_eq_emod_of_nonneg h0
  simp [eqGuard, binOp, Op.intDiv, hne, e]
/-- A shift by a number that is written. -/
theorem BinR.shlK {n : Nat} {s : Int} (hs : s = Int.ofNat n) (hn : Nat.ble n (kw k) = true) (h1 : kmin k ≤ a * 2 ^ n) (h2 : a * 2 ^ n ≤ kmax k) : BinR P .shl T (.int k a) (.int k2 s) (.int k (a * 2 ^ n)) := fun X Y w => by
  subst hs
  have h0 : ¬ ((n : Nat) : Int) < 0 := by omega
  have hm : min n k.bits = n := by rw [kw_bits]; exact Nat.min_eq_left (Nat.le_of_ble_eq_true hn)
  simp only [eqGuard, binOp, Op.shift, Int.ofNat_eq_natCast, h0, if_false, Int.toNat_natCast, hm]
  rw [wrapK h1 h2]
  simp
theorem BinR.shrK {n : Nat} {s : Int} (hs : s = Int.ofNat n) (hn : Nat.ble n (kw k) = true) : BinR P .shr T (.int k a) (.int k2 s) (.int k (a / 2 ^ n)) := fun X Y w => by
  subst hs
  have h0 : ¬ ((n : Nat) : Int) < 0 := by omega
  have hm : min n k.bits = n := by rw [kw_bits]; exact Nat.min_eq_left (Nat.le_of_ble_eq_true hn)
  simp only [eqGuard, binOp, Op.shift, Int.ofNat_eq_natCast, h0, if_false, Int.toNat_natCast, hm]
  rw [Int.fdiv_eq_ediv_of_nonneg _ (by exact Int.le_of_lt (Int.pow_pos (by decide)))]
  simp
theorem kmax_lt (hk : isU k = true) : kmax k < ((2 ^ kw k : Nat) : Int) := by cases k <;> simp [isU] at hk <;> simp [kmax, kw]
theorem BinR.andZ (hk : isU k = true) (ha : 0 ≤ a) (ha' : a ≤ kmax k) (hb : 0 ≤ b) (hb' : b ≤ kmax k) : BinR P .and T (.int k a) (.int k b) (.int k ((a.toNat &&& b.toNat : Nat) : Int)) := by
  have hl := kmax_lt hk
  have := BinR.andN (P := P) (T := T) (k := k) (a := a.toNat) (b := b.toNat) hk (by omega) (by omega)
  rwa [Int.toNat_of_nonneg ha, Int.toNat_of_nonneg hb] at this
theorem BinR.orZ (hk : isU k = true) (ha : 0 ≤ a) (ha' : a ≤ kmax k) (hb : 0 ≤ b) (hb' : b ≤ kmax k) : BinR P .or T (.int k a) (.int k b) (.int k ((a.toNat ||| b.toNat : Nat) : Int)) := by
  have hl := kmax_lt hk
  have := BinR.orN (P := P) (T := T) (k := k) (a := a.toNat) (b := b.toNat) hk (by omega) (by omega)
  rwa [Int.toNat_of_nonneg ha, Int.toNat_of_nonneg hb] at this
/-- A number's lowest bits. -/
theorem BinR.andLow {n : Nat} {m : Int} (hk : isU k = true) (hm : b = m) (hn : m + 1 = ((2 ^ n : Nat) : Int)) (ha : 0 ≤ a) (ha' : a ≤ kmax k) (hb' : m ≤ kmax k) : BinR P .and T (.int k a) (.int k b) (.int k (a % (m + 1))) := by
  subst hm
  have hp : 0 < 2 ^ n := Nat.pow_pos (by decide)
  have hb : 0 ≤ b := by omega
  refine (BinR.andZ hk ha ha' hb hb').of ?_
  have e : b.toNat = 2 ^ n - 1 := by omega
  rw [e, Nat.and_two_pow_sub_one_eq_mod, hn, Int.natCast_emod, Int.toNat_of_nonneg ha]
/-- Two numbers' bits, side by side. -/
theorem BinR.orAdd {n : Nat} (hk : isU k = true) (ha : 0 ≤ a) (hab : a * 2 ^ n + b ≤ kmax k) (hb : 0 ≤ b) (hb' : b < 2 ^ n) : BinR P .or T (.int k (a * 2 ^ n)) (.int k b) (.int k (a * 2 ^ n + b)) := by
  have h0 : 0 ≤ a * 2 ^ n := Int.mul_nonneg ha (Int.le_of_lt (Int.pow_pos (by decide)))
  refine (BinR.orZ hk h0 (by omega) hb (by omega)).of ?_
  have e : (a * 2 ^ n).toNat = a.toNat * 2 ^ n := by
    obtain ⟨x, rfl⟩ := Int.eq_ofNat_of_zero_le ha
    have : ((x : Int) * 2 ^ n) = ((x * 2 ^ n : Nat) : Int) := by simp
    rw [this, Int.toNat_natCast, Int.toNat_natCast]
  have hb2 : b.toNat < 2 ^ n := by
    have : ((b.toNat : Nat) : Int) < ((2 ^ n : Nat) : Int) := by rw [Int.toNat_of_nonneg hb]; simpa using hb'
    omega
  rw [e, or_add hb2, ← e]
  congr 1
  omega

section
variable {n : Nat} {Γ : List Asn} {F : List (Nat × Value)} {d : Option Tmp} {ty : TypeId} {pos : String} {af : Array Edge} {gd : Option (Nat × Bool)}
/-- All bits turned. -/
theorem ReadR.xorU {x : Operand} {T : TypeId} (hx : evF F x = some (.int k a)) (hk : isU k = true) (h0 : 0 ≤ a) (h1 : a ≤ kmax k) : ReadR P n Γ F ⟨d, .unOp .xor T x, ty, pos, af, gd⟩ (.int k (kmax k - a)) := fun ρ w hf hw => by
  have hl := kmax_lt hk
  obtain ⟨m, rfl⟩ := Int.eq_ofNat_of_zero_le h0
  have e : (BitVec.ofInt k.bits k.max ^^^ BitVec.ofInt k.bits (m : Int)).toNat = 2 ^ kw k - 1 - m := by
    have e1 : BitVec.ofInt k.bits k.max = BitVec.allOnes k.bits := by cases k <;> simp [isU] at hk <;> decide
    rw [e1, BitVec.allOnes_xor, BitVec.toNat_not, kw_bits, bv_nat (by omega)]
  have hs : k.signed = false := by cases k <;> simp [isU] at hk <;> rfl
  have hmx : kmax k = ((2 ^ kw k - 1 : Nat) : Int) := by cases k <;> simp [isU] at hk <;> decide
  have h5 : kmin k = 0 := by cases k <;> simp [isU] at hk <;> rfl
  have e2 : k.wrap (((2 ^ kw k - 1 - m : Nat) : Int)) = kmax k - (m : Int) := by
    rw [wrapK (by rw [h5]; omega) (by rw [hmx]; omega), hmx]; omega
  simp only [execOp, hf.eval hx, Op.unary, hs, Bool.false_eq_true, if_false, Op.intBits, e, e2]
  simp
theorem idxZ {x : Operand} {c : Int} (h : evF F x = some (.int k c)) (h0 : 0 ≤ c) : evF F x = some (.int k (Int.ofNat c.toNat)) := by
  rw [Int.ofNat_eq_natCast, Int.toNat_of_nonneg h0]; exact h
end

theorem boolV {p q : Prop} [Decidable p] [Decidable q] (h : p ↔ q) : Value.bool (decide p) = .bool (decide q) := by rw [decide_eq_decide.2 h]
theorem intV {k : IntKind} {a b : Int} (h : a = b) : Value.int k a = .int k b := by rw [h]
theorem agV {cs ds : Ch} (h : cs = ds) : ag cs = ag ds := by rw [h]
theorem tup2V {a b c d : Value} (h : a = c) (k : b = d) : resV [a, b] = .tuple #[c, d] := by rw [h, k]; rfl
theorem binB {op : BinOp} {a b v : Value} (h : BinR P op T a b v := by first | exact binA | (apply BinR.addK; (simp only [kmin]; omega); (simp only [kmax]; omega)) | (apply BinR.subK; (simp only [kmin]; omega); (simp only [kmax]; omega)) | (apply BinR.mulK; (simp only [kmin]; omega); (simp only [kmax]; omega)) | (apply BinR.quoK; omega; omega; (simp only [kmax]; omega)) | (apply BinR.remK; omega; omega) | (apply BinR.shrK; exact rfl; exact rfl) | (apply BinR.shlK; exact rfl; exact rfl; (simp only [kmin]; omega); (simp only [kmax]; omega)) | (apply BinR.orAdd; exact rfl; omega; (simp only [kmax]; omega); omega; omega) | (apply BinR.andLow (n := 4); exact rfl; exact rfl; exact rfl; omega; (simp only [kmax]; omega); (simp only [kmax]; omega)) | (apply BinR.andLow (n := 16); exact rfl; exact rfl; exact rfl; omega; (simp only [kmax]; omega); (simp only [kmax]; omega)) | fail) : BinR P op T a b v := h

section
variable {n : Nat} {W : World} {S : Nat → Prop} {Γ : List Asn} {F : List (Nat × Value)} {Q : Exit → Act → World → Prop}
variable {ops : Array Oper} {os : List Oper} {o : Oper} {d : Tmp}
theorem convB (h : k.wrap a = a := by first | exact convA | (apply wrapK; (simp only [kmin]; omega); (simp only [kmax]; omega)) | fail) : k.wrap a = a := h
theorem readB {v : Value} (h : ReadR P n Γ F o v := by first | (apply ReadR.bin; exact rfl; exact rfl; exact binB) | (apply ReadR.xorU; exact rfl; exact rfl; omega; (simp only [kmax]; omega)) | (apply ReadR.conv; exact rfl; exact convB) | (apply ReadR.indexE1; exact rfl; (apply idxZ; exact rfl; omega); exact hasA; omega) | (apply ReadR.indexR; exact rfl; (apply idxZ; exact rfl; omega); omega) | (apply ReadR.sliceLH; exact rfl; (first | exact idxA | (apply idxZ; exact rfl; omega)); (first | exact idxA | (apply idxZ; exact rfl; omega)); exact hasA; omega; omega) | (apply ReadR.sliceL; exact rfl; (apply idxZ; exact rfl; omega); exact hasA; omega) | (apply ReadR.sliceH; exact rfl; (apply idxZ; exact rfl; omega); exact hasA; omega) | (apply ReadR.arrL; exact rfl; (apply idxZ; exact rfl; omega); omega) | fail) : ReadR P n Γ F o v := h
/-- A read of the second kind. -/
theorem WPl.rdB {v : Value} (k : WPl P n W S Γ ((d, v) :: F) ops os Q) (hd : o.dst = some d := by first | rfl | fail) (hlt : Nat.blt d n = true := by first | rfl | fail) (hw : wantG F ops o.guard = some true := by first | rfl | fail) (h : ReadR P n Γ F o v := by first | exact readB | fail) :
    WPl P n W S Γ F ops (o :: os) Q := WPl.read hd hlt hw h k

/-- The rule of a call that takes some of the state, and gives it back. -/
theorem WPl.cO {d : Option Tmp} {f : FuncId} {xs : List Operand} {ts : Array TypeId} {ty : TypeId} {pos : String} {af : Array Edge} {gd : Option (Nat × Bool)} {vs : List Value} {Δ Γo Γf : List Asn} {R : Value → List Asn → Prop}
    (h : Triple P f vs.toArray (Δ ++ Γo) R) (k : ∀ v Γ', R v Γ' → WPl P n W S (Γ' ++ Γf) (putF F d v) ops os Q) (hfp : ∀ A, A ∈ Δ → ∀ g, A.fp g → ∃ B, B ∈ Γf ∧ B.fp g) (hx : evFs F xs vs := by first | exact evsA | fail) (hp : Takes Γ Γo Γf := by first | exact takesA | fail) (hΔ : Provs Γf Δ := by first | exact provsA | fail) (hc : isCode P f = true := by first | kernel_rfl | fail) (hd : dstOk n d = true := by first | rfl | fail) (hw : wantG F ops gd = some true := by first | rfl | fail) :
    WPl P n W S Γ F ops (⟨d, .call { callee := .value (.func f), args := xs.toArray, argTypes := ts }, ty, pos, af, gd⟩ :: os) Q := WPl.callO h hx hp hΔ hfp hc hd hw k
/-- Such a call that gives a value, and turns one block. -/
def RTurn (c : Value) (A : Asn) : Value → List Asn → Prop := fun v Γ => v = c ∧ Γ = [A]
theorem fpRd {Γf : List Asn} {v : Value} {m : Nat} {xs : List Value} (h : rdN v m xs ∈ Γf) : ∀ A, A ∈ [rdN v m xs] → ∀ g, A.fp g → ∃ B, B ∈ Γf ∧ B.fp g := fun A hA g hg => ⟨_, h, by rw [← List.mem_singleton.1 hA]; exact hg⟩
theorem fpOb {Γf : List Asn} {e : TypeId} {sz : Nat} {v : Value} {m : Nat} {xs : List Value} (h : rowN e sz v m xs ∈ Γf) : ∀ A, A ∈ [rdN v m xs] → ∀ g, A.fp g → ∃ B, B ∈ Γf ∧ B.fp g := fun A hA g hg => ⟨_, h, by rw [List.mem_singleton.1 hA] at hg; exact hg.2⟩
theorem fpNil {Γf : List Asn} : ∀ A, A ∈ ([] : List Asn) → ∀ g, A.fp g → ∃ B, B ∈ Γf ∧ B.fp g := fun _ h => by cases h
theorem fpA {Γf Δ : List Asn} (h : ∀ A, A ∈ Δ → ∀ g, A.fp g → ∃ B, B ∈ Γf ∧ B.fp g := by first | exact fpNil | exact fpRd memA | exact fpOb memA | fail) : ∀ A, A ∈ Δ → ∀ g, A.fp g → ∃ B, B ∈ Γf ∧ B.fp g := h
theorem WPl.cT {d : Option Tmp} {f : FuncId} {xs : List Operand} {ts : Array TypeId} {ty : TypeId} {pos : String} {af : Array Edge} {gd : Option (Nat × Bool)} {vs : List Value} {Δ Γf : List Asn} {A B : Asn} {c : Value}
    (h : Triple P f vs.toArray (Δ ++ [A]) (RTurn c B)) (k : WPl P n W S (B :: Γf) (putF F d c) ops os Q) (hx : evFs F xs vs := by first | exact evsA | fail) (hp : Takes Γ [A] Γf := by first | exact takesA | fail) (hfp : ∀ A, A ∈ Δ → ∀ g, A.fp g → ∃ B, B ∈ Γf ∧ B.fp g := by first | exact fpA | fail) (hΔ : Provs Γf Δ := by first | exact provsA | fail) (hc : isCode P f = true := by first | kernel_rfl | fail) (hd : dstOk n d = true := by first | rfl | fail) (hw : wantG F ops gd = some true := by first | rfl | fail) :
    WPl P n W S Γ F ops (⟨d, .call { callee := .value (.func f), args := xs.toArray, argTypes := ts }, ty, pos, af, gd⟩ :: os) Q :=
  WPl.callO h hx hp hΔ hfp hc hd hw (by rintro v Γ' ⟨rfl, rfl⟩; exact k)
theorem WPq.dT {fn : Func} {rs : List ResultVar} {vs : List Value} {c : Value} {A : Asn} {Γx : List Asn} {e : Exit} (he : e = .ret ∨ e = .normal := by first | exact .inl rfl | exact .inr rfl | fail) (hr : fn.results = rs.toArray := by first | rfl | fail) (h : ResF P Γ F rs vs := by first | exact resA | fail) (hp : Takes Γ [A] Γx := by first | exact takesA | fail) (hc : resV vs = c := by first | rfl | fail) (ho : A.own = true := by first | exact bx_own | exact rowN_own | rfl | fail) :
    WPq n W S Γ F (Done P fn W S (RTurn c A)) e := WPq.done he hr h hp (fun B hB => by rw [List.mem_singleton.1 hB]; exact ho) ⟨hc, rfl⟩
end
end Go.Proofs.Ytpjfkomicehinaa
