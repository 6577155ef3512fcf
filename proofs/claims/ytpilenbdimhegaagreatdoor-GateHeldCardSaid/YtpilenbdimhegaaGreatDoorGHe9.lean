/- What the row of gateHeld_card_holds needs: part 9. -/
import Derived.Test.YtpilenbdimhegaaGreatDoorGHe8
import Derived.Test.YtpilenbdimhegaaGreatDoorGHe4
import Derived.Lib.Bytealg
import Derived.Laws.Externs
import Derived.Shelf.SlGeneric
import Derived.Shelf.SlSortCmp.NoneTotal
import Derived.Shelf.Small.Bits
import Derived.Test.YtpilenbdimhegaaGreatDoorProg
import Derived.Test.YtpilenbdimhegaaGreatDoorGHe7
import Derived.Test.YtpilenbdimhegaaGreatDoorGHe5
/- Orders by which lists are sorted; bytes compared. -/
namespace Go.Proofs.YtpilenbdimhegaaGreatDoor
open Go.RowKit Go.Sort Go.Lib
set_option linter.unusedSimpArgs false
set_option linter.unusedVariables false
/-- A comparison: total, and it leads on. -/
structure TC {α : Type} (f : α → α → Int) : Prop where
  flip : ∀ x y, f x y < 0 ↔ 0 < f y x
  trans : ∀ x y z, f x y ≤ 0 → f y z ≤ 0 → f x z ≤ 0
section
variable {α β : Type} {f g : α → α → Int}
theorem TC.swo (h : TC f) : SWO (ltOf f) where
  irrefl x := by
    have := h.flip x x
    simp only [ltOf, decide_eq_false_iff_not]; omega
  trans x y z h1 h2 := by
    simp only [ltOf, decide_eq_true_eq] at *
    have a1 := h.trans x y z (by omega) (by omega)
    rcases Int.lt_or_le (f x z) 0 with h3 | h3
    · exact h3
    · have f1 := h.flip y z
      have f2 := h.flip z x
      have f3 := h.flip x z
      have := h.trans z x y (by omega) (by omega)
      omega
  ntrans x y z h1 h2 := by
    simp only [ltOf, decide_eq_false_iff_not] at *
    have f1 := h.flip x y
    have f2 := h.flip y x
    have f3 := h.flip y z
    have f4 := h.flip z y
    have f5 := h.flip x z
    have f6 := h.flip z x
    have := h.trans z y x (by omega) (by omega)
    omega
theorem TC.zero (h : TC f) {x y : α} : f x y = 0 ↔ f y x = 0 := by
  have f1 := h.flip x y
  have f2 := h.flip y x
  omega
theorem TC.pull (h : TC f) (k : β → α) : TC (fun x y => f (k x) (k y)) := ⟨fun x y => h.flip _ _, fun x y z => h.trans _ _ _⟩
def lexC (f g : α → α → Int) (x y : α) : Int := if f x y ≠ 0 then f x y else g x y
theorem TC.lex (h : TC f) (k : TC g) : TC (lexC f g) := by
  constructor
  · intro x y
    have a1 := h.flip x y
    have a2 := h.flip y x
    have b1 := k.flip x y
    unfold lexC
    split <;> split <;> omega
  · intro x y z
    have a1 := h.trans x y z
    have a2 := h.trans z x y
    have a3 := h.trans y z x
    have f1 := h.flip x y
    have f2 := h.flip y x
    have f3 := h.flip y z
    have f4 := h.flip z y
    have f5 := h.flip x z
    have f6 := h.flip z x
    have b1 := k.trans x y z
    unfold lexC
    split <;> split <;> split <;> omega
theorem TC.int : TC compareInt where
  flip x y := by unfold compareInt; repeat' split
                 all_goals omega
  trans x y z := by unfold compareInt; repeat' split
                    all_goals omega
theorem cb_neg : ∀ a b : List UInt8, compareBytes a b = - compareBytes b a
  | [], [] => rfl
  | [], _ :: _ => by simp [compareBytes]
  | _ :: _, [] => by simp [compareBytes]
  | a :: l, b :: m => by
    unfold compareBytes
    have ih := cb_neg l m
    by_cases h1 : a < b
    · have h2 : ¬ b < a := fun h => by have := UInt8.lt_iff_toNat_lt.1 h1; have := UInt8.lt_iff_toNat_lt.1 h; omega
      simp [h1, h2]
    · by_cases h2 : b < a
      · simp [h1, h2]
      · simp [h1, h2, ih]
theorem u8_eq {a b : UInt8} (h1 : ¬ a < b) (h2 : ¬ b < a) : a = b := by
  apply UInt8.toNat_inj.1
  rw [UInt8.lt_iff_toNat_lt] at h1 h2
  omega
theorem cb_trans : ∀ a b c : List UInt8, compareBytes a b ≤ 0 → compareBytes b c ≤ 0 → compareBytes a c ≤ 0
  | [], _, [], _, _ => by simp [compareBytes]
  | [], _, _ :: _, _, _ => by simp [compareBytes]
  | _ :: _, [], _, h, _ => by simp [compareBytes] at h
  | _ :: _, _ :: _, [], _, h => by simp [compareBytes] at h
  | a :: l, b :: m, c :: n, h1, h2 => by
    have ih := cb_trans l m n
    rw [compareBytes.eq_4] at h1 h2 ⊢
    by_cases x1 : a < b
    · by_cases x2 : b < c
      · have : a < c := by rw [UInt8.lt_iff_toNat_lt] at *; omega
        simp [this]
      · by_cases x3 : c < b
        · simp [x2, x3] at h2
        · have := u8_eq x2 x3
          subst this
          simp [x1]
    · by_cases x4 : b < a
      · simp [x1, x4] at h1
      · have := u8_eq x1 x4
        subst this
        simp only [x1, if_false] at h1
        by_cases x2 : a < c
        · simp [x2]
        · by_cases x3 : c < a
          · simp [x2, x3] at h2
          · simp only [x2, x3, if_false] at h2 ⊢
            exact ih h1 h2
theorem TC.bytes : TC compareBytes := ⟨fun x y => by have := cb_neg x y; omega, cb_trans⟩
def boolC (a b : Bool) : Int := if a = b then 0 else if b then -1 else 1
/-- Addresses. -/
def adrC : Adr → Adr → Int := lexC (fun a b => boolC a.six b.six) (fun a b => compareBytes a.b b.b)
def adrLt (a b : Adr) : Bool := if a.six ≠ b.six then b.six else decide (compareBytes a.b b.b < 0)
end
end Go.Proofs.YtpilenbdimhegaaGreatDoor
/- The contracts of Go library functions, laid at this program (written by a tool). -/
namespace Go.Proofs
open Go.Shelf
def Tryz.sortF125_ren : Go.Shelf.Ren := ⟨fun | 6 => 125 | 15 => 155 | 14 => 154 | 28 => 181 | 29 => 182 | 20 => 173 | 21 => 174 | 22 => 175 | 23 => 176 | 24 => 177 | 25 => 178 | 26 => 179 | 27 => 180 | 46 => 187 | 47 => 188 | 48 => 189 | 49 => 190 | 50 => 191 | 57 => 203 | n => n, fun | 22 => 79 | 24 => 127 | 25 => 204 | 3 => 3 | 39 => 144 | 0 => 0 | 53 => 255 | 55 => 32 | 4 => 4 | 46 => 249 | 45 => 248 | 50 => 102 | 5 => 5 | 9 => 9 | 66 => 259 | 70 => 263 | 76 => 273 | 77 => 274 | n => n, fun | n => n⟩
def Tryz.sortF161_ren : Go.Shelf.Ren := ⟨fun | 6 => 161 | 15 => 155 | 14 => 185 | 28 => 181 | 29 => 182 | 20 => 195 | 21 => 196 | 22 => 197 | 23 => 198 | 24 => 199 | 25 => 200 | 26 => 201 | 27 => 202 | 46 => 209 | 47 => 188 | 48 => 189 | 49 => 210 | 50 => 211 | 57 => 218 | n => n, fun | 22 => 214 | 24 => 184 | 25 => 239 | 3 => 3 | 39 => 144 | 0 => 0 | 53 => 255 | 55 => 32 | 4 => 4 | 46 => 249 | 45 => 248 | 50 => 102 | 5 => 5 | 9 => 9 | 66 => 259 | 70 => 263 | 76 => 273 | 77 => 274 | n => n, fun | n => n⟩
theorem Tryz.sortF161 : Go.Proofs.SlLaysF0.n6 Tryz.prog Tryz.sortF161_ren := {
  mixed := by kernel_rfl
  f6 := ⟨Tryz.f161.name, by decide, Tryz.func161.trans (congrArg some (by kernel_rfl))⟩
  f14 := ⟨Tryz.f185.name, by decide, Tryz.func185.trans (congrArg some (by kernel_rfl))⟩
  f15 := Tryz.func155.trans (congrArg some (by kernel_rfl))
  f20 := ⟨Tryz.f195.name, by decide, Tryz.func195.trans (congrArg some (by kernel_rfl))⟩
  f21 := ⟨Tryz.f196.name, by decide, Tryz.func196.trans (congrArg some (by kernel_rfl))⟩
  f22 := ⟨Tryz.f197.name, by decide, Tryz.func197.trans (congrArg some (by kernel_rfl))⟩
  f23 := ⟨Tryz.f198.name, by decide, Tryz.func198.trans (congrArg some (by kernel_rfl))⟩
  f24 := ⟨Tryz.f199.name, by decide, Tryz.func199.trans (congrArg some (by kernel_rfl))⟩
  f25 := ⟨Tryz.f200.name, by decide, Tryz.func200.trans (congrArg some (by kernel_rfl))⟩
  f26 := ⟨Tryz.f201.name, by decide, Tryz.func201.trans (congrArg some (by kernel_rfl))⟩
  f27 := ⟨Tryz.f202.name, by decide, Tryz.func202.trans (congrArg some (by kernel_rfl))⟩
  f28 := Tryz.func181.trans (congrArg some (by kernel_rfl))
  f29 := Tryz.func182.trans (congrArg some (by kernel_rfl))
  f46 := ⟨Tryz.f209.name, by decide, Tryz.func209.trans (congrArg some (by kernel_rfl))⟩
  f47 := Tryz.func188.trans (congrArg some (by kernel_rfl))
  f48 := Tryz.func189.trans (congrArg some (by kernel_rfl))
  f49 := ⟨Tryz.f210.name, by decide, Tryz.func210.trans (congrArg some (by kernel_rfl))⟩
  f50 := ⟨Tryz.f211.name, by decide, Tryz.func211.trans (congrArg some (by kernel_rfl))⟩
  f57 := ⟨Tryz.f218.name, by decide, Tryz.func218.trans (congrArg some (by kernel_rfl))⟩
  t0 := Tryz.underlying0
  a0 := Tryz.isAgg0
  z0 := Tryz.sizeOf0
  v0 := Tryz.zeroValue0
  t3 := Tryz.underlying3
  a3 := Tryz.isAgg3
  z3 := Tryz.sizeOf3
  v3 := Tryz.zeroValue3
  t4 := Tryz.underlying4
  a4 := Tryz.isAgg4
  z4 := Tryz.sizeOf4
  v4 := Tryz.zeroValue4
  t5 := Tryz.underlying5
  a5 := Tryz.isAgg5
  z5 := Tryz.sizeOf5
  v5 := Tryz.zeroValue5
  t9 := Tryz.underlying9
  a9 := Tryz.isAgg9
  z9 := Tryz.sizeOf9
  v9 := Tryz.zeroValue9
  t22 := Tryz.underlying214
  a22 := Tryz.isAgg214
  z22 := Tryz.sizeOf214
  v22 := Tryz.zeroValue214
  t25 := Tryz.underlying239
  a25 := Tryz.isAgg239
  z25 := Tryz.sizeOf239
  v25 := Tryz.zeroValue239
  t39 := Tryz.underlying144
  a39 := Tryz.isAgg144
  z39 := Tryz.sizeOf144
  v39 := Tryz.zeroValue144
  t45 := Tryz.underlying248
  a45 := Tryz.isAgg248
  z45 := Tryz.sizeOf248
  v45 := Tryz.zeroValue248
  t46 := Tryz.underlying249
  a46 := Tryz.isAgg249
  z46 := Tryz.sizeOf249
  v46 := Tryz.zeroValue249
  t50 := Tryz.underlying102
  a50 := Tryz.isAgg102
  z50 := Tryz.sizeOf102
  v50 := Tryz.zeroValue102
  t53 := Tryz.underlying255
  a53 := Tryz.isAgg255
  z53 := Tryz.sizeOf255
  v53 := Tryz.zeroValue255
  t55 := Tryz.underlying32
  a55 := Tryz.isAgg32
  z55 := Tryz.sizeOf32
  v55 := Tryz.zeroValue32
  t66 := Tryz.underlying259
  a66 := Tryz.isAgg259
  z66 := Tryz.sizeOf259
  v66 := Tryz.zeroValue259
  t70 := Tryz.underlying263
  a70 := Tryz.isAgg263
  z70 := Tryz.sizeOf263
  v70 := Tryz.zeroValue263
  t76 := Tryz.underlying273
  a76 := Tryz.isAgg273
  z76 := Tryz.sizeOf273
  v76 := Tryz.zeroValue273
  t77 := Tryz.underlying274
  a77 := Tryz.isAgg274
  z77 := Tryz.sizeOf274
  v77 := Tryz.zeroValue274 }
def Tryz.bitsLen_ren : Go.Shelf.Ren := ⟨fun | 125 => 155 | 128 => 181 | 129 => 182 | n => n, fun | 46 => 144 | 3 => 3 | 51 => 255 | 53 => 32 | 4 => 4 | 5 => 5 | 9 => 9 | n => n, fun | n => n⟩
end Go.Proofs
/- slices.Sort at ints, laid at this program. -/
namespace Go.Proofs.YtpilenbdimhegaaGreatDoor
open Go.RowKit
set_option linter.unusedSimpArgs false
set_option linter.unusedVariables false
set_option maxRecDepth 20000
set_option maxHeartbeats 4000000
attribute [local irreducible] WPc WPl WPq ReadR OpT BinR HasS bx rdN rowN Take Takes Prov Triple ResF BuildP Done ag Int.decLt Int.decLe Int.instDecidableEq
end Go.Proofs.YtpilenbdimhegaaGreatDoor
/- Layer 38 (topk): how clients are ordered: contracts. -/
namespace Go.Proofs.YtpilenbdimhegaaGreatDoor
open Go.RowKit
set_option linter.unusedSimpArgs false
set_option linter.unusedVariables false
set_option maxRecDepth 20000
set_option maxHeartbeats 4000000
attribute [local irreducible] WPc WPl WPq ReadR OpT BinR HasS bx rdN rowN Take Takes Prov Triple ResF BuildP Done ag Int.decLt Int.decLe Int.instDecidableEq
open Go.Lib (compareInt compareBytes)
theorem nanI_t (a : Int) : Triple Tryz.prog 172 #[.int .i64 a] [] (RVal (.bool false)) := by
  refine Triple.enter Tryz.func172 rfl Tryz.ntmps172 rfl (fun W => ?_)
  dsimp only [argsF, Nat.reduceAdd]
  repeat' (first
   | refine WPl.nil ?_ | refine WPq.then ?_ | refine WPc.seq ?_ | refine WPc.ret ?_ | refine WPc.region ?_
   | (refine isOp ?_; first | refine WPl.rd ?_ | refine WPl.sk ?_ | refine WPl.rdB ?_)
   | fail)
  exact WPq.dV (hc := by simp [resV])
theorem cmpI_t (a b : Int) : Triple Tryz.prog 152 #[.int .i64 a, .int .i64 b] [] (RVal (.int .i64 (compareInt a b))) := by
  have c1 := nanI_t a
  have c2 := nanI_t b
  refine Triple.enter Tryz.func152 rfl Tryz.ntmps152 rfl (fun W => ?_)
  dsimp only [argsF, Nat.reduceAdd]
  repeat' (first
   | refine WPl.nil ?_ | refine WPq.then ?_ | refine WPq.thenR ?_ | refine WPc.seq ?_ | refine WPc.ret ?_ | refine WPc.skip ?_ | refine WPc.region ?_
   | (refine isCond ?_; first | refine WPc.cT ?_ | refine WPc.cF ?_ | (refine WPc.cQ (fun hc => ?_) (fun hc => ?_) <;> try exact prA))
   | (refine isC 8 ?_; refine WPl.cV (c1) ?_)
   | (refine isC 10 ?_; refine WPl.cV (c2) ?_)
   | (refine isOp ?_; first | refine WPl.rd ?_ | refine WPl.sk ?_ | refine WPl.rdB ?_)
   | fail)
  all_goals exact WPq.dV (hc := by unfold compareInt; (repeat' split) <;> first | rfl | (exfalso; omega))
theorem or2_t (v : Value) (a b : Int) : Triple Tryz.prog 117 #[v] [rdN v 2 [.int .i64 a, .int .i64 b]] (RVal (.int .i64 (if a ≠ 0 then a else b))) := by
  have h0 : ([.int .i64 a, .int .i64 b] : List Value)[0]? = some (Value.int .i64 a) := rfl
  have h1 : ([.int .i64 a, .int .i64 b] : List Value)[1]? = some (Value.int .i64 b) := rfl
  refine Triple.enter Tryz.func117 rfl Tryz.ntmps117 rfl (fun W => ?_)
  dsimp only [argsF, Nat.reduceAdd]
  repeat' (first
   | refine WPl.nil ?_ | refine WPq.then ?_ | refine WPc.seq ?_ | refine WPc.block ?_ | refine WPc.region ?_
   | (refine isOp ?_; first | refine WPl.rd ?_ | refine WPl.sk ?_ | refine WPl.rdB ?_)
   | fail)
  first | refine WPc.loop (σ := Nat) (fun i => i ≤ 2 ∧ (0 < i → a = 0) ∧ (1 < i → b = 0)) (fun i => [rdN v 2 [.int .i64 a, .int .i64 b]]) (fun i => [(3, .int .i64 0), (6, v), (7, .int .i64 2), (8, .int .i64 i)]) (fun i => 2 - i) (0) ?_ takesA frsA (fun st km hx hk => ?_)
  · exact ⟨by omega, by omega, by omega⟩
  obtain ⟨q1, q2, q3⟩ := hx
  by_cases hi0 : st = 0
  · subst hi0
    by_cases ha : a = 0
    · skip
      repeat' (first
       | refine WPl.nil ?_ | refine WPq.then ?_ | refine WPq.blockN ?_ | refine WPc.seq ?_ | refine WPc.block ?_ | refine WPc.skip ?_ | refine WPc.region ?_
       | (refine isCond ?_; first | refine WPc.cT ?_ | refine WPc.cF ?_ | (refine WPc.cQ (fun hc => ?_) (fun hc => ?_) <;> try exact prA))
       | (refine isD 10 ?_; refine WPl.rdX (ReadR.indexE (i := 0) rfl rfl hasA (by omega)) ?_)
       | (refine isD 11 ?_; refine WPl.rdX (ReadR.loadE rfl hasA h0) ?_)
       | (refine isOp ?_; first | refine WPl.rd ?_ | refine WPl.sk ?_ | refine WPl.rdB ?_)
       | fail)
      all_goals first | exact WPq.rnd 1 ⟨by omega, fun _ => ha, by omega⟩ (by omega) | exact absurd ha (by assumption)
    · skip
      repeat' (first
       | refine WPl.nil ?_ | refine WPq.then ?_ | refine WPq.thenR ?_ | refine WPq.blockR ?_ | refine WPc.seq ?_ | refine WPc.block ?_ | refine WPc.ret ?_ | refine WPc.skip ?_ | refine WPc.region ?_
       | (refine isCond ?_; first | refine WPc.cT ?_ | refine WPc.cF ?_ | (refine WPc.cQ (fun hc => ?_) (fun hc => ?_) <;> try exact prA))
       | (refine isD 10 ?_; refine WPl.rdX (ReadR.indexE (i := 0) rfl rfl hasA (by omega)) ?_)
       | (refine isD 11 ?_; refine WPl.rdX (ReadR.loadE rfl hasA h0) ?_)
       | (refine isOp ?_; first | refine WPl.rd ?_ | refine WPl.sk ?_ | refine WPl.rdB ?_)
       | fail)
      all_goals first | exact absurd (by assumption) ha | exact WPq.dV (hc := by rw [if_pos ha]; rfl)
  · have ha := q2 (by omega)
    by_cases hi1 : st = 1
    · subst hi1
      by_cases hb : b = 0
      · skip
        repeat' (first
         | refine WPl.nil ?_ | refine WPq.then ?_ | refine WPq.blockN ?_ | refine WPc.seq ?_ | refine WPc.block ?_ | refine WPc.skip ?_ | refine WPc.region ?_
         | (refine isCond ?_; first | refine WPc.cT ?_ | refine WPc.cF ?_ | (refine WPc.cQ (fun hc => ?_) (fun hc => ?_) <;> try exact prA))
         | (refine isD 10 ?_; refine WPl.rdX (ReadR.indexE (i := 1) rfl rfl hasA (by omega)) ?_)
         | (refine isD 11 ?_; refine WPl.rdX (ReadR.loadE rfl hasA h1) ?_)
         | (refine isOp ?_; first | refine WPl.rd ?_ | refine WPl.sk ?_ | refine WPl.rdB ?_)
         | fail)
        all_goals first | exact WPq.rnd 2 ⟨by omega, fun _ => ha, fun _ => hb⟩ (by omega) | exact absurd hb (by assumption)
      · skip
        repeat' (first
         | refine WPl.nil ?_ | refine WPq.then ?_ | refine WPq.thenR ?_ | refine WPq.blockR ?_ | refine WPc.seq ?_ | refine WPc.block ?_ | refine WPc.ret ?_ | refine WPc.skip ?_ | refine WPc.region ?_
         | (refine isCond ?_; first | refine WPc.cT ?_ | refine WPc.cF ?_ | (refine WPc.cQ (fun hc => ?_) (fun hc => ?_) <;> try exact prA))
         | (refine isD 10 ?_; refine WPl.rdX (ReadR.indexE (i := 1) rfl rfl hasA (by omega)) ?_)
         | (refine isD 11 ?_; refine WPl.rdX (ReadR.loadE rfl hasA h1) ?_)
         | (refine isOp ?_; first | refine WPl.rd ?_ | refine WPl.sk ?_ | refine WPl.rdB ?_)
         | fail)
        all_goals first | exact absurd (by assumption) hb | exact WPq.dV (hc := by rw [if_neg (by simp [ha])]; rfl)
    · have hb := q3 (by omega)
      have hi2 : st = 2 := by omega
      subst hi2
      repeat' (first
       | refine WPl.nil ?_ | refine WPq.then ?_ | refine WPq.thenE ?_ | refine WPq.blockE ?_ | refine WPc.seq ?_ | refine WPc.ret ?_ | refine WPc.exit ?_ | refine WPc.region ?_
       | (refine isCond ?_; first | refine WPc.cT ?_ | refine WPc.cF ?_ | (refine WPc.cQ (fun hc => ?_) (fun hc => ?_) <;> try exact prA))
       | (refine isOp ?_; first | refine WPl.rd ?_ | refine WPl.sk ?_ | refine WPl.rdB ?_)
       | fail)
      all_goals first | exact WPq.dV (hc := by rw [if_neg (by simp [ha]), hb]; rfl) | (exfalso; omega)
end Go.Proofs.YtpilenbdimhegaaGreatDoor
/- Addresses: which is less: contract. -/
namespace Go.Proofs.YtpilenbdimhegaaGreatDoor
open Go.RowKit
set_option linter.unusedSimpArgs false
set_option linter.unusedVariables false
set_option maxRecDepth 20000
set_option maxHeartbeats 4000000
attribute [local irreducible] WPc WPl WPq ReadR OpT BinR HasS bx rdN rowN Take Takes Prov Triple ResF BuildP Done ag Int.decLt Int.decLe Int.instDecidableEq
open Go.Lib (compareInt compareBytes)
end Go.Proofs.YtpilenbdimhegaaGreatDoor
/- Maps: an entry that is made, and stored into (assignments of several values). -/
namespace Go.Proofs.YtpilenbdimhegaaGreatDoor
open Go.RowKit
set_option linter.unusedSimpArgs false
set_option linter.unusedVariables false
set_option linter.unusedSectionVars false
section
variable {K V : Type} [DecidableEq K]
/-- A map of one's own in which a key's entry is known by its stamp. -/
def mpe (M : MK K V) (g : Nat) (l : List (K × V)) (k : K) (s : Int) : Asn where
  own := true
  fp := fun g' => g' = g
  holds := fun w => ∃ es clock, w.heap[g]? = some (.map es clock) ∧ es.toList.map (fun e => (e.key, e.val)) = l.map (fun x => (M.kc x.1, M.vc x.2)) ∧ (es.toList.map (·.born)).Pairwise (· < ·) ∧ (∀ e ∈ es.toList, e.born < clock) ∧ (l.map (·.1)).Nodup ∧ (∀ x ∈ l, M.wf x.1) ∧ ∃ (j : Nat) (e : MapEntry) (x : K × V), es.toList[j]? = some e ∧ ((e.born : Nat) : Int) = s ∧ l[j]? = some x ∧ x.1 = k
  lt := fun w h g' hg => by
    subst hg
    obtain ⟨es, clock, h, _⟩ := h
    rcases Nat.lt_or_ge g' w.heap.size with h1 | h1
    · exact h1
    · rw [Array.getElem?_eq_none h1] at h; cases h
  loc := fun w w' h hl => by
    obtain ⟨es, clock, h, h2⟩ := h
    exact ⟨es, clock, by rw [hl g rfl]; exact h, h2⟩
variable {P : Program} {T : TypeId} {M : MK K V}
variable {n : Nat} {W : World} {S : Nat → Prop} {Γ : List Asn} {F : List (Nat × Value)} {Q : Exit → Act → World → Prop} {ops : Array Oper} {os : List Oper}
variable {d : Option Tmp} {ty : TypeId} {pos : String} {af : Array Edge} {gd : Option (Nat × Bool)}
def stampOf : Value → Int
  | .tuple vs => match (vs[1]? : Option Value) with | some (Value.int _ s) => s | _ => 0
  | _ => 0
def REntry (M : MK K V) (g : Nat) (l : List (K × V)) (k : K) : Value → List Asn → Prop := fun v Γ => ∃ s, v = .tuple #[M.vc (mget M l k), .int .i64 s] ∧ Γ = [mpe M g (Go.Proofs.YtpilenbdimhegaaGreatDoor.mput l k (mget M l k)) k s]
variable {eats : List (Nat × Nat)} {KK : Prev → Prop} {j : Nat} {o : Oper} {D bad : List Nat} {Ds : List (List Nat × List Nat)} {prev : Prev}
end
end Go.Proofs.YtpilenbdimhegaaGreatDoor
/- Layer 38 (topk): what it holds; how clients are ordered: contracts. -/
namespace Go.Proofs.YtpilenbdimhegaaGreatDoor
open Go.RowKit
set_option linter.unusedSimpArgs false
set_option linter.unusedVariables false
set_option maxRecDepth 20000
set_option maxHeartbeats 4000000
attribute [local irreducible] WPc WPl WPq ReadR OpT BinR HasS bx rdN rowN Take Takes Prov Triple ResF BuildP Done ag Int.decLt Int.decLe Int.instDecidableEq
open Go.Lib (compareInt compareBytes)
/-- A client that is counted. -/
structure Hy where
  p : Pf
  c : Int
  o : Int
instance : Inhabited Hy := ⟨⟨(Adr.zero, 0), 0, 0⟩⟩
def Hy.zero : Hy := ⟨(Adr.zero, 0), 0, 0⟩
abbrev hyc (h : Hy) : Ch := [(1, [.bool h.p.1.six]), (16, u8s h.p.1.b), (1, [.int .i64 h.p.2]), (1, [.int .u64 h.c]), (1, [.int .u64 h.o])]
def pfC : Pf → Pf → Int := lexC (fun a b => adrC a.1 b.1) (fun a b => compareInt a.2 b.2)
/-- The code's own number: -1, 0, 1 for addresses. -/
def pfO (a b : Pf) : Int := if adrLt a.1 b.1 then -1 else if adrLt b.1 a.1 then 1 else compareInt a.2 b.2
def falC : Hy → Hy → Int := fun a b => if compareInt b.c a.c ≠ 0 then compareInt b.c a.c else Go.Proofs.YtpilenbdimhegaaGreatDoor.pfO a.p b.p
end Go.Proofs.YtpilenbdimhegaaGreatDoor
/- Layer 38 (topk): contracts. -/
namespace Go.Proofs.YtpilenbdimhegaaGreatDoor
open Go.RowKit
set_option linter.unusedSimpArgs false
set_option linter.unusedVariables false
set_option maxRecDepth 20000
set_option maxHeartbeats 4000000
attribute [local irreducible] WPc WPl WPq ReadR OpT BinR HasS bx rdN rowN Take Takes Prov Triple ResF BuildP Done ag Int.decLt Int.decLe Int.instDecidableEq
theorem isMM {P : Program} {n : Nat} {W : World} {S : Nat → Prop} {Γ : List Asn} {F : List (Nat × Value)} {Q : Exit → Act → World → Prop} {ops : Array Oper} {os : List Oper} {ty : TypeId} {pos : String} {af : Array Edge} {gd : Option (Nat × Bool)} {T : TypeId} {d : Option Tmp} (h : WPl P n W S Γ F ops (⟨d, .makeMap T none, ty, pos, af, gd⟩ :: os) Q) : WPl P n W S Γ F ops (⟨d, .makeMap T none, ty, pos, af, gd⟩ :: os) Q := h
def hyM : MK Pf Hy := ⟨fun p => ag (pfxc p), fun h => ag (hyc h), Hy.zero, fun p => in64 p.2⟩
instance hyI : MapI Tryz.prog 135 hyM :=
  mapI_of (kT := 56) (eT := 127) (ks := pfK) pfxc (fun _ => rfl) (by kernel_rfl) (have h : EqI Tryz.prog 56 _ := inferInstance; h) (by kernel_rfl) (by kernel_rfl) (by kernel_rfl) (by kernel_rfl) (of_decide_eq_true (by kernel_rfl)) (by kernel_rfl) (by kernel_rfl)
    (fun p hp => pf_keyed hp) (by kernel_rfl) (fun a b h => pf_inj h)
instance hyElt : EltN Tryz.prog 127 20 := ⟨by kernel_rfl⟩
abbrev TL := List (Pf × Hy)
abbrev hPt (g : Nat) : Value := .pointer (some ⟨g, 0, none⟩)
abbrev txc (most : Int) (m : Nat) (all : Int) : Ch := [(1, [.int .i64 most]), (1, [.map (some m)]), (1, [.int .u64 all])]
/-- The client that goes: the least count, and of these the least. -/
def leastC : Hy → Hy → Int := fun a b => if Lib.compareInt a.c b.c ≠ 0 then Lib.compareInt a.c b.c else Go.Proofs.YtpilenbdimhegaaGreatDoor.pfO a.p b.p
attribute [local irreducible] mp rg mput mget mfind mdel
section
variable (gT m : Nat) (most all : Int) (L : TL)
def RNewT (most : Int) : Value → List Asn → Prop := fun v Γ => ∃ gT m, v = .tuple #[hPt gT, .int .i64 0] ∧ Γ = [bx gT 137 (txc most m 0), mp hyM m []]
theorem tnew_t (h1 : 1 ≤ most) (h2 : most ≤ 200) : Triple Tryz.prog 25 #[.int .i64 most] [] (RNewT most) := by
  refine Triple.enter Tryz.func25 rfl Tryz.ntmps25 rfl (fun W => ?_)
  dsimp only [argsF, Nat.reduceAdd]
  repeat' (first
   | refine WPl.nil ?_ | refine WPq.then ?_ | refine WPq.thenR ?_ | refine WPq.thenE ?_ | refine WPq.blockN ?_ | refine WPq.blockR ?_ | refine WPq.blockE ?_ | refine WPq.blockO rfl ?_ | refine WPc.seq ?_ | refine WPc.block ?_ | refine WPc.ret ?_ | refine WPc.exit ?_ | refine WPc.skip ?_ | refine WPc.region ?_
   | (refine isCond ?_; first | refine WPc.cT ?_ | refine WPc.cF ?_ | (refine WPc.cQ (fun hc => ?_) (fun hc => ?_) <;> try exact prA))
   | (refine isMM ?_; refine WPl.mnew hyM fun m => ?_)
   | (refine isOp ?_; first | refine WPl.rd ?_ | refine WPl.sk ?_ | refine WPl.rdB ?_)
   | (refine isBx ?_; refine WPl.nw fun g => ?_)
   | (show WPl _ _ _ _ _ _ _ (⟨_, .indexAddr _ _ _, _, _, _, _⟩ :: _) _; refine WPl.rdX (ReadR.indexE rfl rfl hasA (by first | assumption | omega)) ?_)
   | (show WPl _ _ _ _ _ _ _ (⟨_, .fieldAddr _ _ _, _, _, _, _⟩ :: _) _; refine WPl.rdX (ReadR.fieldE rfl hasA (by first | assumption | omega)) ?_)
   | (show WPl _ _ _ _ _ _ _ (⟨_, .load _ _, _, _, _, _⟩ :: _) _; first | refine WPl.rdX (ReadR.loadE rfl hasA (by assumption)) ?_ | refine WPl.rdX (ReadR.loadES (by assumption) (by first | assumption | omega) rfl hasA) ?_)
   | (show WPl _ _ _ _ _ _ _ (⟨_, .slice _ _ _ _ _, _, _, _, _⟩ :: _) _; first | refine WPl.rdX (ReadR.sliceH rfl rfl hasA (by omega)) ?_ | refine WPl.rdX (ReadR.sliceL rfl rfl hasA (by omega)) ?_ | refine WPl.rdX (ReadR.sliceLH rfl rfl rfl hasA (by omega) (by omega)) ?_)
   | (refine WPl.spQ (fun hc => ?_) (fun hc => ?_) <;> try exact prA)
   | fail)
  all_goals first | exact WPq.dX (vs := [_, _]) [_, _] ⟨_, _, rfl, rfl⟩ | (exfalso; omega)
end
end Go.Proofs.YtpilenbdimhegaaGreatDoor
/- Layer 38 (topk): the client that goes; a client that is counted: contracts. -/
namespace Go.Proofs.YtpilenbdimhegaaGreatDoor
open Go.RowKit
set_option linter.unusedSimpArgs false
set_option linter.unusedVariables false
set_option maxRecDepth 20000
set_option maxHeartbeats 4000000
attribute [local irreducible] WPc WPl WPq ReadR OpT BinR HasS bx rdN rowN Take Takes Prov Triple ResF BuildP Done ag Int.decLt Int.decLe Int.instDecidableEq
open Go.Lib (compareInt)
attribute [local irreducible] mp rg mput mget mfind mdel
def TI (L : TL) : Prop := ∀ x ∈ L, x.2.p = x.1
structure LsSt where
  td : TL
  dn : TL
  cu : Option (Pf × Hy)
  h : Hy
  first : Bool
def isLeast (dn : TL) (h : Hy) : Prop := (∃ x ∈ dn, h = x.2) ∧ ∀ z ∈ dn, ¬ leastC z.2 h < 0
section
variable (gT m : Nat) (most all : Int) (L : TL)
def RLeast (gT m : Nat) (most all : Int) (L : TL) : Value → List Asn → Prop := fun v Γ => ∃ h, v = ag (hyc h) ∧ Γ = [bx gT 137 (txc most m all), mp hyM m L] ∧ isLeast L h
attribute [local irreducible] isLeast
/-! ### A client is counted -/
def wU (a : Int) : Int := IntKind.u64.wrap a
theorem taddIs_t (p : Pf) (n : Int) (hp : in64 p.2) (hn : n ≠ 0) (h : Hy) (hh : mget hyM L p = h) (hb : mhas L p = true) :
    Triple Tryz.prog 36 #[hPt gT, ag (pfxc p), .int .u64 n] [(bx gT 137 (txc most m all)), mp hyM m L] (RTurns (resV []) [(bx gT 137 (txc most m (wU (all + n)))), mp hyM m (mput L p ⟨h.p, wU (h.c + n), h.o⟩)]) := by
  have l1 := p.1.len
  have l2 := h.p.1.len
  have hwf : hyM.wf p := hp
  have hget : hyM.vc (mget hyM L p) = ag (hyc h) := by rw [hh]; rfl
  unfold wU
  refine Triple.enter Tryz.func36 rfl Tryz.ntmps36 rfl (fun W => ?_)
  dsimp only [argsF, Nat.reduceAdd]
  repeat' (first
   | refine WPl.nil ?_ | refine WPq.then ?_ | refine WPq.blockN ?_ | refine WPc.seq ?_ | refine WPc.block ?_ | refine WPc.skip ?_ | refine WPc.region ?_
   | (refine isReg 3 ?_; refine WPc.drA [([], [6, 28]), ([0], [6, 24, 28]), ([0, 1], [6, 24, 25, 28]), ([0, 1, 2], [6, 24, 25, 26, 28]), ([], [6, 24, 25, 26, 27]), ([0, 1, 2, 3, 4], [6, 24, 25, 26, 27, 28]), ([0, 1, 2, 3, 4, 5], [6, 24, 25, 26, 27, 28, 29]), ([0, 1, 2, 3, 4, 5, 6], [6, 23, 24, 25, 26, 27, 28, 29, 31]), ([0, 1, 2, 3, 4, 5, 6], [6, 23, 24, 25, 26, 27, 28, 29, 30]), ([], [23, 24, 25, 26, 27, 28, 29, 30, 31]), ([0, 1, 2, 3, 4, 5, 6, 7, 9], [6, 23, 24, 25, 26, 27, 28, 29, 30, 31]), ([0, 1, 2, 3, 4, 5, 6, 7, 8, 9, 10], [6, 23, 24, 25, 26, 27, 28, 29, 30, 31])] [(9, 10)] (Γx := []) ?_; dsimp only [prev0, List.length_nil, List.length_cons])
   | (refine isReg 11 ?_; refine WPc.drA [([7], [70, 71]), ([0, 7], [66, 70, 71]), ([0, 1, 7], [66, 67, 70, 71]), ([0, 1, 2, 7], [66, 67, 68, 70, 71]), ([7], [66, 67, 68, 69, 71]), ([7], [66, 67, 68, 69, 70]), ([0, 1, 2, 3, 4, 5, 7], [66, 67, 68, 69, 70, 71])] [(7, 6), (7, 0), (7, 1), (7, 2), (7, 3), (7, 4), (7, 5)] (Γx := [mp hyM m L]) (hox := ownsA) ?_; dsimp only [prev0, List.length_nil, List.length_cons])
   | (refine gAny ?_; first | (refine gOp ?_; refine RGl.turn (fun e hk => by (try dsimp only [bndR, ensR, oksR, fcutR, List.append_nil, List.nil_append, List.cons_append, List.append_assoc] at hk ⊢); exact OpT.mput (k := p) (v := (⟨h.p, IntKind.u64.wrap (h.c + n), h.o⟩ : Hy)) (hwf) rfl rfl rfl takesA) ?_) | (refine gD 29 ?_; refine RGl.rdX (fun e hk => by (try dsimp only [bndR, ensR, oksR, fcutR, List.append_nil, List.nil_append, List.cons_append, List.append_assoc] at hk ⊢); exact ReadR.lookOk (M := hyM) (k := p) hwf rfl rfl memA hget hb) ?_) | (refine gOp ?_; first | refine RGl.rdA ?_ | refine RGl.rdX (fun e hk => by (try dsimp only [bndR, ensR, oksR, fcutR, List.append_nil, List.nil_append, List.cons_append, List.append_assoc] at hk ⊢); exact readB) ?_) | (refine gAl ?_; refine RGl.nwA ?_) | (refine gSt ?_; refine RGl.stA ?_) | (refine RGl.fin (fun e hk => ?_); (try dsimp only [bndA, ensAR, oksA, List.append_nil, List.nil_append, List.cons_append, List.append_assoc] at hk ⊢); (repeat (obtain ⟨hk1, hk⟩ := hk))) | fail)
   | (refine isCond ?_; first | refine WPc.cT ?_ | refine WPc.cF ?_ | (refine WPc.cQ (fun hc => ?_) (fun hc => ?_) <;> try exact prA))
   | (refine isD 10 ?_; refine WPl.rdX (readP) ?_)
   | (refine isD 13 ?_; refine WPl.rdX (ReadR.binE rfl rfl BinR.eql (congrArg Value.bool (decide_eq_false hn))) ?_)
   | (refine isD 20 ?_; refine WPl.rdX (ReadR.bin rfl rfl BinR.addW) ?_)
   | (refine isD 64 ?_; refine WPl.rdX (ReadR.bin rfl rfl BinR.addW) ?_)
   | (refine isOp ?_; first | refine WPl.rd ?_ | refine WPl.sk ?_ | refine WPl.rdB ?_)
   | (refine isBx ?_; refine WPl.nw fun g => ?_)
   | (refine isSt ?_; first | refine WPl.st1 ?_ | refine WPl.stA ?_ | refine WPl.stEB ?_ | refine WPl.stRB ?_)
   | fail)
  all_goals first | exact WPq.dTp | trace_state
theorem taddNew_t (p : Pf) (n : Int) (hp : in64 p.2) (hn : n ≠ 0) (hb : mhas L p = false) (hm : (L.length : Int) < most) :
    Triple Tryz.prog 36 #[hPt gT, ag (pfxc p), .int .u64 n] [(bx gT 137 (txc most m all)), mp hyM m L] (RTurns (resV []) [(bx gT 137 (txc most m (wU (all + n)))), mp hyM m (mput L p ⟨p, wU (0 + n), 0⟩)]) := by
  have l1 := p.1.len
  obtain ⟨h, hh⟩ : ∃ h, mget hyM L p = h := ⟨_, rfl⟩
  have l2 := h.p.1.len
  have hwf : hyM.wf p := hp
  have hget : hyM.vc (mget hyM L p) = ag (hyc h) := by rw [hh]; rfl
  unfold wU
  refine Triple.enter Tryz.func36 rfl Tryz.ntmps36 rfl (fun W => ?_)
  dsimp only [argsF, Nat.reduceAdd]
  repeat' (first
   | refine WPl.nil ?_ | refine WPq.then ?_ | refine WPq.blockN ?_ | refine WPc.seq ?_ | refine WPc.block ?_ | refine WPc.skip ?_ | refine WPc.region ?_
   | (refine isReg 3 ?_; refine WPc.drA [([], [6, 28]), ([0], [6, 24, 28]), ([0, 1], [6, 24, 25, 28]), ([0, 1, 2], [6, 24, 25, 26, 28]), ([], [6, 24, 25, 26, 27]), ([0, 1, 2, 3, 4], [6, 24, 25, 26, 27, 28]), ([0, 1, 2, 3, 4, 5], [6, 24, 25, 26, 27, 28, 29]), ([0, 1, 2, 3, 4, 5, 6], [6, 23, 24, 25, 26, 27, 28, 29, 31]), ([0, 1, 2, 3, 4, 5, 6], [6, 23, 24, 25, 26, 27, 28, 29, 30]), ([], [23, 24, 25, 26, 27, 28, 29, 30, 31]), ([0, 1, 2, 3, 4, 5, 6, 7, 9], [6, 23, 24, 25, 26, 27, 28, 29, 30, 31]), ([0, 1, 2, 3, 4, 5, 6, 7, 8, 9, 10], [6, 23, 24, 25, 26, 27, 28, 29, 30, 31])] [(9, 10)] (Γx := []) ?_; dsimp only [prev0, List.length_nil, List.length_cons])
   | (refine isReg 8 ?_; refine WPc.drA [([], [54, 55, 56, 57]), ([0], [49, 54, 55, 56, 57]), ([0, 1], [49, 50, 54, 55, 56, 57]), ([0, 1, 2], [49, 50, 51, 54, 55, 56, 57]), ([0, 1, 2, 3], [49, 50, 51, 52, 54, 55, 56, 57]), ([], [49, 50, 51, 52, 53]), ([5], [49, 50, 51, 52, 53, 54]), ([5, 6], [49, 50, 51, 52, 53, 54, 55]), ([5, 6, 7], [49, 50, 51, 52, 53, 54, 55, 56]), ([0, 1, 2, 3, 4, 5, 6, 7, 8], [49, 50, 51, 52, 53, 54, 55, 56, 57]), ([0, 1, 2, 3, 4, 5, 6, 7, 8, 9], [49, 50, 51, 52, 53, 54, 55, 56, 57, 58])] [] (Γx := []) ?_; dsimp only [prev0, List.length_nil, List.length_cons])
   | (refine isReg 11 ?_; refine WPc.drA [([7], [70, 71]), ([0, 7], [66, 70, 71]), ([0, 1, 7], [66, 67, 70, 71]), ([0, 1, 2, 7], [66, 67, 68, 70, 71]), ([7], [66, 67, 68, 69, 71]), ([7], [66, 67, 68, 69, 70]), ([0, 1, 2, 3, 4, 5, 7], [66, 67, 68, 69, 70, 71])] [(7, 6), (7, 0), (7, 1), (7, 2), (7, 3), (7, 4), (7, 5)] (Γx := [mp hyM m L]) (hox := ownsA) ?_; dsimp only [prev0, List.length_nil, List.length_cons])
   | (refine gAny ?_; first | (refine gOp ?_; refine RGl.turn (fun e hk => by (try dsimp only [bndR, ensR, oksR, fcutR, List.append_nil, List.nil_append, List.cons_append, List.append_assoc] at hk ⊢); exact OpT.mput (k := p) (v := (⟨p, IntKind.u64.wrap (0 + n), 0⟩ : Hy)) (hwf) rfl rfl rfl takesA) ?_) | (refine gD 29 ?_; refine RGl.rdX (fun e hk => by (try dsimp only [bndR, ensR, oksR, fcutR, List.append_nil, List.nil_append, List.cons_append, List.append_assoc] at hk ⊢); exact ReadR.lookOk (M := hyM) (k := p) hwf rfl rfl memA hget hb) ?_) | (refine gD 53 ?_; refine RGl.rdX (fun e hk => by (try dsimp only [bndR, ensR, oksR, fcutR, List.append_nil, List.nil_append, List.cons_append, List.append_assoc] at hk ⊢); exact ReadR.mlen rfl memA) ?_) | (refine gD 58 ?_; refine RGl.rdX (fun e hk => by (try dsimp only [bndR, ensR, oksR, fcutR, List.append_nil, List.nil_append, List.cons_append, List.append_assoc] at hk ⊢); exact ReadR.binE rfl rfl BinR.lss (congrArg Value.bool (decide_eq_true hm))) ?_) | (refine gOp ?_; first | refine RGl.rdA ?_ | refine RGl.rdX (fun e hk => by (try dsimp only [bndR, ensR, oksR, fcutR, List.append_nil, List.nil_append, List.cons_append, List.append_assoc] at hk ⊢); exact readB) ?_) | (refine gAl ?_; refine RGl.nwA ?_) | (refine gSt ?_; refine RGl.stA ?_) | (refine RGl.fin (fun e hk => ?_); (try dsimp only [bndA, ensAR, oksA, List.append_nil, List.nil_append, List.cons_append, List.append_assoc] at hk ⊢); (repeat (obtain ⟨hk1, hk⟩ := hk))) | fail)
   | (refine isCond ?_; first | refine WPc.cT ?_ | refine WPc.cF ?_ | (refine WPc.cQ (fun hc => ?_) (fun hc => ?_) <;> try exact prA))
   | (refine isD 10 ?_; refine WPl.rdX (readP) ?_)
   | (refine isD 13 ?_; refine WPl.rdX (ReadR.binE rfl rfl BinR.eql (congrArg Value.bool (decide_eq_false hn))) ?_)
   | (refine isD 20 ?_; refine WPl.rdX (ReadR.bin rfl rfl BinR.addW) ?_)
   | (refine isD 64 ?_; refine WPl.rdX (ReadR.bin rfl rfl BinR.addW) ?_)
   | (refine isOp ?_; first | refine WPl.rd ?_ | refine WPl.sk ?_ | refine WPl.rdB ?_)
   | (refine isBx ?_; refine WPl.nw fun g => ?_)
   | (refine isSt ?_; first | refine WPl.st1 ?_ | refine WPl.stA ?_ | refine WPl.stEB ?_ | refine WPl.stRB ?_)
   | fail)
  all_goals first | exact WPq.dTp | trace_state
def RGone (gT m : Nat) (most all : Int) (L : TL) (p : Pf) (n : Int) : Value → List Asn → Prop := fun v Γ => ∃ g, isLeast L g ∧ v = resV [] ∧ Γ = [bx gT 137 (txc most m (wU (all + n))), mp hyM m (mput (mdel L g.p) p ⟨p, wU (g.c + n), g.c⟩)]
end
end Go.Proofs.YtpilenbdimhegaaGreatDoor
/- Layer 35 (parts): what it holds; a part by itself: contracts. -/
namespace Go.Proofs.YtpilenbdimhegaaGreatDoor
open Go.RowKit
set_option linter.unusedSimpArgs false
set_option linter.unusedVariables false
/-- A piece of a packet's data; where its bytes lie is told by its slice. -/
structure Pt where
  pos : Nat
  a : Option Addr
  c : Nat
  d : List UInt8
  last : Bool
  h : Hd
def Pt.v (p : Pt) : Value := .slice p.a p.d.length p.c
theorem ReadR.lenPt {P : Program} {n : Nat} {Γ : List Asn} {F : List (Nat × Value)} {d : Option Tmp} {ty : TypeId} {pos : String} {af : Array Edge} {gd : Option (Nat × Bool)} {x : Operand} {T : TypeId} {p : Pt} (hT : ∃ e, P.underlying T = some (.slice e)) (hx : evF F x = some p.v) : ReadR P n Γ F ⟨d, .call { callee := .builtin .len, args := #[x], argTypes := #[T] }, ty, pos, af, gd⟩ (.int .i64 (p.d.length : Int)) := fun ρ w hf hw => by
  obtain ⟨e, hT⟩ := hT
  unfold Pt.v at hx
  simp [execOp, resolve, invoke, builtin, Builtin.len_, hf.eval hx, run_underlying hT, goInt]
open Go.RowKit
set_option linter.unusedSimpArgs false
set_option linter.unusedVariables false
set_option maxRecDepth 20000
set_option maxHeartbeats 4000000
attribute [local irreducible] WPc WPl WPq ReadR OpT BinR HasS bx rdN rowN Take Takes Prov Triple ResF BuildP Done ag Int.decLt Int.decLe Int.instDecidableEq
def Pt.fin (p : Pt) : Nat := p.pos + p.d.length
abbrev ptX (pos : Nat) (v : Value) (last : Bool) (h : Hd) : Ch := [(1, [.int .i64 (pos : Int)]), (1, [v]), (1, [.bool last]), (1, [.bool h.six]), (1, [.int .u8 ((h.proto.toNat : Nat) : Int)]), (1, [.int .i64 h.pos]), (1, [.bool h.src.six]), (16, u8s h.src.b), (1, [.bool h.dst.six]), (16, u8s h.dst.b), (1, [.bool h.part]), (1, [.int .u8 ((h.hops.toNat : Nat) : Int)])]
abbrev ptC (p : Pt) : Ch := ptX p.pos p.v p.last p.h
def pts (l : List Pt) : List Value := (l.map fun p => flat (ptC p)).flatten
theorem Pt.v1 (p : Pt) : p.v.oneCell' = true := rfl
theorem ptC_len (p : Pt) : (flat (ptC p)).length = 42 := by simp [flat_eq, p.h.src.len, p.h.dst.len, u8s_length]
theorem pts_len {l : List Pt} : (pts l).length = l.length * 42 := rows_len ptC_len
theorem pts_at {l : List Pt} {i : Nat} {p : Pt} (h : l[i]? = some p) : ((pts l).drop (i * 42)).take 42 = flat (ptC p) := rows_drop ptC_len h
theorem pts_app {l k : List Pt} : pts (l ++ k) = pts l ++ pts k := by unfold pts; rw [List.map_append, List.flatten_append]
theorem pts_one {p : Pt} : pts [p] = flat (ptC p) := by unfold pts; rw [List.map_singleton]; simp
theorem ptC_ok (p : Pt) : FOk (ptC p) := .one1 rfl (.one1 rfl (.one1 rfl (.one1 rfl (.one1 rfl (.one1 rfl (.one1 rfl (.bytes p.h.src.len (.one1 rfl (.bytes p.h.dst.len (.one1 rfl (.one1 rfl .nil)))))))))))
instance ptElt : EltN Tryz.prog 184 42 := ⟨by kernel_rfl⟩
/-- By what parts belong together. -/
structure Ky where
  src : Adr
  dst : Adr
  proto : UInt8
  id : Nat
deriving DecidableEq
abbrev kyC (k : Ky) : Ch := [(1, [.bool k.src.six]), (16, u8s k.src.b), (1, [.bool k.dst.six]), (16, u8s k.dst.b), (1, [.int .u8 ((k.proto.toNat : Nat) : Int)]), (1, [.int .u16 (k.id : Int)])]
theorem kyC_ok (k : Ky) : FOk (kyC k) := .one1 rfl (.bytes k.src.len (.one1 rfl (.bytes k.dst.len (.one1 rfl (.one1 rfl .nil)))))
def oPj (o : Option Nat) : Value := match o with | some g => .pointer (some ⟨g, 0, none⟩) | none => .pointer none
def kyM : MK Ky (Option Nat) := ⟨fun k => ag (kyC k), oPj, none, fun k => k.id < 65536⟩
def kyK : List (Option IntKind) := none :: (List.replicate 16 (some .u8) ++ none :: (List.replicate 16 (some .u8) ++ [some .u8, some .u16]))
theorem ky_flat (k : Ky) : flat (kyC k) = .bool k.src.six :: (u8s k.src.b ++ .bool k.dst.six :: (u8s k.dst.b ++ [.int .u8 ((k.proto.toNat : Nat) : Int), .int .u16 (k.id : Int)])) := by simp [kyC, flat]
theorem pshp16 (a : Adr) : Shp (List.replicate 16 (some .u8)) (u8s a.b) := by
  have := shp_u8s a.b
  rwa [a.len] at this
theorem ky_shp (k : Ky) : Shp kyK (flat (kyC k)) := by
  rw [ky_flat]
  exact ⟨⟨_, rfl⟩, (pshp16 k.src).append ⟨⟨_, rfl⟩, (pshp16 k.dst).append ⟨⟨_, rfl⟩, ⟨_, rfl⟩, trivial⟩⟩⟩
theorem pinR_u16 {n : Nat} (h : n < 65536) : inR (.int .u16 (n : Int)) := by
  simp [inR, Lit.wf, IntKind.min, IntKind.max, IntKind.signed, IntKind.bits]
  omega
theorem ky_inR {k : Ky} (h : k.id < 65536) : ∀ v ∈ flat (kyC k), inR v := fun v hv => by
  rw [ky_flat] at hv
  simp only [List.mem_cons, List.mem_append, List.not_mem_nil, or_false] at hv
  rcases hv with rfl | hv | rfl | hv | rfl | rfl
  · trivial
  · exact inR_u8 v hv
  · trivial
  · exact inR_u8 v hv
  · exact inR_u8 _ (List.mem_map.2 ⟨k.proto, List.mem_singleton.2 rfl, rfl⟩ : _ ∈ u8s [k.proto])
  · exact pinR_u16 h
theorem ky_inj {a b : Ky} (h : flat (kyC a) = flat (kyC b)) : a = b := by
  rw [ky_flat, ky_flat] at h
  obtain ⟨h1, h2⟩ := List.cons.inj h
  obtain ⟨h3, h4⟩ := List.append_inj h2 (by simp [u8s, a.src.len, b.src.len])
  obtain ⟨h5, h6⟩ := List.cons.inj h4
  obtain ⟨h7, h8⟩ := List.append_inj h6 (by simp [u8s, a.dst.len, b.dst.len])
  have e1 : a.src = b.src := Adr.ext (by simpa using h1) (u8s_inj.1 h3)
  have e2 : a.dst = b.dst := Adr.ext (by simpa using h5) (u8s_inj.1 h7)
  simp at h8
  obtain ⟨e3, e4⟩ := h8
  have e5 : a.id = b.id := by omega
  have e6 : a.proto = b.proto := UInt8.toNat_inj.1 (by omega)
  cases a; cases b
  simp_all
instance kyI : MapI Tryz.prog 138 kyM :=
  mapI_of (kT := 163) (eT := 213) (ks := kyK) kyC (fun _ => rfl) (by kernel_rfl) (have h : EqI Tryz.prog 163 _ := inferInstance; h) (by kernel_rfl) (by kernel_rfl) (by kernel_rfl) (by kernel_rfl) (of_decide_eq_true (by kernel_rfl)) (by kernel_rfl) (by kernel_rfl)
    (fun d hd => ⟨ky_shp d, ky_inR hd⟩) (by kernel_rfl) (fun a b h => ky_inj h)
/-- The parts of one packet, as they lie in memory. -/
structure PJ where
  g : Nat
  vP : Value
  ps : List Pt
  since : Nat
  key : Ky
abbrev pjC (x : PJ) : Ch := [(1, [x.vP]), (1, [.int .u64 (x.since : Int)])]
def drow (p : Pt) : List Asn := [ob p.v p.d]
theorem drow_own (p : Pt) (A : Asn) (h : A ∈ drow p) : A.own = true := by
  rw [List.mem_singleton.1 h]; exact rowN_own
def jrow (x : PJ) : List Asn := [bx x.g 216 (pjC x), rowN 184 42 x.vP x.ps.length (pts x.ps), gbag drow x.ps]
theorem jrow_own (x : PJ) (A : Asn) (h : A ∈ jrow x) : A.own = true := by
  unfold jrow at h
  simp only [List.mem_cons, List.not_mem_nil, or_false] at h
  rcases h with rfl | rfl | rfl
  · exact bx_own
  · exact rowN_own
  · exact gbag_own
def jes (l : List PJ) : List (Ky × Option Nat) := l.map fun x => (x.key, some x.g)
abbrev hJ (g : Nat) : Value := .pointer (some ⟨g, 0, none⟩)
abbrev jbc (m : Nat) : Ch := [(1, [.map (some m)])]
abbrev jmA (gJ m : Nat) (l : List PJ) : List Asn := [bx gJ 140 (jbc m), mp kyM m (jes l), gbag jrow l]
attribute [local irreducible] mp rmp rg rgo mput mget mfind mdel gbag jes pts Pt.v
theorem pend_t (p : Pt) (hp : p.fin ≤ 1000000) : Triple Tryz.prog 134 #[ag (ptC p)] [] (RVal (.int .i64 (p.fin : Int))) := by
  have hv1 := p.v1
  have hfin : p.fin = p.pos + p.d.length := rfl
  have l1 := p.h.src.len
  have l2 := p.h.dst.len
  have e8 : Value.int .i64 ((p.pos : Int) + (p.d.length : Int)) = .int .i64 (p.fin : Int) := congrArg _ (by omega)
  refine Triple.enter Tryz.func134 rfl Tryz.ntmps134 rfl (fun W => ?_)
  dsimp only [argsF, Nat.reduceAdd]
  repeat' (first
   | refine WPl.nil ?_ | refine WPq.then ?_ | refine WPq.thenR ?_ | refine WPq.thenE ?_ | refine WPq.blockN ?_ | refine WPq.blockR ?_ | refine WPq.blockE ?_ | refine WPq.blockO rfl ?_ | refine WPc.seq ?_ | refine WPc.block ?_ | refine WPc.ret ?_ | refine WPc.exit ?_ | refine WPc.skip ?_ | refine WPc.region ?_
   | (refine isCond ?_; first | refine WPc.cT ?_ | refine WPc.cF ?_ | (refine WPc.cQ (fun hc => ?_) (fun hc => ?_) <;> try exact prA))
   | (refine isD 1 ?_; first | (refine isAl ?_; refine WPl.nw fun g1 => ?_) | (refine isBx ?_; refine WPl.nw fun g1 => ?_))
   | (refine isD 7 ?_; refine WPl.rdX (ReadR.lenPt ⟨_, Tryz.underlying39⟩ rfl) ?_)
   | (refine isD 8 ?_; refine WPl.rdX (ReadR.binE rfl rfl (BinR.addI (by omega) (by omega)) e8) ?_)
   | (refine isOp ?_; first | refine WPl.rd ?_ | refine WPl.sk ?_ | refine WPl.rdB ?_)
   | (refine isBx ?_; refine WPl.nw fun g => ?_)
   | (show WPl _ _ _ _ _ _ _ (⟨_, .indexAddr _ _ _, _, _, _, _⟩ :: _) _; refine WPl.rdX (ReadR.indexE rfl rfl hasA (by first | assumption | omega)) ?_)
   | (show WPl _ _ _ _ _ _ _ (⟨_, .fieldAddr _ _ _, _, _, _, _⟩ :: _) _; refine WPl.rdX (ReadR.fieldE rfl hasA (by first | assumption | omega)) ?_)
   | (show WPl _ _ _ _ _ _ _ (⟨_, .load _ _, _, _, _, _⟩ :: _) _; first | refine WPl.rdX (ReadR.loadE rfl hasA (by assumption)) ?_ | refine WPl.rdX (ReadR.loadES (by assumption) (by first | assumption | omega) rfl hasA) ?_)
   | (show WPl _ _ _ _ _ _ _ (⟨_, .slice _ _ _ _ _, _, _, _, _⟩ :: _) _; first | refine WPl.rdX (ReadR.sliceH rfl rfl hasA (by omega)) ?_ | refine WPl.rdX (ReadR.sliceL rfl rfl hasA (by omega)) ?_ | refine WPl.rdX (ReadR.sliceLH rfl rfl rfl hasA (by omega) (by omega)) ?_)
   | (refine WPl.spQ (fun hc => ?_) (fun hc => ?_) <;> try exact prA)
   | fail)
  exact WPq.dV
def aloneP (p : Pt) : Int := if p.last = false ∧ (p.d.length = 0 ∨ p.d.length % 8 ≠ 0) then 4 else if 2028 < p.fin then 10 else 0
theorem palone_t (p : Pt) (hp : p.fin ≤ 1000000) : Triple Tryz.prog 102 #[ag (ptC p)] [] (RVal (.int .i64 (aloneP p))) := by
  have hv1 := p.v1
  have hfin : p.fin = p.pos + p.d.length := rfl
  have l1 := p.h.src.len
  have l2 := p.h.dst.len
  have c22 := pend_t p hp
  refine Triple.enter Tryz.func102 rfl Tryz.ntmps102 rfl (fun W => ?_)
  dsimp only [argsF, Nat.reduceAdd]
  repeat' (first
   | refine WPl.nil ?_ | refine WPq.then ?_ | refine WPq.thenR ?_ | refine WPq.thenE ?_ | refine WPq.blockN ?_ | refine WPq.blockR ?_ | refine WPq.blockE ?_ | refine WPq.blockO rfl ?_ | refine WPc.seq ?_ | refine WPc.block ?_ | refine WPc.ret ?_ | refine WPc.exit ?_ | refine WPc.skip ?_ | refine WPc.region ?_
   | (refine isCond ?_; first | refine WPc.cT ?_ | refine WPc.cF ?_ | (refine WPc.cQ (fun hc => ?_) (fun hc => ?_) <;> try exact prA))
   | (refine isD 1 ?_; first | (refine isAl ?_; refine WPl.nw fun g1 => ?_) | (refine isBx ?_; refine WPl.nw fun g1 => ?_))
   | (refine isD 10 ?_; refine WPl.rdX (ReadR.lenPt ⟨_, Tryz.underlying39⟩ rfl) ?_)
   | (refine isD 15 ?_; refine WPl.rdX (ReadR.lenPt ⟨_, Tryz.underlying39⟩ rfl) ?_)
   | (refine isC 22 ?_; refine WPl.cV (c22) ?_)
   | (refine isOp ?_; first | refine WPl.rd ?_ | refine WPl.sk ?_ | refine WPl.rdB ?_)
   | (refine isBx ?_; refine WPl.nw fun g => ?_)
   | (show WPl _ _ _ _ _ _ _ (⟨_, .indexAddr _ _ _, _, _, _, _⟩ :: _) _; refine WPl.rdX (ReadR.indexE rfl rfl hasA (by first | assumption | omega)) ?_)
   | (show WPl _ _ _ _ _ _ _ (⟨_, .fieldAddr _ _ _, _, _, _, _⟩ :: _) _; refine WPl.rdX (ReadR.fieldE rfl hasA (by first | assumption | omega)) ?_)
   | (show WPl _ _ _ _ _ _ _ (⟨_, .load _ _, _, _, _, _⟩ :: _) _; first | refine WPl.rdX (ReadR.loadE rfl hasA (by assumption)) ?_ | refine WPl.rdX (ReadR.loadES (by assumption) (by first | assumption | omega) rfl hasA) ?_)
   | (show WPl _ _ _ _ _ _ _ (⟨_, .slice _ _ _ _ _, _, _, _, _⟩ :: _) _; first | refine WPl.rdX (ReadR.sliceH rfl rfl hasA (by omega)) ?_ | refine WPl.rdX (ReadR.sliceL rfl rfl hasA (by omega)) ?_ | refine WPl.rdX (ReadR.sliceLH rfl rfl rfl hasA (by omega) (by omega)) ?_)
   | (refine WPl.spQ (fun hc => ?_) (fun hc => ?_) <;> try exact prA)
   | fail)
  all_goals refine WPq.dV (hc := ?_)
  all_goals (show Value.int .i64 _ = Value.int .i64 _; congr 1; unfold aloneP; simp only [*, true_and, false_and, if_false, if_true, reduceCtorEq] <;> (repeat (first | omega | split)))
end Go.Proofs.YtpilenbdimhegaaGreatDoor
/- Layer 35 (parts): a part is read: contracts. -/
namespace Go.Proofs.YtpilenbdimhegaaGreatDoor
open Go.RowKit
set_option linter.unusedSimpArgs false
set_option linter.unusedVariables false
theorem HasS.sl {Γ : List Asn} {v : Value} {m : Nat} {xs : List Value} (h : HasS Γ v m xs) : ∀ w, Holds Γ w → ∃ a c, v = .slice a m c := fun w hw => by
  obtain ⟨a, cap, h1, _⟩ := (h w hw).at
  exact ⟨a, cap, h1⟩
theorem and_8192 (a : Nat) : a &&& 8192 = a / 8192 % 2 * 8192 := by
  apply Nat.eq_of_testBit_eq
  intro i
  rw [Nat.testBit_and, show (8192 : Nat) = 2 ^ 13 by decide, Nat.testBit_two_pow, Nat.testBit_mul_two_pow]
  by_cases h : 13 = i
  · subst h
    simp [Nat.testBit_eq_decide_div_mod_eq]
  · by_cases h2 : 13 ≤ i
    · have h3 : ∃ j, i - 13 = j + 1 := ⟨i - 14, by omega⟩
      obtain ⟨j, hj⟩ := h3
      have hb : (a / 2 ^ 13 % 2).testBit (i - 13) = false := by
        rw [hj]
        apply Nat.testBit_lt_two_pow
        have : a / 2 ^ 13 % 2 < 2 := Nat.mod_lt _ (by decide)
        calc a / 2 ^ 13 % 2 < 2 := this
          _ ≤ 2 ^ (j + 1) := by rw [Nat.pow_succ]; have : 1 ≤ 2 ^ j := Nat.one_le_two_pow; omega
      simp [h, hb]
    · simp [h, h2]
open Go.RowKit
set_option linter.unusedSimpArgs false
set_option linter.unusedVariables false
set_option maxRecDepth 20000
set_option maxHeartbeats 4000000
attribute [local irreducible] WPc WPl WPq ReadR OpT BinR HasS bx rdN rowN Take Takes Prov Triple ResF BuildP Done ag Int.decLt Int.decLe Int.instDecidableEq
theorem BinR.and8192 {P : Program} {T : TypeId} {a : Nat} (ha : a < 65536) : BinR P .and T (.int .u16 (a : Int)) (.int .u16 8192) (.int .u16 ((a / 8192 % 2 * 8192 : Nat) : Int)) := by
  have := BinR.andN (P := P) (T := T) (k := .u16) (a := a) (b := 8192) rfl (by exact ha) (by show _ < 2 ^ 16; omega)
  rwa [and_8192] at this
theorem BinR.and8191 {P : Program} {T : TypeId} {a : Nat} (ha : a < 65536) : BinR P .and T (.int .u16 (a : Int)) (.int .u16 8191) (.int .u16 ((a % 8192 : Nat) : Int)) := by
  have := BinR.andN (P := P) (T := T) (k := .u16) (a := a) (b := 8191) rfl (by exact ha) (by show _ < 2 ^ 16; omega)
  rwa [show (8191 : Nat) = 2 ^ 13 - 1 by decide, Nat.and_two_pow_sub_one_eq_mod] at this
theorem pword_t (vb : Value) (b : List UInt8) (k : Nat) (hk : k + 2 ≤ b.length) (hl : b.length ≤ 100000) : Triple Tryz.prog 133 #[vb, .int .i64 (k : Int)] [rb vb b] (RVal (.int .u16 (val (seg b k 2) : Nat))) := by
  have hv := val2_lt (l := b) (k := k)
  refine Triple.enter Tryz.func133 rfl Tryz.ntmps133 rfl (fun W => ?_)
  dsimp only [argsF, Nat.reduceAdd]
  repeat' (first
   | refine WPl.nil ?_ | refine WPq.then ?_ | refine WPq.thenR ?_ | refine WPq.thenE ?_ | refine WPq.blockN ?_ | refine WPq.blockR ?_ | refine WPq.blockE ?_ | refine WPq.blockO rfl ?_ | refine WPc.seq ?_ | refine WPc.block ?_ | refine WPc.ret ?_ | refine WPc.exit ?_ | refine WPc.skip ?_ | refine WPc.region ?_
   | (refine isCond ?_; first | refine WPc.cT ?_ | refine WPc.cF ?_ | (refine WPc.cQ (fun hc => ?_) (fun hc => ?_) <;> try exact prA))
   | (refine isC 10 ?_; refine WPl.cV (get_t vb b k 2 (by omega) (by omega) (by omega) (by omega)) ?_)
   | (refine isOp ?_; first | refine WPl.rd ?_ | refine WPl.sk ?_ | refine WPl.rdB ?_)
   | (show WPl _ _ _ _ _ _ _ (⟨_, .indexAddr _ _ _, _, _, _, _⟩ :: _) _; refine WPl.rdX (ReadR.indexE rfl rfl hasA (by first | assumption | omega)) ?_)
   | (show WPl _ _ _ _ _ _ _ (⟨_, .fieldAddr _ _ _, _, _, _, _⟩ :: _) _; refine WPl.rdX (ReadR.fieldE rfl hasA (by first | assumption | omega)) ?_)
   | (show WPl _ _ _ _ _ _ _ (⟨_, .load _ _, _, _, _, _⟩ :: _) _; first | refine WPl.rdX (ReadR.loadE rfl hasA (by assumption)) ?_ | refine WPl.rdX (ReadR.loadES (by assumption) (by first | assumption | omega) rfl hasA) ?_)
   | (show WPl _ _ _ _ _ _ _ (⟨_, .slice _ _ _ _ _, _, _, _, _⟩ :: _) _; first | refine WPl.rdX (ReadR.sliceH rfl rfl hasA (by omega)) ?_ | refine WPl.rdX (ReadR.sliceL rfl rfl hasA (by omega)) ?_ | refine WPl.rdX (ReadR.sliceLH rfl rfl rfl hasA (by omega) (by omega)) ?_)
   | (refine WPl.spQ (fun hc => ?_) (fun hc => ?_) <;> try exact prA)
   | fail)
  all_goals try (first | exact WPq.dTp | exact WPq.dTs | exact WPq.dV | exact WPq.dR | exact WPq.dR2 | exact WPq.dH | exact WPq.dBH | exact WPq.dT)
attribute [local irreducible] mp rmp rg rgo mput mget mfind mdel gbag jes pts val seg
def lastW (w : Nat) : Bool := decide (((w / 8192 % 2 * 8192 : Nat) : Int) = 0)
def keyB35 (h : Hd) (b : List UInt8) : Ky := ⟨h.src, h.dst, h.proto, val (seg b 4 2)⟩
def ptOf (h : Hd) (k : Nat) (b : List UInt8) (a : Option Addr) (c : Nat) : Pt := ⟨8 * (val (seg b 6 2) % 8192), a, c, seg b k (b.length - k), lastW (val (seg b 6 2)), h⟩
def RRead (h : Hd) (k : Nat) (b : List UInt8) : Value → List Asn → Prop := fun v Γ => ∃ a c, v = .tuple #[ag (ptC (ptOf h k b a c)), ag (kyC (keyB35 h b))] ∧ Γ = [ob (ptOf h k b a c).v (seg b k (b.length - k))]
theorem pread_t (h : Hd) (k : Nat) (hk : h.pos = (k : Int)) (v : Value) (b : List UInt8) (hb : 20 ≤ b.length) (hl : b.length ≤ 100000) (hkb : k ≤ b.length) : Triple Tryz.prog 101 #[ag (hdc h), v] [rb v b] (RRead h k b) := by
  have l1 := h.src.len
  have l2 := h.dst.len
  have hw6 := val2_lt (l := b) (k := 6)
  have hw4 := val2_lt (l := b) (k := 4)
  have c9 := pword_t v b 6 (by omega) hl
  have c32 := pword_t v b 4 (by omega) hl
  have hsl : (seg b k (b.length - k)).length = b.length - k := seg_length (by omega)
  obtain ⟨w6, hw⟩ : ∃ w6, w6 = val (seg b 6 2) := ⟨_, rfl⟩
  rw [← hw] at hw6 c9
  have c18 := clone_t (subv 1 v k (b.length - k)) (seg b k (b.length - k)) (by omega)
  obtain ⟨six, proto, pos, src, dst, part, hops⟩ := h
  dsimp only at hk l1 l2
  subst hk
  have e13 : (8 : Int) * ((w6 % 8192 : Nat) : Int) = ((8 * (w6 % 8192) : Nat) : Int) := by omega
  refine Triple.enter Tryz.func101 rfl Tryz.ntmps101 rfl (fun W => ?_)
  dsimp only [argsF, Nat.reduceAdd]
  repeat' (first
   | refine WPl.nil ?_ | refine WPq.then ?_ | refine WPq.thenR ?_ | refine WPq.thenE ?_ | refine WPq.blockN ?_ | refine WPq.blockR ?_ | refine WPq.blockE ?_ | refine WPq.blockO rfl ?_ | refine WPc.seq ?_ | refine WPc.block ?_ | refine WPc.ret ?_ | refine WPc.exit ?_ | refine WPc.skip ?_ | refine WPc.region ?_
   | (refine isCond ?_; first | refine WPc.cT ?_ | refine WPc.cF ?_ | (refine WPc.cQ (fun hc => ?_) (fun hc => ?_) <;> try exact prA))
   | (refine isD 2 ?_; first | (refine isAl ?_; refine WPl.nw fun g2 => ?_) | (refine isBx ?_; refine WPl.nw fun g2 => ?_))
   | (refine isD 4 ?_; first | (refine isAl ?_; refine WPl.nw fun g4 => ?_) | (refine isBx ?_; refine WPl.nw fun g4 => ?_))
   | (refine isD 5 ?_; first | (refine isAl ?_; refine WPl.nw fun g5 => ?_) | (refine isBx ?_; refine WPl.nw fun g5 => ?_))
   | (refine isC 9 ?_; refine WPl.cV (c9) ?_)
   | (refine isOp ?_; first | refine WPl.rd ?_ | refine WPl.sk ?_ | refine WPl.rdB ?_)
   | (refine isAl ?_; refine WPl.nw fun g => ?_)
   | (refine isBx ?_; refine WPl.nw fun g => ?_)
   | (refine isSt ?_; first | refine WPl.st1 ?_ | refine WPl.stA ?_ | refine WPl.stEB ?_ | refine WPl.stRB ?_)
   | (show WPl _ _ _ _ _ _ _ (⟨_, .indexAddr _ _ _, _, _, _, _⟩ :: _) _; refine WPl.rdX (ReadR.indexE rfl rfl hasA (by first | assumption | omega)) ?_)
   | (show WPl _ _ _ _ _ _ _ (⟨_, .fieldAddr _ _ _, _, _, _, _⟩ :: _) _; refine WPl.rdX (ReadR.fieldE rfl hasA (by first | assumption | omega)) ?_)
   | (show WPl _ _ _ _ _ _ _ (⟨_, .load _ _, _, _, _, _⟩ :: _) _; first | refine WPl.rdX (ReadR.loadE rfl hasA (by assumption)) ?_ | refine WPl.rdX (ReadR.loadES (by assumption) (by first | assumption | omega) rfl hasA) ?_)
   | (show WPl _ _ _ _ _ _ _ (⟨_, .slice _ _ _ _ _, _, _, _, _⟩ :: _) _; first | refine WPl.rdX (ReadR.sliceH rfl rfl hasA (by omega)) ?_ | refine WPl.rdX (ReadR.sliceL rfl rfl hasA (by omega)) ?_ | refine WPl.rdX (ReadR.sliceLH rfl rfl rfl hasA (by omega) (by omega)) ?_)
   | (refine WPl.spQ (fun hc => ?_) (fun hc => ?_) <;> try exact prA)
   | fail)
  repeat' (first
   | refine WPl.nil ?_ | refine WPq.then ?_ | refine WPq.thenR ?_ | refine WPq.thenE ?_ | refine WPq.blockN ?_ | refine WPq.blockR ?_ | refine WPq.blockE ?_ | refine WPq.blockO rfl ?_ | refine WPc.seq ?_ | refine WPc.block ?_ | refine WPc.ret ?_ | refine WPc.exit ?_ | refine WPc.skip ?_ | refine WPc.region ?_
   | (refine isReg 2 ?_; refine WPc.drA [([], [7, 14, 15, 16, 17, 18, 19, 20, 21, 22]), ([0], [7, 10, 14, 15, 16, 17, 18, 19, 20, 21, 22]), ([0, 1], [7, 10, 11, 14, 15, 16, 17, 18, 19, 20, 21, 22]), ([0, 1, 2], [7, 10, 11, 12, 14, 15, 16, 17, 18, 19, 20, 21, 22]), ([], [7, 10, 11, 12, 13, 15, 16, 19, 20, 21, 22]), ([], [7, 10, 11, 12, 13, 14, 19, 20, 21, 22]), ([5], [7, 10, 11, 12, 13, 14, 15, 19, 20, 21, 22]), ([4, 5, 6], [7, 10, 11, 12, 13, 14, 15, 16, 19, 20, 21, 22]), ([4, 5, 6, 7], [7, 10, 11, 12, 13, 14, 15, 16, 17, 19, 20, 21, 22]), ([], [7, 10, 11, 12, 13, 14, 15, 16, 17, 18, 22]), ([9], [7, 10, 11, 12, 13, 14, 15, 16, 17, 18, 19, 22]), ([9, 10], [7, 10, 11, 12, 13, 14, 15, 16, 17, 18, 19, 20, 22]), ([], [7, 10, 11, 12, 13, 14, 15, 16, 17, 18, 19, 20, 21]), ([0, 1, 2, 3, 4, 5, 6, 7, 8, 9, 10, 11, 12], [7, 10, 11, 12, 13, 14, 15, 16, 17, 18, 19, 20, 21, 22]), ([], [10, 11, 12, 13, 14, 15, 16, 17, 18, 19, 20, 21, 22, 23]), ([0, 1, 2, 3, 4, 5, 6, 7, 8, 9, 10, 11, 12, 13, 14], [7, 10, 11, 12, 13, 14, 15, 16, 17, 18, 19, 20, 21, 22, 23])] [(14, 15)] (Γx := []) ?_; dsimp only [prev0, List.length_nil, List.length_cons])
   | (refine gAny ?_; first | (refine gC 18 ?_; refine RGl.row (Γ1 := fun _ => []) (fun e hk => OpT.callN (c18)) ?_) | (refine gD 11 ?_; refine RGl.rdX (fun e hk => by (try dsimp only [bndR, ensR, oksR, fcutR, List.append_nil, List.nil_append, List.cons_append, List.append_assoc] at hk ⊢); exact ReadR.bin rfl rfl (BinR.and8191 hw6)) ?_) | (refine gD 13 ?_; refine RGl.rdX (fun e hk => by (try dsimp only [bndR, ensR, oksR, fcutR, List.append_nil, List.nil_append, List.cons_append, List.append_assoc] at hk ⊢); exact ReadR.bin rfl rfl (BinR.mulT e13 (by simp only [kmin]; omega) (by simp only [kmax]; omega))) ?_) | (refine gD 20 ?_; refine RGl.rdX (fun e hk => by (try dsimp only [bndR, ensR, oksR, fcutR, List.append_nil, List.nil_append, List.cons_append, List.append_assoc] at hk ⊢); exact ReadR.bin rfl rfl (BinR.and8192 hw6)) ?_) | (refine gD 21 ?_; refine RGl.rdX (fun e hk => by (try dsimp only [bndR, ensR, oksR, fcutR, List.append_nil, List.nil_append, List.cons_append, List.append_assoc] at hk ⊢); exact ReadR.binE rfl rfl BinR.eql rfl) ?_) | (refine gD 17 ?_; refine RGl.rdX (fun e hk => by (try dsimp only [bndR, ensR, oksR, fcutR, List.append_nil, List.nil_append, List.cons_append, List.append_assoc] at hk ⊢); exact ReadR.sliceL (i := k) rfl rfl hasA hkb) ?_) | (refine gOp ?_; (refine gD 23 ?_; refine RGl.rdX (fun e hk => by (try dsimp only [bndR, ensR, oksR, fcutR, List.append_nil, List.nil_append, List.cons_append, List.append_assoc] at hk ⊢); (repeat (obtain ⟨hk1, hk⟩ := hk)); exact ReadR.build (cs' := ptX (8 * (w6 % 8192)) (e 8).1 (decide (((w6 / 8192 % 2 * 8192 : Nat) : Int) = 0)) ⟨six, proto, (k : Int), src, dst, part, hops⟩) buildA) ?_)) | (refine gOp ?_; first | refine RGl.rdA ?_ | refine RGl.rdX (fun e hk => by (try dsimp only [bndR, ensR, oksR, fcutR, List.append_nil, List.nil_append, List.cons_append, List.append_assoc] at hk ⊢); exact readB) ?_) | (refine gAl ?_; refine RGl.nwA ?_) | (refine gSt ?_; refine RGl.stA ?_) | (refine RGl.fin (fun e hk => ?_); (try dsimp only [bndA, ensAR, oksA, List.append_nil, List.nil_append, List.cons_append, List.append_assoc] at hk ⊢); (repeat (obtain ⟨hk1, hk⟩ := hk))) | fail)
   | (refine isCond ?_; first | refine WPc.cT ?_ | refine WPc.cF ?_ | (refine WPc.cQ (fun hc => ?_) (fun hc => ?_) <;> try exact prA))
   | (refine isD 11 ?_; refine WPl.rdX (ReadR.bin rfl rfl (BinR.and8191 hw6)) ?_)
   | (refine isD 13 ?_; refine WPl.rdX (ReadR.bin rfl rfl (BinR.mulT e13 (by simp only [kmin]; omega) (by simp only [kmax]; omega))) ?_)
   | (refine isD 20 ?_; refine WPl.rdX (ReadR.bin rfl rfl (BinR.and8192 hw6)) ?_)
   | (refine isD 21 ?_; refine WPl.rdX (ReadR.binE rfl rfl BinR.eql rfl) ?_)
   | (refine isD 17 ?_; refine WPl.rdX (ReadR.sliceL (i := k) rfl rfl hasA hkb) ?_)
   | (refine isC 18 ?_; refine WPl.cR (c18) fun v hv => ?_)
   | (refine isOp ?_; first | refine WPl.rd ?_ | refine WPl.sk ?_ | refine WPl.rdB ?_)
   | (refine isAl ?_; refine WPl.nw fun g => ?_)
   | (refine isBx ?_; refine WPl.nw fun g => ?_)
   | (refine isSt ?_; first | refine WPl.st1 ?_ | refine WPl.stA ?_ | refine WPl.stEB ?_ | refine WPl.stRB ?_)
   | (show WPl _ _ _ _ _ _ _ (⟨_, .indexAddr _ _ _, _, _, _, _⟩ :: _) _; refine WPl.rdX (ReadR.indexE rfl rfl hasA (by first | assumption | omega)) ?_)
   | (show WPl _ _ _ _ _ _ _ (⟨_, .fieldAddr _ _ _, _, _, _, _⟩ :: _) _; refine WPl.rdX (ReadR.fieldE rfl hasA (by first | assumption | omega)) ?_)
   | (show WPl _ _ _ _ _ _ _ (⟨_, .load _ _, _, _, _, _⟩ :: _) _; first | refine WPl.rdX (ReadR.loadE rfl hasA (by assumption)) ?_ | refine WPl.rdX (ReadR.loadES (by assumption) (by first | assumption | omega) rfl hasA) ?_)
   | (show WPl _ _ _ _ _ _ _ (⟨_, .slice _ _ _ _ _, _, _, _, _⟩ :: _) _; first | refine WPl.rdX (ReadR.sliceH rfl rfl hasA (by omega)) ?_ | refine WPl.rdX (ReadR.sliceL rfl rfl hasA (by omega)) ?_ | refine WPl.rdX (ReadR.sliceLH rfl rfl rfl hasA (by omega) (by omega)) ?_)
   | (refine WPl.spQ (fun hc => ?_) (fun hc => ?_) <;> try exact prA)
   | fail)
  have h8 : (e 8).1.oneCell' = true := by assumption
  obtain ⟨g7, hg7⟩ : ∃ g7, g7 = blk (e 14).1 := ⟨_, rfl⟩
  obtain ⟨v18, hv18⟩ : ∃ v18, v18 = (e 8).1 := ⟨_, rfl⟩
  dsimp only [Nat.reduceAdd, appCh]
  rw [← hg7, ← hv18]
  clear hg7 hv18
  refine WPc.know (HasS.sl (HasS.row (e := 5) (sz := 1) (v := v18) memA)) fun hac => ?_
  obtain ⟨a, c, rfl⟩ := hac
  repeat' (first
   | refine WPl.nil ?_ | refine WPq.then ?_ | refine WPq.thenR ?_ | refine WPq.thenE ?_ | refine WPq.blockN ?_ | refine WPq.blockR ?_ | refine WPq.blockE ?_ | refine WPq.blockO rfl ?_ | refine WPc.seq ?_ | refine WPc.block ?_ | refine WPc.ret ?_ | refine WPc.exit ?_ | refine WPc.skip ?_ | refine WPc.region ?_
   | (refine isReg 3 ?_; refine WPc.drA [([12, 13], [25, 26, 27, 28, 29, 30, 31, 32, 33]), ([12, 13], [24, 27, 28, 29, 30, 31, 32]), ([1, 12, 13], [24, 25, 27, 28, 29, 30, 31, 32]), ([12, 13], [24, 25, 26, 29, 30, 31, 32]), ([3, 12, 13], [24, 25, 26, 27, 29, 30, 31, 32]), ([12, 13], [24, 25, 26, 27, 28, 31, 32]), ([5, 12, 13], [24, 25, 26, 27, 28, 29, 31, 32]), ([12, 13], [24, 25, 26, 27, 28, 29, 30]), ([7, 12, 13], [24, 25, 26, 27, 28, 29, 30, 31]), ([1, 2, 3, 4, 5, 6, 7, 8, 12, 13], [24, 25, 26, 27, 28, 29, 30, 31, 32]), ([0, 7, 8, 12, 13], [24, 25, 26, 27, 28, 29, 30, 31, 32, 33]), ([0, 1, 2, 3, 4, 5, 6, 7, 8, 9, 10, 12, 13], [24, 25, 26, 27, 28, 29, 30, 31, 32, 33])] [(12, 10), (13, 11), (12, 0), (12, 7), (12, 8), (13, 0), (13, 1), (13, 2), (13, 3), (13, 4), (13, 5), (13, 6), (13, 7), (13, 8), (13, 9), (13, 10)] (Γx := [bx g4 184 [(1, [.int .i64 0]), (1, [.slice none 0 0]), (1, [.bool false]), (1, [.bool false]), (1, [.int .u8 0]), (1, [.int .i64 0]), (1, [.bool false]), (16, u8s (List.replicate 16 0)), (1, [.bool false]), (16, u8s (List.replicate 16 0)), (1, [.bool false]), (1, [.int .u8 0])], bx g5 163 [(1, [.bool false]), (16, u8s (List.replicate 16 0)), (1, [.bool false]), (16, u8s (List.replicate 16 0)), (1, [.int .u8 0]), (1, [.int .u16 0])]]) ?_; dsimp only [prev0, List.length_nil, List.length_cons])
   | (refine gAny ?_; first | (refine gC 32 ?_; refine RGl.vl (fun e hk => OpT.callN (c32)) ?_) | (refine gOp ?_; first | refine RGl.rdA ?_ | refine RGl.rdX (fun e hk => by (try dsimp only [bndR, ensR, oksR, fcutR, List.append_nil, List.nil_append, List.cons_append, List.append_assoc] at hk ⊢); exact readB) ?_) | (refine gSt ?_; refine RGl.stA ?_) | (refine RGl.fin (fun e hk => ?_); (try dsimp only [bndA, ensAR, oksA, List.append_nil, List.nil_append, List.cons_append, List.append_assoc] at hk ⊢); (repeat (obtain ⟨hk1, hk⟩ := hk))) | fail)
   | (refine isCond ?_; first | refine WPc.cT ?_ | refine WPc.cF ?_ | (refine WPc.cQ (fun hc => ?_) (fun hc => ?_) <;> try exact prA))
   | (refine isC 32 ?_; refine WPl.cV (c32) ?_)
   | (refine isOp ?_; first | refine WPl.rd ?_ | refine WPl.sk ?_ | refine WPl.rdB ?_)
   | (refine isAl ?_; refine WPl.nw fun g => ?_)
   | (refine isBx ?_; refine WPl.nw fun g => ?_)
   | (refine isSt ?_; first | refine WPl.st1 ?_ | refine WPl.stA ?_ | refine WPl.stEB ?_ | refine WPl.stRB ?_)
   | (show WPl _ _ _ _ _ _ _ (⟨_, .indexAddr _ _ _, _, _, _, _⟩ :: _) _; refine WPl.rdX (ReadR.indexE rfl rfl hasA (by first | assumption | omega)) ?_)
   | (show WPl _ _ _ _ _ _ _ (⟨_, .fieldAddr _ _ _, _, _, _, _⟩ :: _) _; refine WPl.rdX (ReadR.fieldE rfl hasA (by first | assumption | omega)) ?_)
   | (show WPl _ _ _ _ _ _ _ (⟨_, .load _ _, _, _, _, _⟩ :: _) _; first | refine WPl.rdX (ReadR.loadE rfl hasA (by assumption)) ?_ | refine WPl.rdX (ReadR.loadES (by assumption) (by first | assumption | omega) rfl hasA) ?_)
   | (show WPl _ _ _ _ _ _ _ (⟨_, .slice _ _ _ _ _, _, _, _, _⟩ :: _) _; first | refine WPl.rdX (ReadR.sliceH rfl rfl hasA (by omega)) ?_ | refine WPl.rdX (ReadR.sliceL rfl rfl hasA (by omega)) ?_ | refine WPl.rdX (ReadR.sliceLH rfl rfl rfl hasA (by omega) (by omega)) ?_)
   | (refine WPl.spQ (fun hc => ?_) (fun hc => ?_) <;> try exact prA)
   | fail)
  subst hw
  dsimp only [appCh]
  exact WPq.dX (vs := [ag (ptC (ptOf ⟨six, proto, (k : Int), src, dst, part, hops⟩ k b a c)), ag (kyC (keyB35 ⟨six, proto, (k : Int), src, dst, part, hops⟩ b))]) [ob (ptOf ⟨six, proto, (k : Int), src, dst, part, hops⟩ k b a c).v (seg b k (b.length - k))] ⟨a, c, rfl, rfl⟩
end Go.Proofs.YtpilenbdimhegaaGreatDoor
/- Layer 35 (parts): a part beside others: contracts. -/
namespace Go.Proofs.YtpilenbdimhegaaGreatDoor
def overB (p o : Pt) : Bool := decide (max (p.pos : Int) (o.pos : Int) < min (p.fin : Int) (o.fin : Int))
def badB (p o : Pt) : Bool := (p.last && (o.last || decide ((p.fin : Int) < (o.fin : Int)))) || (o.last && decide ((o.fin : Int) < (p.fin : Int)))
def againstP (ps : List Pt) (p : Pt) : Int := if ps.any (overB p) = true then 7 else if ps.any (badB p) = true then 4 else 0
theorem any_yes {α : Type} {l : List α} {q : α → Bool} {i : Nat} {x : α} (h : l[i]? = some x) (hq : q x = true) : l.any q = true := List.any_eq_true.2 ⟨x, List.mem_of_getElem? h, hq⟩
theorem any_no {α : Type} {l : List α} {q : α → Bool} (h : ∀ j x, j < l.length → l[j]? = some x → q x = false) : l.any q = false := by
  rw [List.any_eq_false]
  intro x hx
  obtain ⟨j, hj⟩ := List.getElem?_of_mem hx
  rw [h j x (List.getElem?_eq_some_iff.1 hj).1 hj]
  decide
open Go.RowKit
set_option linter.unusedSimpArgs false
set_option linter.unusedVariables false
set_option maxRecDepth 20000
set_option maxHeartbeats 4000000
attribute [local irreducible] WPc WPl WPq ReadR OpT BinR HasS bx rdN rowN Take Takes Prov Triple ResF BuildP Done ag Int.decLt Int.decLe Int.instDecidableEq
attribute [local irreducible] mp rmp rg rgo mput mget mfind mdel gbag jes pts Pt.v Pt.fin overB badB
theorem pagainst_t (x : PJ) (p : Pt) (hp : p.fin ≤ 100000) (hx2 : ∀ o ∈ x.ps, o.fin ≤ 100000) (hl : x.ps.length ≤ 10000) : Triple Tryz.prog 137 #[hJ x.g, ag (ptC p)] [rbx x.g 216 (pjC x), rdN x.vP x.ps.length (pts x.ps)] (RVal (.int .i64 (againstP x.ps p))) := by
  have hv1 := p.v1
  have l1 := p.h.src.len
  have l2 := p.h.dst.len
  have hL := pts_len (l := x.ps)
  have cp := pend_t p (by omega)
  refine Triple.enter Tryz.func137 rfl Tryz.ntmps137 rfl (fun W => ?_)
  dsimp only [argsF, Nat.reduceAdd]
  repeat' (first
   | refine WPl.nil ?_ | refine WPq.then ?_ | refine WPc.seq ?_ | refine WPc.block ?_ | refine WPc.region ?_
   | (refine isD 3 ?_; first | (refine isAl ?_; refine WPl.nw fun g3 => ?_) | (refine isBx ?_; refine WPl.nw fun g3 => ?_))
   | (refine isD 12 ?_; refine WPl.rdX (ReadR.loadO memA rfl rfl) ?_)
   | (refine isOp ?_; first | refine WPl.rd ?_ | refine WPl.sk ?_ | refine WPl.rdB ?_)
   | fail)
  first | refine WPc.loop (σ := Nat) (fun st => st ≤ x.ps.length ∧ ∀ j o, j < st → x.ps[j]? = some o → overB p o = false) (fun st => [rbx x.g 216 (pjC x), rdN x.vP x.ps.length (pts x.ps), bx g3 184 (ptC p)]) (fun st => [(0, hJ x.g), (3, .pointer (some ⟨g3, 0, none⟩)), (12, x.vP), (13, .int .i64 (x.ps.length : Int)), (14, .int .i64 (st : Int))]) (fun st => x.ps.length - st) (0) ?_ takesA frsA (fun st km hx hk => ?_)
  · exact ⟨Nat.zero_le _, fun j o hj => absurd hj (Nat.not_lt_zero _)⟩
  obtain ⟨i, rfl⟩ : ∃ i, i = st := ⟨_, rfl⟩
  obtain ⟨hi, hno⟩ := hx
  have hkm : km = x.ps.length - i := hk
  clear hk
  by_cases hlt : i < x.ps.length
  · obtain ⟨o, ho⟩ : ∃ o, x.ps[i]? = some o := ⟨_, List.getElem?_eq_getElem hlt⟩
    have hlt' : (i : Int) < (x.ps.length : Int) := by omega
    have hoc := pts_at ho
    have hov := o.v1
    have k1 := o.h.src.len
    have k2 := o.h.dst.len
    have co := pend_t o (by have := hx2 o (List.mem_of_getElem? ho); omega)
    have hfo := ptC_ok o
    cases hov2 : overB p o with
    | true =>
      have hcm : max (p.pos : Int) (o.pos : Int) < min (p.fin : Int) (o.fin : Int) := by with_unfolding_all exact of_decide_eq_true hov2
      have hr : againstP x.ps p = 7 := if_pos (any_yes ho hov2)
      rw [hr]
      repeat' (first
       | refine WPl.nil ?_ | refine WPq.then ?_ | refine WPq.thenR ?_ | refine WPq.blockR ?_ | refine WPc.seq ?_ | refine WPc.block ?_ | refine WPc.ret ?_ | refine WPc.skip ?_ | refine WPc.region ?_
       | (refine isReg 4 ?_; refine WPc.drA [([], [20, 21, 23, 24, 25, 26, 27]), ([0], [18, 20, 21, 23, 24, 25, 26, 27]), ([], [18, 19, 23, 24, 25, 26, 27]), ([2], [18, 19, 20, 23, 24, 25, 26, 27]), ([0, 1, 2, 3], [18, 19, 20, 21, 23, 24, 25, 26, 27]), ([], [18, 19, 20, 21, 22, 25]), ([5], [18, 19, 20, 21, 22, 23, 25]), ([], [18, 19, 20, 21, 22, 23, 24]), ([5, 6, 7], [18, 19, 20, 21, 22, 23, 24, 25]), ([5, 6, 7, 8], [18, 19, 20, 21, 22, 23, 24, 25, 26]), ([0, 1, 2, 3, 4, 5, 6, 7, 8, 9], [18, 19, 20, 21, 22, 23, 24, 25, 26, 27])] [] (Γx := []) ?_; dsimp only [prev0, List.length_nil, List.length_cons])
       | (refine gAny ?_; first | (refine gC 24 ?_; refine RGl.vl (fun e hk => OpT.callN (cp)) ?_) | (refine gC 26 ?_; refine RGl.vl (fun e hk => OpT.callN (co)) ?_) | (refine gOp ?_; first | refine RGl.rdA ?_ | refine RGl.rdX (fun e hk => by (try dsimp only [bndR, ensR, oksR, fcutR, List.append_nil, List.nil_append, List.cons_append, List.append_assoc] at hk ⊢); exact readB) ?_) | (refine RGl.fin (fun e hk => ?_); (try dsimp only [bndA, ensAR, oksA, List.append_nil, List.nil_append, List.cons_append, List.append_assoc] at hk ⊢); (repeat (obtain ⟨hk1, hk⟩ := hk))) | fail)
       | (refine isCond ?_; first | refine WPc.cT ?_ | refine WPc.cF ?_ | (refine WPc.cQ (fun hc => ?_) (fun hc => ?_) <;> try first | exact prA | (exfalso; first | omega)))
       | (refine isD 15 ?_; refine WPl.rdX (ReadR.binE rfl rfl BinR.lss (congrArg Value.bool (decide_eq_true hlt'))) ?_)
       | (refine isD 16 ?_; refine WPl.rdX (ReadR.indexE (i := i) rfl rfl hasA hlt) ?_)
       | (refine isD 17 ?_; refine WPl.rdX (ReadR.loadES (cs := ptC o) hoc (by omega) rfl hasA) ?_)
       | (refine isD 6 ?_; first | (refine isAl ?_; refine WPl.nw fun g6 => ?_) | (refine isBx ?_; refine WPl.nw fun g6 => ?_))
       | (show WPl _ _ _ _ _ _ _ (⟨_, .store _ (.tmp 6) _, _, _, _, _⟩ :: _) _; refine WPl.stA (new := ptC o) ?_ (hn := hfo))
       | (refine isOp ?_; first | refine WPl.rd ?_ | refine WPl.sk ?_ | refine WPl.rdB ?_)
       | fail)
      exact WPq.dV
    | false =>
      have hcm : ¬ max (p.pos : Int) (o.pos : Int) < min (p.fin : Int) (o.fin : Int) := by with_unfolding_all exact of_decide_eq_false hov2
      repeat' (first
       | refine WPl.nil ?_ | refine WPq.then ?_ | refine WPq.blockN ?_ | refine WPc.seq ?_ | refine WPc.block ?_ | refine WPc.skip ?_ | refine WPc.region ?_
       | (refine isReg 4 ?_; refine WPc.drA [([], [20, 21, 23, 24, 25, 26, 27]), ([0], [18, 20, 21, 23, 24, 25, 26, 27]), ([], [18, 19, 23, 24, 25, 26, 27]), ([2], [18, 19, 20, 23, 24, 25, 26, 27]), ([0, 1, 2, 3], [18, 19, 20, 21, 23, 24, 25, 26, 27]), ([], [18, 19, 20, 21, 22, 25]), ([5], [18, 19, 20, 21, 22, 23, 25]), ([], [18, 19, 20, 21, 22, 23, 24]), ([5, 6, 7], [18, 19, 20, 21, 22, 23, 24, 25]), ([5, 6, 7, 8], [18, 19, 20, 21, 22, 23, 24, 25, 26]), ([0, 1, 2, 3, 4, 5, 6, 7, 8, 9], [18, 19, 20, 21, 22, 23, 24, 25, 26, 27])] [] (Γx := []) ?_; dsimp only [prev0, List.length_nil, List.length_cons])
       | (refine gAny ?_; first | (refine gC 24 ?_; refine RGl.vl (fun e hk => OpT.callN (cp)) ?_) | (refine gC 26 ?_; refine RGl.vl (fun e hk => OpT.callN (co)) ?_) | (refine gOp ?_; first | refine RGl.rdA ?_ | refine RGl.rdX (fun e hk => by (try dsimp only [bndR, ensR, oksR, fcutR, List.append_nil, List.nil_append, List.cons_append, List.append_assoc] at hk ⊢); exact readB) ?_) | (refine RGl.fin (fun e hk => ?_); (try dsimp only [bndA, ensAR, oksA, List.append_nil, List.nil_append, List.cons_append, List.append_assoc] at hk ⊢); (repeat (obtain ⟨hk1, hk⟩ := hk))) | fail)
       | (refine isCond ?_; first | refine WPc.cT ?_ | refine WPc.cF ?_ | (refine WPc.cQ (fun hc => ?_) (fun hc => ?_) <;> try first | exact prA | (exfalso; first | omega)))
       | (refine isD 15 ?_; refine WPl.rdX (ReadR.binE rfl rfl BinR.lss (congrArg Value.bool (decide_eq_true hlt'))) ?_)
       | (refine isD 16 ?_; refine WPl.rdX (ReadR.indexE (i := i) rfl rfl hasA hlt) ?_)
       | (refine isD 17 ?_; refine WPl.rdX (ReadR.loadES (cs := ptC o) hoc (by omega) rfl hasA) ?_)
       | (refine isD 6 ?_; first | (refine isAl ?_; refine WPl.nw fun g6 => ?_) | (refine isBx ?_; refine WPl.nw fun g6 => ?_))
       | (show WPl _ _ _ _ _ _ _ (⟨_, .store _ (.tmp 6) _, _, _, _, _⟩ :: _) _; refine WPl.stA (new := ptC o) ?_ (hn := hfo))
       | (refine isOp ?_; first | refine WPl.rd ?_ | refine WPl.sk ?_ | refine WPl.rdB ?_)
       | fail)
      exact WPq.rnd (i + 1) ⟨hlt, fun j q hj hq => by
        by_cases e : j = i
        · subst e; rw [ho] at hq; cases hq; exact hov2
        · exact hno j q (by omega) hq⟩ (by omega)
  have hlt' : ¬ (i : Int) < (x.ps.length : Int) := by omega
  have hno1 : x.ps.any (overB p) = false := any_no fun j o hj hq => hno j o (by omega) hq
  clear hno hkm
  repeat' (first
   | refine WPl.nil ?_ | refine WPq.then ?_ | refine WPq.thenE ?_ | refine WPq.blockE ?_ | refine WPc.seq ?_ | refine WPc.block ?_ | refine WPc.exit ?_ | refine WPc.region ?_
   | (refine isCond ?_; first | refine WPc.cT ?_ | refine WPc.cF ?_ | (refine WPc.cQ (fun hc => ?_) (fun hc => ?_) <;> try first | exact prA | (exfalso; first | omega)))
   | (refine isD 15 ?_; refine WPl.rdX (ReadR.binE rfl rfl BinR.lss (congrArg Value.bool (decide_eq_false hlt'))) ?_)
   | (refine isD 33 ?_; refine WPl.rdX (ReadR.loadO memA rfl rfl) ?_)
   | (refine isOp ?_; first | refine WPl.rd ?_ | refine WPl.sk ?_ | refine WPl.rdB ?_)
   | fail)
  first | refine WPc.loop (σ := Nat) (fun st => st ≤ x.ps.length ∧ ∀ j o, j < st → x.ps[j]? = some o → badB p o = false) (fun st => [rbx x.g 216 (pjC x), rdN x.vP x.ps.length (pts x.ps), bx g3 184 (ptC p)]) (fun st => [(0, hJ x.g), (3, .pointer (some ⟨g3, 0, none⟩)), (33, x.vP), (34, .int .i64 (x.ps.length : Int)), (35, .int .i64 (st : Int))]) (fun st => x.ps.length - st) (0) ?_ takesA frsA (fun st km hx hk => ?_)
  · exact ⟨Nat.zero_le _, fun j o hj => absurd hj (Nat.not_lt_zero _)⟩
  obtain ⟨k, rfl⟩ : ∃ k, k = st := ⟨_, rfl⟩
  obtain ⟨hk2, hno⟩ := hx
  have hkm : km = x.ps.length - k := hk
  clear hk
  by_cases hlt : k < x.ps.length
  · obtain ⟨o, ho⟩ : ∃ o, x.ps[k]? = some o := ⟨_, List.getElem?_eq_getElem hlt⟩
    have hlt' : (k : Int) < (x.ps.length : Int) := by omega
    have hoc := pts_at ho
    have hov := o.v1
    have k1 := o.h.src.len
    have k2 := o.h.dst.len
    have co := pend_t o (by have := hx2 o (List.mem_of_getElem? ho); omega)
    have hfo := ptC_ok o
    have hnx : badB p o = false → k + 1 ≤ x.ps.length ∧ ∀ j q, j < k + 1 → x.ps[j]? = some q → badB p q = false := fun hb => ⟨hlt, fun j q hj hq => by
      by_cases e : j = k
      · subst e; rw [ho] at hq; cases hq; exact hb
      · exact hno j q (by omega) hq⟩
    have hyes : badB p o = true → againstP x.ps p = 4 := fun hb => by unfold againstP; rw [if_neg (by rw [hno1]; decide), if_pos (any_yes ho hb)]
    have hbd : badB p o = ((p.last && (o.last || decide ((p.fin : Int) < (o.fin : Int)))) || (o.last && decide ((o.fin : Int) < (p.fin : Int)))) := by with_unfolding_all rfl
    cases hpl : p.last with
    | true =>
      have ep : ptC p = ptX p.pos p.v true p.h := by show ptX _ _ p.last _ = _; rw [hpl]
      rw [ep] at cp ⊢
      cases hol : o.last with
      | true =>
        have eo : ptC o = ptX o.pos o.v true o.h := by show ptX _ _ o.last _ = _; rw [hol]
        rw [eo] at co hoc hfo
        rw [hyes (by rw [hbd, hpl, hol]; rfl)]
        repeat' (first
         | refine WPl.nil ?_ | refine WPq.then ?_ | refine WPq.thenR ?_ | refine WPq.blockR ?_ | refine WPc.seq ?_ | refine WPc.block ?_ | refine WPc.ret ?_ | refine WPc.skip ?_ | refine WPc.region ?_
         | (refine isReg 10 ?_; refine WPc.drA [([], []), ([0], [39]), ([0, 1], [39, 40]), ([0, 1, 2], [39, 40, 41]), ([0, 1, 2, 3], [39, 40, 41, 42]), ([0, 1, 2, 3, 4], [39, 40, 41, 42, 43]), ([0, 1, 2, 3, 4, 5], [39, 40, 41, 42, 43, 44, 47]), ([0, 1, 2, 3, 4, 5, 6], [39, 40, 41, 42, 43, 44, 45, 47]), ([0, 1, 2, 3, 4, 5], [39, 40, 41, 42, 43, 44, 45, 46]), ([0, 1, 2, 3, 4, 5, 6, 7, 8], [39, 40, 41, 42, 43, 44, 45, 46, 47]), ([0, 1, 2, 3, 4, 5, 6, 7, 8, 9], [39, 40, 41, 42, 43, 44, 45, 46, 47, 48]), ([0, 1, 2, 3, 4, 5, 6, 7, 8, 9, 10], [39, 40, 41, 42, 43, 44, 45, 46, 47, 48, 49]), ([0, 1, 2, 3, 4, 5, 6, 7, 8, 9, 10, 11], [39, 40, 41, 42, 43, 44, 45, 46, 47, 48, 49, 50]), ([0, 1, 2, 3, 4, 5, 6, 7, 8, 9, 10, 11, 12], [39, 40, 41, 42, 43, 44, 45, 46, 47, 48, 49, 50, 51]), ([0, 1, 2, 3, 4, 5, 6, 7, 8, 9, 10, 11, 12, 13], [39, 40, 41, 42, 43, 44, 45, 46, 47, 48, 49, 50, 51, 52]), ([0, 1, 2, 3, 4, 5, 6, 7, 8, 9, 10, 11, 12, 13, 14], [39, 40, 41, 42, 43, 44, 45, 46, 47, 48, 49, 50, 51, 52, 53]), ([0, 1, 2, 3, 4, 5, 6, 7, 8, 9, 10, 11, 12, 13, 14, 15], [39, 40, 41, 42, 43, 44, 45, 46, 47, 48, 49, 50, 51, 52, 53, 54]), ([0, 1, 2, 3, 4, 5, 6, 7, 8, 9, 10, 11, 12, 13, 14, 15, 16], [39, 40, 41, 42, 43, 44, 45, 46, 47, 48, 49, 50, 51, 52, 53, 54, 55, 58]), ([0, 1, 2, 3, 4, 5, 6, 7, 8, 9, 10, 11, 12, 13, 14, 15, 16, 17], [39, 40, 41, 42, 43, 44, 45, 46, 47, 48, 49, 50, 51, 52, 53, 54, 55, 56, 58]), ([0, 1, 2, 3, 4, 5, 6, 7, 8, 9, 10, 11, 12, 13, 14, 15, 16], [39, 40, 41, 42, 43, 44, 45, 46, 47, 48, 49, 50, 51, 52, 53, 54, 55, 56, 57]), ([0, 1, 2, 3, 4, 5, 6, 7, 8, 9, 10, 11, 12, 13, 14, 15, 16, 17, 18, 19], [39, 40, 41, 42, 43, 44, 45, 46, 47, 48, 49, 50, 51, 52, 53, 54, 55, 56, 57, 58]), ([0, 1, 2, 3, 4, 5, 6, 7, 8, 9, 10, 11, 12, 13, 14, 15, 16, 17, 18, 19, 20], [39, 40, 41, 42, 43, 44, 45, 46, 47, 48, 49, 50, 51, 52, 53, 54, 55, 56, 57, 58, 59]), ([0, 1, 2, 3, 4, 5, 6, 7, 8, 9, 10, 11, 12, 13, 14, 15, 16, 17, 18, 19, 20, 21], [39, 40, 41, 42, 43, 44, 45, 46, 47, 48, 49, 50, 51, 52, 53, 54, 55, 56, 57, 58, 59, 60]), ([0, 1, 2, 3, 4, 5, 6, 7, 8, 9, 10, 11, 12, 13, 14, 15, 16, 17, 18, 19, 20, 21, 22], [39, 40, 41, 42, 43, 44, 45, 46, 47, 48, 49, 50, 51, 52, 53, 54, 55, 56, 57, 58, 59, 60, 61])] [] (Γx := []) ?_; dsimp only [prev0, List.length_nil, List.length_cons])
         | (refine gAny ?_; first | (refine gGd ?_; refine RGl.skp ?_) | (refine gOp ?_; first | refine RGl.rdA ?_ | refine RGl.rdX (fun e hk => by (try dsimp only [bndR, ensR, oksR, fcutR, List.append_nil, List.nil_append, List.cons_append, List.append_assoc] at hk ⊢); exact readB) ?_) | (refine RGl.fin (fun e hk => ?_); (try dsimp only [bndA, ensAR, oksA, List.append_nil, List.nil_append, List.cons_append, List.append_assoc] at hk ⊢); (repeat (obtain ⟨hk1, hk⟩ := hk))) | fail)
         | (refine isCond ?_; first | refine WPc.cT ?_ | refine WPc.cF ?_ | (refine WPc.cQ (fun hc => ?_) (fun hc => ?_) <;> try first | exact prA | (exfalso; first | omega)))
         | (refine isD 36 ?_; refine WPl.rdX (ReadR.binE rfl rfl BinR.lss (congrArg Value.bool (decide_eq_true hlt'))) ?_)
         | (refine isD 37 ?_; refine WPl.rdX (ReadR.indexE (i := k) rfl rfl hasA hlt) ?_)
         | (refine isD 38 ?_; refine WPl.rdX (ReadR.loadES (cs := ptX o.pos o.v true o.h) hoc (by omega) rfl hasA) ?_)
         | (refine isD 8 ?_; first | (refine isAl ?_; refine WPl.nw fun g8 => ?_) | (refine isBx ?_; refine WPl.nw fun g8 => ?_))
         | (show WPl _ _ _ _ _ _ _ (⟨_, .store _ (.tmp 8) _, _, _, _, _⟩ :: _) _; refine WPl.stA (new := ptX o.pos o.v true o.h) ?_ (hn := hfo))
         | (refine isOp ?_; first | refine WPl.rd ?_ | refine WPl.sk ?_ | refine WPl.rdB ?_)
         | fail)
        exact WPq.dV
      | false =>
        have eo : ptC o = ptX o.pos o.v false o.h := by show ptX _ _ o.last _ = _; rw [hol]
        rw [eo] at co hoc hfo
        by_cases hgt : (p.fin : Int) < (o.fin : Int)
        · rw [hyes (by rw [hbd, hpl, hol, decide_eq_true hgt]; rfl)]
          repeat' (first
           | refine WPl.nil ?_ | refine WPq.then ?_ | refine WPq.thenR ?_ | refine WPq.blockR ?_ | refine WPc.seq ?_ | refine WPc.block ?_ | refine WPc.ret ?_ | refine WPc.skip ?_ | refine WPc.region ?_
           | (refine isReg 10 ?_; refine WPc.drA [([], []), ([0], [39]), ([0, 1], [39, 40]), ([0, 1, 2], [39, 40, 41]), ([0, 1, 2, 3], [39, 40, 41, 42]), ([0, 1, 2, 3, 4], [39, 40, 41, 42, 43]), ([0, 1, 2, 3, 4, 5], [39, 40, 41, 42, 43, 44, 47]), ([0, 1, 2, 3, 4, 5, 6], [39, 40, 41, 42, 43, 44, 45, 47]), ([0, 1, 2, 3, 4, 5], [39, 40, 41, 42, 43, 44, 45, 46]), ([0, 1, 2, 3, 4, 5, 6, 7, 8], [39, 40, 41, 42, 43, 44, 45, 46, 47]), ([0, 1, 2, 3, 4, 5, 6, 7, 8, 9], [39, 40, 41, 42, 43, 44, 45, 46, 47, 48]), ([0, 1, 2, 3, 4, 5, 6, 7, 8, 9, 10], [39, 40, 41, 42, 43, 44, 45, 46, 47, 48, 49]), ([0, 1, 2, 3, 4, 5, 6, 7, 8, 9, 10, 11], [39, 40, 41, 42, 43, 44, 45, 46, 47, 48, 49, 50]), ([0, 1, 2, 3, 4, 5, 6, 7, 8, 9, 10, 11, 12], [39, 40, 41, 42, 43, 44, 45, 46, 47, 48, 49, 50, 51]), ([0, 1, 2, 3, 4, 5, 6, 7, 8, 9, 10, 11, 12, 13], [39, 40, 41, 42, 43, 44, 45, 46, 47, 48, 49, 50, 51, 52]), ([0, 1, 2, 3, 4, 5, 6, 7, 8, 9, 10, 11, 12, 13, 14], [39, 40, 41, 42, 43, 44, 45, 46, 47, 48, 49, 50, 51, 52, 53]), ([0, 1, 2, 3, 4, 5, 6, 7, 8, 9, 10, 11, 12, 13, 14, 15], [39, 40, 41, 42, 43, 44, 45, 46, 47, 48, 49, 50, 51, 52, 53, 54]), ([0, 1, 2, 3, 4, 5, 6, 7, 8, 9, 10, 11, 12, 13, 14, 15, 16], [39, 40, 41, 42, 43, 44, 45, 46, 47, 48, 49, 50, 51, 52, 53, 54, 55, 58]), ([0, 1, 2, 3, 4, 5, 6, 7, 8, 9, 10, 11, 12, 13, 14, 15, 16, 17], [39, 40, 41, 42, 43, 44, 45, 46, 47, 48, 49, 50, 51, 52, 53, 54, 55, 56, 58]), ([0, 1, 2, 3, 4, 5, 6, 7, 8, 9, 10, 11, 12, 13, 14, 15, 16], [39, 40, 41, 42, 43, 44, 45, 46, 47, 48, 49, 50, 51, 52, 53, 54, 55, 56, 57]), ([0, 1, 2, 3, 4, 5, 6, 7, 8, 9, 10, 11, 12, 13, 14, 15, 16, 17, 18, 19], [39, 40, 41, 42, 43, 44, 45, 46, 47, 48, 49, 50, 51, 52, 53, 54, 55, 56, 57, 58]), ([0, 1, 2, 3, 4, 5, 6, 7, 8, 9, 10, 11, 12, 13, 14, 15, 16, 17, 18, 19, 20], [39, 40, 41, 42, 43, 44, 45, 46, 47, 48, 49, 50, 51, 52, 53, 54, 55, 56, 57, 58, 59]), ([0, 1, 2, 3, 4, 5, 6, 7, 8, 9, 10, 11, 12, 13, 14, 15, 16, 17, 18, 19, 20, 21], [39, 40, 41, 42, 43, 44, 45, 46, 47, 48, 49, 50, 51, 52, 53, 54, 55, 56, 57, 58, 59, 60]), ([0, 1, 2, 3, 4, 5, 6, 7, 8, 9, 10, 11, 12, 13, 14, 15, 16, 17, 18, 19, 20, 21, 22], [39, 40, 41, 42, 43, 44, 45, 46, 47, 48, 49, 50, 51, 52, 53, 54, 55, 56, 57, 58, 59, 60, 61])] [] (Γx := []) ?_; dsimp only [prev0, List.length_nil, List.length_cons])
           | (refine gAny ?_; first | (refine gGd ?_; refine RGl.skp ?_) | (refine gC 46 ?_; refine RGl.vl (fun e hk => OpT.callN (co)) ?_) | (refine gC 48 ?_; refine RGl.vl (fun e hk => OpT.callN (cp)) ?_) | (refine gD 49 ?_; refine RGl.rdX (fun e hk => by (try dsimp only [bndR, ensR, oksR, fcutR, List.append_nil, List.nil_append, List.cons_append, List.append_assoc] at hk ⊢); exact ReadR.binE rfl rfl BinR.gtr (congrArg Value.bool (decide_eq_true hgt))) ?_) | (refine gOp ?_; first | refine RGl.rdA ?_ | refine RGl.rdX (fun e hk => by (try dsimp only [bndR, ensR, oksR, fcutR, List.append_nil, List.nil_append, List.cons_append, List.append_assoc] at hk ⊢); exact readB) ?_) | (refine RGl.fin (fun e hk => ?_); (try dsimp only [bndA, ensAR, oksA, List.append_nil, List.nil_append, List.cons_append, List.append_assoc] at hk ⊢); (repeat (obtain ⟨hk1, hk⟩ := hk))) | fail)
           | (refine isCond ?_; first | refine WPc.cT ?_ | refine WPc.cF ?_ | (refine WPc.cQ (fun hc => ?_) (fun hc => ?_) <;> try first | exact prA | (exfalso; first | omega)))
           | (refine isD 36 ?_; refine WPl.rdX (ReadR.binE rfl rfl BinR.lss (congrArg Value.bool (decide_eq_true hlt'))) ?_)
           | (refine isD 37 ?_; refine WPl.rdX (ReadR.indexE (i := k) rfl rfl hasA hlt) ?_)
           | (refine isD 38 ?_; refine WPl.rdX (ReadR.loadES (cs := ptX o.pos o.v false o.h) hoc (by omega) rfl hasA) ?_)
           | (refine isD 8 ?_; first | (refine isAl ?_; refine WPl.nw fun g8 => ?_) | (refine isBx ?_; refine WPl.nw fun g8 => ?_))
           | (show WPl _ _ _ _ _ _ _ (⟨_, .store _ (.tmp 8) _, _, _, _, _⟩ :: _) _; refine WPl.stA (new := ptX o.pos o.v false o.h) ?_ (hn := hfo))
           | (refine isOp ?_; first | refine WPl.rd ?_ | refine WPl.sk ?_ | refine WPl.rdB ?_)
           | fail)
          exact WPq.dV
        · skip
          repeat' (first
           | refine WPl.nil ?_ | refine WPq.then ?_ | refine WPq.blockN ?_ | refine WPc.seq ?_ | refine WPc.block ?_ | refine WPc.skip ?_ | refine WPc.region ?_
           | (refine isReg 10 ?_; refine WPc.drA [([], []), ([0], [39]), ([0, 1], [39, 40]), ([0, 1, 2], [39, 40, 41]), ([0, 1, 2, 3], [39, 40, 41, 42]), ([0, 1, 2, 3, 4], [39, 40, 41, 42, 43]), ([0, 1, 2, 3, 4, 5], [39, 40, 41, 42, 43, 44, 47]), ([0, 1, 2, 3, 4, 5, 6], [39, 40, 41, 42, 43, 44, 45, 47]), ([0, 1, 2, 3, 4, 5], [39, 40, 41, 42, 43, 44, 45, 46]), ([0, 1, 2, 3, 4, 5, 6, 7, 8], [39, 40, 41, 42, 43, 44, 45, 46, 47]), ([0, 1, 2, 3, 4, 5, 6, 7, 8, 9], [39, 40, 41, 42, 43, 44, 45, 46, 47, 48]), ([0, 1, 2, 3, 4, 5, 6, 7, 8, 9, 10], [39, 40, 41, 42, 43, 44, 45, 46, 47, 48, 49]), ([0, 1, 2, 3, 4, 5, 6, 7, 8, 9, 10, 11], [39, 40, 41, 42, 43, 44, 45, 46, 47, 48, 49, 50]), ([0, 1, 2, 3, 4, 5, 6, 7, 8, 9, 10, 11, 12], [39, 40, 41, 42, 43, 44, 45, 46, 47, 48, 49, 50, 51]), ([0, 1, 2, 3, 4, 5, 6, 7, 8, 9, 10, 11, 12, 13], [39, 40, 41, 42, 43, 44, 45, 46, 47, 48, 49, 50, 51, 52]), ([0, 1, 2, 3, 4, 5, 6, 7, 8, 9, 10, 11, 12, 13, 14], [39, 40, 41, 42, 43, 44, 45, 46, 47, 48, 49, 50, 51, 52, 53]), ([0, 1, 2, 3, 4, 5, 6, 7, 8, 9, 10, 11, 12, 13, 14, 15], [39, 40, 41, 42, 43, 44, 45, 46, 47, 48, 49, 50, 51, 52, 53, 54]), ([0, 1, 2, 3, 4, 5, 6, 7, 8, 9, 10, 11, 12, 13, 14, 15, 16], [39, 40, 41, 42, 43, 44, 45, 46, 47, 48, 49, 50, 51, 52, 53, 54, 55, 58]), ([0, 1, 2, 3, 4, 5, 6, 7, 8, 9, 10, 11, 12, 13, 14, 15, 16, 17], [39, 40, 41, 42, 43, 44, 45, 46, 47, 48, 49, 50, 51, 52, 53, 54, 55, 56, 58]), ([0, 1, 2, 3, 4, 5, 6, 7, 8, 9, 10, 11, 12, 13, 14, 15, 16], [39, 40, 41, 42, 43, 44, 45, 46, 47, 48, 49, 50, 51, 52, 53, 54, 55, 56, 57]), ([0, 1, 2, 3, 4, 5, 6, 7, 8, 9, 10, 11, 12, 13, 14, 15, 16, 17, 18, 19], [39, 40, 41, 42, 43, 44, 45, 46, 47, 48, 49, 50, 51, 52, 53, 54, 55, 56, 57, 58]), ([0, 1, 2, 3, 4, 5, 6, 7, 8, 9, 10, 11, 12, 13, 14, 15, 16, 17, 18, 19, 20], [39, 40, 41, 42, 43, 44, 45, 46, 47, 48, 49, 50, 51, 52, 53, 54, 55, 56, 57, 58, 59]), ([0, 1, 2, 3, 4, 5, 6, 7, 8, 9, 10, 11, 12, 13, 14, 15, 16, 17, 18, 19, 20, 21], [39, 40, 41, 42, 43, 44, 45, 46, 47, 48, 49, 50, 51, 52, 53, 54, 55, 56, 57, 58, 59, 60]), ([0, 1, 2, 3, 4, 5, 6, 7, 8, 9, 10, 11, 12, 13, 14, 15, 16, 17, 18, 19, 20, 21, 22], [39, 40, 41, 42, 43, 44, 45, 46, 47, 48, 49, 50, 51, 52, 53, 54, 55, 56, 57, 58, 59, 60, 61])] [] (Γx := []) ?_; dsimp only [prev0, List.length_nil, List.length_cons])
           | (refine gAny ?_; first | (refine gGd ?_; refine RGl.skp ?_) | (refine gC 46 ?_; refine RGl.vl (fun e hk => OpT.callN (co)) ?_) | (refine gC 48 ?_; refine RGl.vl (fun e hk => OpT.callN (cp)) ?_) | (refine gD 49 ?_; refine RGl.rdX (fun e hk => by (try dsimp only [bndR, ensR, oksR, fcutR, List.append_nil, List.nil_append, List.cons_append, List.append_assoc] at hk ⊢); exact ReadR.binE rfl rfl BinR.gtr (congrArg Value.bool (decide_eq_false hgt))) ?_) | (refine gOp ?_; first | refine RGl.rdA ?_ | refine RGl.rdX (fun e hk => by (try dsimp only [bndR, ensR, oksR, fcutR, List.append_nil, List.nil_append, List.cons_append, List.append_assoc] at hk ⊢); exact readB) ?_) | (refine RGl.fin (fun e hk => ?_); (try dsimp only [bndA, ensAR, oksA, List.append_nil, List.nil_append, List.cons_append, List.append_assoc] at hk ⊢); (repeat (obtain ⟨hk1, hk⟩ := hk))) | fail)
           | (refine isCond ?_; first | refine WPc.cT ?_ | refine WPc.cF ?_ | (refine WPc.cQ (fun hc => ?_) (fun hc => ?_) <;> try first | exact prA | (exfalso; first | omega)))
           | (refine isD 36 ?_; refine WPl.rdX (ReadR.binE rfl rfl BinR.lss (congrArg Value.bool (decide_eq_true hlt'))) ?_)
           | (refine isD 37 ?_; refine WPl.rdX (ReadR.indexE (i := k) rfl rfl hasA hlt) ?_)
           | (refine isD 38 ?_; refine WPl.rdX (ReadR.loadES (cs := ptX o.pos o.v false o.h) hoc (by omega) rfl hasA) ?_)
           | (refine isD 8 ?_; first | (refine isAl ?_; refine WPl.nw fun g8 => ?_) | (refine isBx ?_; refine WPl.nw fun g8 => ?_))
           | (show WPl _ _ _ _ _ _ _ (⟨_, .store _ (.tmp 8) _, _, _, _, _⟩ :: _) _; refine WPl.stA (new := ptX o.pos o.v false o.h) ?_ (hn := hfo))
           | (refine isOp ?_; first | refine WPl.rd ?_ | refine WPl.sk ?_ | refine WPl.rdB ?_)
           | fail)
          exact WPq.rnd (k + 1) (hnx (by rw [hbd, hpl, hol, decide_eq_false hgt]; rfl)) (by omega)
    | false =>
      have ep : ptC p = ptX p.pos p.v false p.h := by show ptX _ _ p.last _ = _; rw [hpl]
      rw [ep] at cp ⊢
      cases hol : o.last with
      | true =>
        have eo : ptC o = ptX o.pos o.v true o.h := by show ptX _ _ o.last _ = _; rw [hol]
        rw [eo] at co hoc hfo
        by_cases hgt : (o.fin : Int) < (p.fin : Int)
        · rw [hyes (by rw [hbd, hpl, hol, decide_eq_true hgt]; rfl)]
          repeat' (first
           | refine WPl.nil ?_ | refine WPq.then ?_ | refine WPq.thenR ?_ | refine WPq.blockR ?_ | refine WPc.seq ?_ | refine WPc.block ?_ | refine WPc.ret ?_ | refine WPc.skip ?_ | refine WPc.region ?_
           | (refine isReg 10 ?_; refine WPc.drA [([], []), ([0], [39]), ([0, 1], [39, 40]), ([0, 1, 2], [39, 40, 41]), ([0, 1, 2, 3], [39, 40, 41, 42]), ([0, 1, 2, 3, 4], [39, 40, 41, 42, 43]), ([0, 1, 2, 3, 4, 5], [39, 40, 41, 42, 43, 44, 47]), ([0, 1, 2, 3, 4, 5, 6], [39, 40, 41, 42, 43, 44, 45, 47]), ([0, 1, 2, 3, 4, 5], [39, 40, 41, 42, 43, 44, 45, 46]), ([0, 1, 2, 3, 4, 5, 6, 7, 8], [39, 40, 41, 42, 43, 44, 45, 46, 47]), ([0, 1, 2, 3, 4, 5, 6, 7, 8, 9], [39, 40, 41, 42, 43, 44, 45, 46, 47, 48]), ([0, 1, 2, 3, 4, 5, 6, 7, 8, 9, 10], [39, 40, 41, 42, 43, 44, 45, 46, 47, 48, 49]), ([0, 1, 2, 3, 4, 5, 6, 7, 8, 9, 10, 11], [39, 40, 41, 42, 43, 44, 45, 46, 47, 48, 49, 50]), ([0, 1, 2, 3, 4, 5, 6, 7, 8, 9, 10, 11, 12], [39, 40, 41, 42, 43, 44, 45, 46, 47, 48, 49, 50, 51]), ([0, 1, 2, 3, 4, 5, 6, 7, 8, 9, 10, 11, 12, 13], [39, 40, 41, 42, 43, 44, 45, 46, 47, 48, 49, 50, 51, 52]), ([0, 1, 2, 3, 4, 5, 6, 7, 8, 9, 10, 11, 12, 13, 14], [39, 40, 41, 42, 43, 44, 45, 46, 47, 48, 49, 50, 51, 52, 53]), ([0, 1, 2, 3, 4, 5, 6, 7, 8, 9, 10, 11, 12, 13, 14, 15], [39, 40, 41, 42, 43, 44, 45, 46, 47, 48, 49, 50, 51, 52, 53, 54]), ([0, 1, 2, 3, 4, 5, 6, 7, 8, 9, 10, 11, 12, 13, 14, 15, 16], [39, 40, 41, 42, 43, 44, 45, 46, 47, 48, 49, 50, 51, 52, 53, 54, 55, 58]), ([0, 1, 2, 3, 4, 5, 6, 7, 8, 9, 10, 11, 12, 13, 14, 15, 16, 17], [39, 40, 41, 42, 43, 44, 45, 46, 47, 48, 49, 50, 51, 52, 53, 54, 55, 56, 58]), ([0, 1, 2, 3, 4, 5, 6, 7, 8, 9, 10, 11, 12, 13, 14, 15, 16], [39, 40, 41, 42, 43, 44, 45, 46, 47, 48, 49, 50, 51, 52, 53, 54, 55, 56, 57]), ([0, 1, 2, 3, 4, 5, 6, 7, 8, 9, 10, 11, 12, 13, 14, 15, 16, 17, 18, 19], [39, 40, 41, 42, 43, 44, 45, 46, 47, 48, 49, 50, 51, 52, 53, 54, 55, 56, 57, 58]), ([0, 1, 2, 3, 4, 5, 6, 7, 8, 9, 10, 11, 12, 13, 14, 15, 16, 17, 18, 19, 20], [39, 40, 41, 42, 43, 44, 45, 46, 47, 48, 49, 50, 51, 52, 53, 54, 55, 56, 57, 58, 59]), ([0, 1, 2, 3, 4, 5, 6, 7, 8, 9, 10, 11, 12, 13, 14, 15, 16, 17, 18, 19, 20, 21], [39, 40, 41, 42, 43, 44, 45, 46, 47, 48, 49, 50, 51, 52, 53, 54, 55, 56, 57, 58, 59, 60]), ([0, 1, 2, 3, 4, 5, 6, 7, 8, 9, 10, 11, 12, 13, 14, 15, 16, 17, 18, 19, 20, 21, 22], [39, 40, 41, 42, 43, 44, 45, 46, 47, 48, 49, 50, 51, 52, 53, 54, 55, 56, 57, 58, 59, 60, 61])] [] (Γx := []) ?_; dsimp only [prev0, List.length_nil, List.length_cons])
           | (refine gAny ?_; first | (refine gGd ?_; refine RGl.skp ?_) | (refine gC 57 ?_; refine RGl.vl (fun e hk => OpT.callN (cp)) ?_) | (refine gC 59 ?_; refine RGl.vl (fun e hk => OpT.callN (co)) ?_) | (refine gD 60 ?_; refine RGl.rdX (fun e hk => by (try dsimp only [bndR, ensR, oksR, fcutR, List.append_nil, List.nil_append, List.cons_append, List.append_assoc] at hk ⊢); exact ReadR.binE rfl rfl BinR.gtr (congrArg Value.bool (decide_eq_true hgt))) ?_) | (refine gOp ?_; first | refine RGl.rdA ?_ | refine RGl.rdX (fun e hk => by (try dsimp only [bndR, ensR, oksR, fcutR, List.append_nil, List.nil_append, List.cons_append, List.append_assoc] at hk ⊢); exact readB) ?_) | (refine RGl.fin (fun e hk => ?_); (try dsimp only [bndA, ensAR, oksA, List.append_nil, List.nil_append, List.cons_append, List.append_assoc] at hk ⊢); (repeat (obtain ⟨hk1, hk⟩ := hk))) | fail)
           | (refine isCond ?_; first | refine WPc.cT ?_ | refine WPc.cF ?_ | (refine WPc.cQ (fun hc => ?_) (fun hc => ?_) <;> try first | exact prA | (exfalso; first | omega)))
           | (refine isD 36 ?_; refine WPl.rdX (ReadR.binE rfl rfl BinR.lss (congrArg Value.bool (decide_eq_true hlt'))) ?_)
           | (refine isD 37 ?_; refine WPl.rdX (ReadR.indexE (i := k) rfl rfl hasA hlt) ?_)
           | (refine isD 38 ?_; refine WPl.rdX (ReadR.loadES (cs := ptX o.pos o.v true o.h) hoc (by omega) rfl hasA) ?_)
           | (refine isD 8 ?_; first | (refine isAl ?_; refine WPl.nw fun g8 => ?_) | (refine isBx ?_; refine WPl.nw fun g8 => ?_))
           | (show WPl _ _ _ _ _ _ _ (⟨_, .store _ (.tmp 8) _, _, _, _, _⟩ :: _) _; refine WPl.stA (new := ptX o.pos o.v true o.h) ?_ (hn := hfo))
           | (refine isOp ?_; first | refine WPl.rd ?_ | refine WPl.sk ?_ | refine WPl.rdB ?_)
           | fail)
          exact WPq.dV
        · skip
          repeat' (first
           | refine WPl.nil ?_ | refine WPq.then ?_ | refine WPq.blockN ?_ | refine WPc.seq ?_ | refine WPc.block ?_ | refine WPc.skip ?_ | refine WPc.region ?_
           | (refine isReg 10 ?_; refine WPc.drA [([], []), ([0], [39]), ([0, 1], [39, 40]), ([0, 1, 2], [39, 40, 41]), ([0, 1, 2, 3], [39, 40, 41, 42]), ([0, 1, 2, 3, 4], [39, 40, 41, 42, 43]), ([0, 1, 2, 3, 4, 5], [39, 40, 41, 42, 43, 44, 47]), ([0, 1, 2, 3, 4, 5, 6], [39, 40, 41, 42, 43, 44, 45, 47]), ([0, 1, 2, 3, 4, 5], [39, 40, 41, 42, 43, 44, 45, 46]), ([0, 1, 2, 3, 4, 5, 6, 7, 8], [39, 40, 41, 42, 43, 44, 45, 46, 47]), ([0, 1, 2, 3, 4, 5, 6, 7, 8, 9], [39, 40, 41, 42, 43, 44, 45, 46, 47, 48]), ([0, 1, 2, 3, 4, 5, 6, 7, 8, 9, 10], [39, 40, 41, 42, 43, 44, 45, 46, 47, 48, 49]), ([0, 1, 2, 3, 4, 5, 6, 7, 8, 9, 10, 11], [39, 40, 41, 42, 43, 44, 45, 46, 47, 48, 49, 50]), ([0, 1, 2, 3, 4, 5, 6, 7, 8, 9, 10, 11, 12], [39, 40, 41, 42, 43, 44, 45, 46, 47, 48, 49, 50, 51]), ([0, 1, 2, 3, 4, 5, 6, 7, 8, 9, 10, 11, 12, 13], [39, 40, 41, 42, 43, 44, 45, 46, 47, 48, 49, 50, 51, 52]), ([0, 1, 2, 3, 4, 5, 6, 7, 8, 9, 10, 11, 12, 13, 14], [39, 40, 41, 42, 43, 44, 45, 46, 47, 48, 49, 50, 51, 52, 53]), ([0, 1, 2, 3, 4, 5, 6, 7, 8, 9, 10, 11, 12, 13, 14, 15], [39, 40, 41, 42, 43, 44, 45, 46, 47, 48, 49, 50, 51, 52, 53, 54]), ([0, 1, 2, 3, 4, 5, 6, 7, 8, 9, 10, 11, 12, 13, 14, 15, 16], [39, 40, 41, 42, 43, 44, 45, 46, 47, 48, 49, 50, 51, 52, 53, 54, 55, 58]), ([0, 1, 2, 3, 4, 5, 6, 7, 8, 9, 10, 11, 12, 13, 14, 15, 16, 17], [39, 40, 41, 42, 43, 44, 45, 46, 47, 48, 49, 50, 51, 52, 53, 54, 55, 56, 58]), ([0, 1, 2, 3, 4, 5, 6, 7, 8, 9, 10, 11, 12, 13, 14, 15, 16], [39, 40, 41, 42, 43, 44, 45, 46, 47, 48, 49, 50, 51, 52, 53, 54, 55, 56, 57]), ([0, 1, 2, 3, 4, 5, 6, 7, 8, 9, 10, 11, 12, 13, 14, 15, 16, 17, 18, 19], [39, 40, 41, 42, 43, 44, 45, 46, 47, 48, 49, 50, 51, 52, 53, 54, 55, 56, 57, 58]), ([0, 1, 2, 3, 4, 5, 6, 7, 8, 9, 10, 11, 12, 13, 14, 15, 16, 17, 18, 19, 20], [39, 40, 41, 42, 43, 44, 45, 46, 47, 48, 49, 50, 51, 52, 53, 54, 55, 56, 57, 58, 59]), ([0, 1, 2, 3, 4, 5, 6, 7, 8, 9, 10, 11, 12, 13, 14, 15, 16, 17, 18, 19, 20, 21], [39, 40, 41, 42, 43, 44, 45, 46, 47, 48, 49, 50, 51, 52, 53, 54, 55, 56, 57, 58, 59, 60]), ([0, 1, 2, 3, 4, 5, 6, 7, 8, 9, 10, 11, 12, 13, 14, 15, 16, 17, 18, 19, 20, 21, 22], [39, 40, 41, 42, 43, 44, 45, 46, 47, 48, 49, 50, 51, 52, 53, 54, 55, 56, 57, 58, 59, 60, 61])] [] (Γx := []) ?_; dsimp only [prev0, List.length_nil, List.length_cons])
           | (refine gAny ?_; first | (refine gGd ?_; refine RGl.skp ?_) | (refine gC 57 ?_; refine RGl.vl (fun e hk => OpT.callN (cp)) ?_) | (refine gC 59 ?_; refine RGl.vl (fun e hk => OpT.callN (co)) ?_) | (refine gD 60 ?_; refine RGl.rdX (fun e hk => by (try dsimp only [bndR, ensR, oksR, fcutR, List.append_nil, List.nil_append, List.cons_append, List.append_assoc] at hk ⊢); exact ReadR.binE rfl rfl BinR.gtr (congrArg Value.bool (decide_eq_false hgt))) ?_) | (refine gOp ?_; first | refine RGl.rdA ?_ | refine RGl.rdX (fun e hk => by (try dsimp only [bndR, ensR, oksR, fcutR, List.append_nil, List.nil_append, List.cons_append, List.append_assoc] at hk ⊢); exact readB) ?_) | (refine RGl.fin (fun e hk => ?_); (try dsimp only [bndA, ensAR, oksA, List.append_nil, List.nil_append, List.cons_append, List.append_assoc] at hk ⊢); (repeat (obtain ⟨hk1, hk⟩ := hk))) | fail)
           | (refine isCond ?_; first | refine WPc.cT ?_ | refine WPc.cF ?_ | (refine WPc.cQ (fun hc => ?_) (fun hc => ?_) <;> try first | exact prA | (exfalso; first | omega)))
           | (refine isD 36 ?_; refine WPl.rdX (ReadR.binE rfl rfl BinR.lss (congrArg Value.bool (decide_eq_true hlt'))) ?_)
           | (refine isD 37 ?_; refine WPl.rdX (ReadR.indexE (i := k) rfl rfl hasA hlt) ?_)
           | (refine isD 38 ?_; refine WPl.rdX (ReadR.loadES (cs := ptX o.pos o.v true o.h) hoc (by omega) rfl hasA) ?_)
           | (refine isD 8 ?_; first | (refine isAl ?_; refine WPl.nw fun g8 => ?_) | (refine isBx ?_; refine WPl.nw fun g8 => ?_))
           | (show WPl _ _ _ _ _ _ _ (⟨_, .store _ (.tmp 8) _, _, _, _, _⟩ :: _) _; refine WPl.stA (new := ptX o.pos o.v true o.h) ?_ (hn := hfo))
           | (refine isOp ?_; first | refine WPl.rd ?_ | refine WPl.sk ?_ | refine WPl.rdB ?_)
           | fail)
          exact WPq.rnd (k + 1) (hnx (by rw [hbd, hpl, hol, decide_eq_false hgt]; rfl)) (by omega)
      | false =>
        have eo : ptC o = ptX o.pos o.v false o.h := by show ptX _ _ o.last _ = _; rw [hol]
        rw [eo] at co hoc hfo
        repeat' (first
         | refine WPl.nil ?_ | refine WPq.then ?_ | refine WPq.blockN ?_ | refine WPc.seq ?_ | refine WPc.block ?_ | refine WPc.skip ?_ | refine WPc.region ?_
         | (refine isReg 10 ?_; refine WPc.drA [([], []), ([0], [39]), ([0, 1], [39, 40]), ([0, 1, 2], [39, 40, 41]), ([0, 1, 2, 3], [39, 40, 41, 42]), ([0, 1, 2, 3, 4], [39, 40, 41, 42, 43]), ([0, 1, 2, 3, 4, 5], [39, 40, 41, 42, 43, 44, 47]), ([0, 1, 2, 3, 4, 5, 6], [39, 40, 41, 42, 43, 44, 45, 47]), ([0, 1, 2, 3, 4, 5], [39, 40, 41, 42, 43, 44, 45, 46]), ([0, 1, 2, 3, 4, 5, 6, 7, 8], [39, 40, 41, 42, 43, 44, 45, 46, 47]), ([0, 1, 2, 3, 4, 5, 6, 7, 8, 9], [39, 40, 41, 42, 43, 44, 45, 46, 47, 48]), ([0, 1, 2, 3, 4, 5, 6, 7, 8, 9, 10], [39, 40, 41, 42, 43, 44, 45, 46, 47, 48, 49]), ([0, 1, 2, 3, 4, 5, 6, 7, 8, 9, 10, 11], [39, 40, 41, 42, 43, 44, 45, 46, 47, 48, 49, 50]), ([0, 1, 2, 3, 4, 5, 6, 7, 8, 9, 10, 11, 12], [39, 40, 41, 42, 43, 44, 45, 46, 47, 48, 49, 50, 51]), ([0, 1, 2, 3, 4, 5, 6, 7, 8, 9, 10, 11, 12, 13], [39, 40, 41, 42, 43, 44, 45, 46, 47, 48, 49, 50, 51, 52]), ([0, 1, 2, 3, 4, 5, 6, 7, 8, 9, 10, 11, 12, 13, 14], [39, 40, 41, 42, 43, 44, 45, 46, 47, 48, 49, 50, 51, 52, 53]), ([0, 1, 2, 3, 4, 5, 6, 7, 8, 9, 10, 11, 12, 13, 14, 15], [39, 40, 41, 42, 43, 44, 45, 46, 47, 48, 49, 50, 51, 52, 53, 54]), ([0, 1, 2, 3, 4, 5, 6, 7, 8, 9, 10, 11, 12, 13, 14, 15, 16], [39, 40, 41, 42, 43, 44, 45, 46, 47, 48, 49, 50, 51, 52, 53, 54, 55, 58]), ([0, 1, 2, 3, 4, 5, 6, 7, 8, 9, 10, 11, 12, 13, 14, 15, 16, 17], [39, 40, 41, 42, 43, 44, 45, 46, 47, 48, 49, 50, 51, 52, 53, 54, 55, 56, 58]), ([0, 1, 2, 3, 4, 5, 6, 7, 8, 9, 10, 11, 12, 13, 14, 15, 16], [39, 40, 41, 42, 43, 44, 45, 46, 47, 48, 49, 50, 51, 52, 53, 54, 55, 56, 57]), ([0, 1, 2, 3, 4, 5, 6, 7, 8, 9, 10, 11, 12, 13, 14, 15, 16, 17, 18, 19], [39, 40, 41, 42, 43, 44, 45, 46, 47, 48, 49, 50, 51, 52, 53, 54, 55, 56, 57, 58]), ([0, 1, 2, 3, 4, 5, 6, 7, 8, 9, 10, 11, 12, 13, 14, 15, 16, 17, 18, 19, 20], [39, 40, 41, 42, 43, 44, 45, 46, 47, 48, 49, 50, 51, 52, 53, 54, 55, 56, 57, 58, 59]), ([0, 1, 2, 3, 4, 5, 6, 7, 8, 9, 10, 11, 12, 13, 14, 15, 16, 17, 18, 19, 20, 21], [39, 40, 41, 42, 43, 44, 45, 46, 47, 48, 49, 50, 51, 52, 53, 54, 55, 56, 57, 58, 59, 60]), ([0, 1, 2, 3, 4, 5, 6, 7, 8, 9, 10, 11, 12, 13, 14, 15, 16, 17, 18, 19, 20, 21, 22], [39, 40, 41, 42, 43, 44, 45, 46, 47, 48, 49, 50, 51, 52, 53, 54, 55, 56, 57, 58, 59, 60, 61])] [] (Γx := []) ?_; dsimp only [prev0, List.length_nil, List.length_cons])
         | (refine gAny ?_; first | (refine gGd ?_; refine RGl.skp ?_) | (refine gOp ?_; first | refine RGl.rdA ?_ | refine RGl.rdX (fun e hk => by (try dsimp only [bndR, ensR, oksR, fcutR, List.append_nil, List.nil_append, List.cons_append, List.append_assoc] at hk ⊢); exact readB) ?_) | (refine RGl.fin (fun e hk => ?_); (try dsimp only [bndA, ensAR, oksA, List.append_nil, List.nil_append, List.cons_append, List.append_assoc] at hk ⊢); (repeat (obtain ⟨hk1, hk⟩ := hk))) | fail)
         | (refine isCond ?_; first | refine WPc.cT ?_ | refine WPc.cF ?_ | (refine WPc.cQ (fun hc => ?_) (fun hc => ?_) <;> try first | exact prA | (exfalso; first | omega)))
         | (refine isD 36 ?_; refine WPl.rdX (ReadR.binE rfl rfl BinR.lss (congrArg Value.bool (decide_eq_true hlt'))) ?_)
         | (refine isD 37 ?_; refine WPl.rdX (ReadR.indexE (i := k) rfl rfl hasA hlt) ?_)
         | (refine isD 38 ?_; refine WPl.rdX (ReadR.loadES (cs := ptX o.pos o.v false o.h) hoc (by omega) rfl hasA) ?_)
         | (refine isD 8 ?_; first | (refine isAl ?_; refine WPl.nw fun g8 => ?_) | (refine isBx ?_; refine WPl.nw fun g8 => ?_))
         | (show WPl _ _ _ _ _ _ _ (⟨_, .store _ (.tmp 8) _, _, _, _, _⟩ :: _) _; refine WPl.stA (new := ptX o.pos o.v false o.h) ?_ (hn := hfo))
         | (refine isOp ?_; first | refine WPl.rd ?_ | refine WPl.sk ?_ | refine WPl.rdB ?_)
         | fail)
        exact WPq.rnd (k + 1) (hnx (by rw [hbd, hpl, hol]; rfl)) (by omega)
  have hlt' : ¬ (k : Int) < (x.ps.length : Int) := by omega
  have hno2 : x.ps.any (badB p) = false := any_no fun j o hj hq => hno j o (by omega) hq
  rw [show againstP x.ps p = 0 by unfold againstP; rw [if_neg (by rw [hno1]; decide), if_neg (by rw [hno2]; decide)]]
  repeat' (first
   | refine WPl.nil ?_ | refine WPq.then ?_ | refine WPq.thenE ?_ | refine WPq.blockE ?_ | refine WPc.seq ?_ | refine WPc.ret ?_ | refine WPc.exit ?_ | refine WPc.region ?_
   | (refine isCond ?_; first | refine WPc.cT ?_ | refine WPc.cF ?_ | (refine WPc.cQ (fun hc => ?_) (fun hc => ?_) <;> try first | exact prA | (exfalso; first | omega)))
   | (refine isD 36 ?_; refine WPl.rdX (ReadR.binE rfl rfl BinR.lss (congrArg Value.bool (decide_eq_false hlt'))) ?_)
   | (refine isOp ?_; first | refine WPl.rd ?_ | refine WPl.sk ?_ | refine WPl.rdB ?_)
   | fail)
  exact WPq.dV
end Go.Proofs.YtpilenbdimhegaaGreatDoor
/- Sorted by Go's library at structs: which of equals comes first is left open. -/
namespace Go.Proofs.YtpilenbdimhegaaGreatDoor
open Go.RowKit Go.Sort Go.Lib Go.Shelf
set_option linter.unusedSimpArgs false
set_option linter.unusedVariables false
section
variable {P : Program} {ρ : Ren} {α : Type} [Inhabited α]
theorem perm_of_in {d d' : Array α} (h : PermIn 0 d.size d d') : d'.toList.Perm d.toList := by
  obtain ⟨h1, _, h3⟩ := h
  have e1 : d'.extract 0 d.size = d' := by rw [← h1]; exact Array.extract_size
  have e2 : d.extract 0 d.size = d := Array.extract_size
  rw [e1, e2] at h3
  exact h3
theorem pair_of_in {lt : α → α → Bool} {d : Array α} (h : SortedIn lt 0 d.size d) : d.toList.Pairwise (fun a b => lt b a = false) := by
  rw [List.pairwise_iff_getElem]
  intro i j hi hj hij
  have hi' : i < d.size := by simpa using hi
  have hj' : j < d.size := by simpa using hj
  have := h i j (Nat.zero_le _) hij hj'
  rwa [getElem!_pos d i hi', getElem!_pos d j hj'] at this
def RSortP (T : TypeId) (k : Nat) (enc : α → List Value) (cf : α → α → Int) (v : Value) (l : List α) : Value → List Asn → Prop := fun r Γ => ∃ l' : List α, r = .tuple #[] ∧ Γ = [rowN T k v l'.length (l'.map enc).flatten] ∧ l'.Perm l ∧ l'.Pairwise (fun a b => ltOf cf b a = false)
theorem sortP_t (L : SlLaysF0.n6 P ρ) {k : Nat} (aE : ∀ w, (isAgg (ρ.t 24)).run P w = .ok true w) (zE : ∀ w, (Go.sizeOf (ρ.t 24)).run P w = .ok k w) (enc : α → List Value) (hk : ∀ x, (enc x).length = k) (h1 : ∀ x, ∀ v ∈ enc x, v.oneCell' = true) (cf : α → α → Int) (hO : SWO (ltOf cf))
    (g : FuncId) (hc : isCode P g = true) (hcl : ∀ x y, Triple P g #[.agg (enc x).toArray, .agg (enc y).toArray] [] (RVal (.int .i64 (cf x y)))) {T : TypeId} (v : Value) (l : List α) (hl : l.length < 4611686018427387904) :
    Triple P (ρ.f 6) #[v, .func (.func g) #[] #[]] [rowN T k v l.length (l.map enc).flatten] (RSortP T k enc cf v l) := by
  intro w hw ha
  have hrow := hw _ (List.mem_cons_self ..)
  have hlen : (l.map enc).flatten.length = l.length * k := flen hk l
  rcases hrow.2 with ⟨hv, h0⟩ | ⟨g0, cap, cur, hv, hB, hb, hnc, hcm, hcs, ht⟩
  · subst hv
    have : l = [] := List.eq_nil_of_length_eq_zero h0
    subst this
    refine (AnyF.slices_SortFunc_none { L with } none 0 _ w).mono ?_
    rintro e w' ⟨rfl, rfl⟩
    exact ⟨_, _, rfl, ⟨[], rfl, rfl, .refl _, .nil⟩, .one (Mod.refl _ _) hrow fun g hg => by cases hg⟩
  · subst hv
    have hblk : g0 < w.heap.size := (Array.getElem?_eq_some_iff.1 hb).1
    have hH : HoldsK enc k w g0 0 l.toArray := by
      unfold HoldsK
      rw [flatK_eq hk]
      exact row_holds (k := k) hb (by rw [hlen]; exact ht)
    have hcmp : CmpLays P g #[] enc k cf g0 0 l.toArray.size w := fun m os dk _ x y => by
      refine (hcl x y _ (fun A hA => by cases hA) .nil).mono ?_
      rintro e w' ⟨v, Γ', rfl, ⟨rfl, rfl⟩, hp⟩
      exact ⟨rfl, grown_of_mod (fun _ => not_own) hp.mod⟩
    have h := AnyQ.slices_SortFunc L k aE zE enc hk h1 cf hO g #[] g0 0 cap l.toArray w (fun args w => enters_isCode hc args w) hcmp hH hblk (by simpa using hl)
    refine Calls.mono (by simpa using h) ?_
    rintro e w' ⟨rfl, d', hp, hs, n, os, rfl⟩
    obtain ⟨l', rfl⟩ : ∃ l' : List α, d' = l'.toArray := ⟨d'.toList, by simp⟩
    have hp0 : PermIn 0 l.toArray.size l.toArray l'.toArray := by simpa using hp
    have hp' : l'.Perm l := by simpa using perm_of_in hp0
    have hsz : l'.toArray.size = l.length := by simpa using hp'.length_eq
    have hs' : l'.Pairwise (fun a b => ltOf cf b a = false) := by
      have := pair_of_in (lt := ltOf cf) (d := l'.toArray) (by rw [hsz]; exact hs)
      simpa using this
    have hll : l'.length = l.length := hp'.length_eq
    have hsl : (l'.map enc).flatten.length = l.length * k := by rw [flen hk, hll]
    have hfin := row_put (n := n) (os := os) (ys := (l'.map enc).flatten) hb hnc hcm hcs hsl (ownFp [rowN T k (.slice (some ⟨g0, 0, none⟩) l.length cap) l.length (l.map enc).flatten]) ⟨_, List.mem_singleton.2 rfl, rfl, rfl⟩
    unfold sortWorldK putRowK
    rw [flatK_eq hk]
    exact ⟨_, _, rfl, ⟨l', rfl, rfl, hp', hs'⟩, .one (by exact hfin.2) (by rw [hll]; exact hfin.1) fun g' hg' => .inr (by cases hg'; exact ⟨_, List.mem_singleton.2 rfl, rfl, rfl⟩)⟩
end
end Go.Proofs.YtpilenbdimhegaaGreatDoor
/- Layer 35 (parts): parts in order, and put together: contracts. -/
namespace Go.Proofs.YtpilenbdimhegaaGreatDoor
open Go.Lib (compareInt)
set_option linter.unusedVariables false
set_option linter.unusedSimpArgs false
instance : Inhabited Pt := ⟨⟨0, none, 0, [], false, Hd.none⟩⟩
def Pt.wf (p : Pt) : Int := IntKind.i64.wrap ((p.pos : Int) + (p.d.length : Int))
def ptCf : Pt → Pt → Int := lexC (fun x y => compareInt (x.pos : Int) (y.pos : Int)) (fun x y => compareInt x.wf y.wf)
theorem ptCf_tc : TC ptCf := TC.lex (TC.int.pull fun p : Pt => (p.pos : Int)) (TC.int.pull Pt.wf)
def dataP (l : List Pt) : List UInt8 := (l.map (·.d)).flatten
theorem dataP_snoc {l : List Pt} {i : Nat} {p : Pt} (h : l[i]? = some p) : dataP (l.take (i + 1)) = dataP (l.take i) ++ p.d := by
  unfold dataP
  rw [List.take_add_one, h, List.map_append, List.flatten_append]
  simp
theorem dataP_len {l : List Pt} (h : ∀ p ∈ l, p.fin ≤ 100000) : (dataP l).length ≤ l.length * 100000 := by
  induction l with
  | nil => simp [dataP]
  | cons p l ih =>
    have h1 := h p (List.mem_cons_self ..)
    have hfin : p.fin = p.pos + p.d.length := rfl
    have := ih fun q hq => h q (List.mem_cons_of_mem _ hq)
    have e : dataP (p :: l) = p.d ++ dataP l := rfl
    rw [e, List.length_append, List.length_cons]
    omega
def okAt (l : List Pt) (i : Nat) : Bool := match l[i]? with | some p => decide ((p.pos : Int) = ((dataP (l.take i)).length : Int)) | none => true
def wholeB (l : List Pt) : Bool := (List.range l.length).all (okAt l) && l.any (·.last)
theorem whole_no {l : List Pt} {i : Nat} (h : i < l.length) (hb : okAt l i = false) : wholeB l = false := by
  unfold wholeB
  rw [show (List.range l.length).all (okAt l) = false from List.all_eq_false.2 ⟨i, List.mem_range.2 h, by rw [hb]; decide⟩]
  rfl
theorem whole_all {l : List Pt} (h : ∀ j, j < l.length → okAt l j = true) : wholeB l = l.any (·.last) := by
  unfold wholeB
  rw [show (List.range l.length).all (okAt l) = true from List.all_eq_true.2 fun j hj => h j (List.mem_range.1 hj)]
  rfl
theorem any_snoc {l : List Pt} {i : Nat} {p : Pt} (h : l[i]? = some p) : (l.take (i + 1)).any (·.last) = ((l.take i).any (·.last) || p.last) := by
  rw [List.take_add_one, h, List.any_append]
  simp
/-- The bytes of parts, only read. -/
def prd (l : List Pt) : Asn where
  own := false
  fp := fun g => ∃ p ∈ l, (rdN p.v p.d.length (u8s p.d)).fp g
  holds := fun w => ∀ p ∈ l, (rdN p.v p.d.length (u8s p.d)).holds w
  lt := fun w h g hg => by
    obtain ⟨r, hr, hg⟩ := hg
    exact (rdN r.v r.d.length (u8s r.d)).lt w (h r hr) g hg
  loc := fun w w' h hl r hr => (rdN r.v r.d.length (u8s r.d)).loc w w' (h r hr) fun g hg => hl g ⟨r, hr, hg⟩
theorem HasS.prd {Γ : List Asn} {l : List Pt} {p : Pt} (h : Go.Proofs.YtpilenbdimhegaaGreatDoor.prd l ∈ Γ) (hp : p ∈ l) : HasS Γ p.v p.d.length (u8s p.d) := fun w hw => hw _ h _ hp
open Go.RowKit
set_option linter.unusedSimpArgs false
set_option linter.unusedVariables false
set_option maxRecDepth 20000
set_option maxHeartbeats 4000000
attribute [local irreducible] WPc WPl WPq ReadR OpT BinR HasS bx rdN rowN Take Takes Prov Triple ResF BuildP Done ag Int.decLt Int.decLe Int.instDecidableEq
instance byteEltN : EltN Tryz.prog 5 1 := ⟨by kernel_rfl⟩
theorem pendW_t (p : Pt) : Triple Tryz.prog 134 #[ag (ptC p)] [] (RVal (.int .i64 p.wf)) := by
  have hv1 := p.v1
  have l1 := p.h.src.len
  have l2 := p.h.dst.len
  refine Triple.enter Tryz.func134 rfl Tryz.ntmps134 rfl (fun W => ?_)
  dsimp only [argsF, Nat.reduceAdd]
  repeat' (first
   | refine WPl.nil ?_ | refine WPq.then ?_ | refine WPq.thenR ?_ | refine WPq.thenE ?_ | refine WPq.blockN ?_ | refine WPq.blockR ?_ | refine WPq.blockE ?_ | refine WPq.blockO rfl ?_ | refine WPc.seq ?_ | refine WPc.block ?_ | refine WPc.ret ?_ | refine WPc.exit ?_ | refine WPc.skip ?_ | refine WPc.region ?_
   | (refine isCond ?_; first | refine WPc.cT ?_ | refine WPc.cF ?_ | (refine WPc.cQ (fun hc => ?_) (fun hc => ?_) <;> try exact prA))
   | (refine isD 1 ?_; first | (refine isAl ?_; refine WPl.nw fun g1 => ?_) | (refine isBx ?_; refine WPl.nw fun g1 => ?_))
   | (refine isD 7 ?_; refine WPl.rdX (ReadR.lenPt ⟨_, Tryz.underlying39⟩ rfl) ?_)
   | (refine isD 8 ?_; refine WPl.rdX (ReadR.binE rfl rfl BinR.addW rfl) ?_)
   | (refine isOp ?_; first | refine WPl.rd ?_ | refine WPl.sk ?_ | refine WPl.rdB ?_)
   | (refine isBx ?_; refine WPl.nw fun g => ?_)
   | (show WPl _ _ _ _ _ _ _ (⟨_, .indexAddr _ _ _, _, _, _, _⟩ :: _) _; refine WPl.rdX (ReadR.indexE rfl rfl hasA (by first | assumption | omega)) ?_)
   | (show WPl _ _ _ _ _ _ _ (⟨_, .fieldAddr _ _ _, _, _, _, _⟩ :: _) _; refine WPl.rdX (ReadR.fieldE rfl hasA (by first | assumption | omega)) ?_)
   | (show WPl _ _ _ _ _ _ _ (⟨_, .load _ _, _, _, _, _⟩ :: _) _; first | refine WPl.rdX (ReadR.loadE rfl hasA (by assumption)) ?_ | refine WPl.rdX (ReadR.loadES (by assumption) (by first | assumption | omega) rfl hasA) ?_)
   | (show WPl _ _ _ _ _ _ _ (⟨_, .slice _ _ _ _ _, _, _, _, _⟩ :: _) _; first | refine WPl.rdX (ReadR.sliceH rfl rfl hasA (by omega)) ?_ | refine WPl.rdX (ReadR.sliceL rfl rfl hasA (by omega)) ?_ | refine WPl.rdX (ReadR.sliceLH rfl rfl rfl hasA (by omega) (by omega)) ?_)
   | (refine WPl.spQ (fun hc => ?_) (fun hc => ?_) <;> try exact prA)
   | fail)
  exact WPq.dV
attribute [local irreducible] mp rmp rg rgo mput mget mfind mdel gbag jes pts Pt.v Pt.fin Pt.wf overB badB wholeB okAt dataP prd
theorem pwhole1_t (x y : Pt) : Triple Tryz.prog 162 #[ag (ptC x), ag (ptC y)] [] (RVal (.int .i64 (ptCf x y))) := by
  have hv1 := x.v1
  have l1 := x.h.src.len
  have l2 := x.h.dst.len
  have hv2 := y.v1
  have m1 := y.h.src.len
  have m2 := y.h.dst.len
  have cx := pendW_t x
  have cy := pendW_t y
  obtain ⟨a, ha⟩ : ∃ a, a = compareInt (x.pos : Int) (y.pos : Int) := ⟨_, rfl⟩
  obtain ⟨b, hb⟩ : ∃ b, b = compareInt x.wf y.wf := ⟨_, rfl⟩
  have c9 := cmpI_t (x.pos : Int) (y.pos : Int)
  have c14 := cmpI_t x.wf y.wf
  rw [← ha] at c9
  rw [← hb] at c14
  have hr : ptCf x y = if a ≠ 0 then a else b := by rw [ha, hb]; rfl
  rw [hr]
  refine Triple.enter Tryz.func162 rfl Tryz.ntmps162 rfl (fun W => ?_)
  dsimp only [argsF, Nat.reduceAdd]
  repeat' (first
   | refine WPl.nil ?_ | refine WPq.then ?_ | refine WPq.thenR ?_ | refine WPq.thenE ?_ | refine WPq.blockN ?_ | refine WPq.blockR ?_ | refine WPq.blockE ?_ | refine WPq.blockO rfl ?_ | refine WPc.seq ?_ | refine WPc.block ?_ | refine WPc.ret ?_ | refine WPc.exit ?_ | refine WPc.skip ?_ | refine WPc.region ?_
   | (refine isReg 1 ?_; refine WPc.drA [([], [7, 8, 10, 12]), ([0], [5, 7, 8, 10, 12]), ([], [5, 6, 10, 12]), ([2], [5, 6, 7, 10, 12]), ([0, 1, 2, 3], [5, 6, 7, 8, 10, 12]), ([], [5, 6, 7, 8, 9, 12]), ([0, 1, 2, 3, 4, 5], [5, 6, 7, 8, 9, 10, 12]), ([], [5, 6, 7, 8, 9, 10, 11]), ([0, 1, 2, 3, 4, 5, 6, 7], [5, 6, 7, 8, 9, 10, 11, 12]), ([0, 1, 2, 3, 4, 5, 6, 7, 8], [5, 6, 7, 8, 9, 10, 11, 12, 13]), ([0, 1, 2, 3, 4, 5, 6, 7, 8, 9], [5, 6, 7, 8, 9, 10, 11, 12, 13, 14]), ([0, 1, 2, 3, 4, 5, 6, 7, 8, 9, 10], [5, 6, 7, 8, 9, 10, 11, 12, 13, 14, 15]), ([0, 1, 2, 3, 4, 5, 6, 7, 8, 9, 10, 11], [5, 6, 7, 8, 9, 10, 11, 12, 13, 14, 15, 16])] [] (Γx := []) ?_; dsimp only [prev0, List.length_nil, List.length_cons])
   | (refine gAny ?_; first | (refine gC 9 ?_; refine RGl.vl (fun e hk => OpT.callN (c9)) ?_) | (refine gC 11 ?_; refine RGl.vl (fun e hk => OpT.callN (cx)) ?_) | (refine gC 13 ?_; refine RGl.vl (fun e hk => OpT.callN (cy)) ?_) | (refine gC 14 ?_; refine RGl.vl (fun e hk => OpT.callN (c14)) ?_) | (refine gC 16 ?_; refine RGl.vl (fun e hk => OpT.callN ((or2_t (e 10).1 a b))) ?_) | (refine gOp ?_; first | refine RGl.rdA ?_ | refine RGl.rdX (fun e hk => by (try dsimp only [bndR, ensR, oksR, fcutR, List.append_nil, List.nil_append, List.cons_append, List.append_assoc] at hk ⊢); exact readB) ?_) | (refine gLit ?_; refine RGl.litA ?_) | (refine RGl.fin (fun e hk => ?_); (try dsimp only [bndA, ensAR, oksA, List.append_nil, List.nil_append, List.cons_append, List.append_assoc] at hk ⊢); (repeat (obtain ⟨hk1, hk⟩ := hk))) | fail)
   | (refine isCond ?_; first | refine WPc.cT ?_ | refine WPc.cF ?_ | (refine WPc.cQ (fun hc => ?_) (fun hc => ?_) <;> try exact prA))
   | (refine isD 2 ?_; first | (refine isAl ?_; refine WPl.nw fun g2 => ?_) | (refine isBx ?_; refine WPl.nw fun g2 => ?_))
   | (refine isD 3 ?_; first | (refine isAl ?_; refine WPl.nw fun g3 => ?_) | (refine isBx ?_; refine WPl.nw fun g3 => ?_))
   | (refine isC 9 ?_; refine WPl.cV (c9) ?_)
   | (refine isC 11 ?_; refine WPl.cV (cx) ?_)
   | (refine isC 13 ?_; refine WPl.cV (cy) ?_)
   | (refine isC 14 ?_; refine WPl.cV (c14) ?_)
   | (refine isC 16 ?_; refine WPl.cV ((or2_t (e 10).1 a b)) ?_)
   | (refine isOp ?_; first | refine WPl.rd ?_ | refine WPl.sk ?_ | refine WPl.rdB ?_)
   | (refine isBx ?_; refine WPl.nw fun g => ?_)
   | (show WPl _ _ _ _ _ _ _ (⟨_, .indexAddr _ _ _, _, _, _, _⟩ :: _) _; refine WPl.rdX (ReadR.indexE rfl rfl hasA (by first | assumption | omega)) ?_)
   | (show WPl _ _ _ _ _ _ _ (⟨_, .fieldAddr _ _ _, _, _, _, _⟩ :: _) _; refine WPl.rdX (ReadR.fieldE rfl hasA (by first | assumption | omega)) ?_)
   | (show WPl _ _ _ _ _ _ _ (⟨_, .load _ _, _, _, _, _⟩ :: _) _; first | refine WPl.rdX (ReadR.loadE rfl hasA (by assumption)) ?_ | refine WPl.rdX (ReadR.loadES (by assumption) (by first | assumption | omega) rfl hasA) ?_)
   | (show WPl _ _ _ _ _ _ _ (⟨_, .slice _ _ _ _ _, _, _, _, _⟩ :: _) _; first | refine WPl.rdX (ReadR.sliceH rfl rfl hasA (by omega)) ?_ | refine WPl.rdX (ReadR.sliceL rfl rfl hasA (by omega)) ?_ | refine WPl.rdX (ReadR.sliceLH rfl rfl rfl hasA (by omega) (by omega)) ?_)
   | (refine WPl.spQ (fun hc => ?_) (fun hc => ?_) <;> try exact prA)
   | fail)
  exact WPq.dV
theorem sortPt_t (v : Value) (l : List Pt) (hl : l.length ≤ 100000) :
    Triple Tryz.prog 161 #[v, .func (.func 162) #[] #[]] [rowN 184 42 v l.length (pts l)] (RSortP 184 42 (fun p => flat (ptC p)) ptCf v l) := by
  with_unfolding_all exact sortP_t Tryz.sortF161 (fun w => TyI.run_isAgg (P := Tryz.prog) (T := 184) w) (fun w => TyI.run_sizeOf (P := Tryz.prog) (T := 184) w) (fun p => flat (ptC p)) ptC_len (fun p v hv => (ptC_ok p).one v hv) ptCf ptCf_tc.swo 162 (by kernel_rfl) (fun x y => by have h := pwhole1_t x y; unfold ag at h; exact h) v l (by omega)
end Go.Proofs.YtpilenbdimhegaaGreatDoor
/- Layer 35 (parts): parts put together: contracts. -/
namespace Go.Proofs.YtpilenbdimhegaaGreatDoor
set_option linter.unusedVariables false
def RWhole (x : PJ) : Value → List Asn → Prop := fun v Γ => ∃ (ps' : List Pt) (vo : Value), ps'.Perm x.ps ∧ ps'.Pairwise (fun a b => ltOf ptCf b a = false) ∧ vo.oneCell' = true ∧ v = .tuple #[vo, .bool (wholeB ps')] ∧
  Γ = bx x.g 216 (pjC x) :: rowN 184 42 x.vP ps'.length (pts ps') :: (if wholeB ps' = true then [ob vo (dataP ps')] else [])
open Go.RowKit
set_option linter.unusedSimpArgs false
set_option linter.unusedVariables false
set_option maxRecDepth 20000
set_option maxHeartbeats 4000000
attribute [local irreducible] WPc WPl WPq ReadR OpT BinR HasS bx rdN rowN Take Takes Prov Triple ResF BuildP Done ag Int.decLt Int.decLe Int.instDecidableEq
attribute [local irreducible] mp rmp rg rgo mput mget mfind mdel gbag jes pts Pt.v Pt.fin Pt.wf overB badB wholeB okAt dataP prd
theorem pwhole_t (x : PJ) (hx2 : ∀ o ∈ x.ps, o.fin ≤ 100000) (hl : x.ps.length ≤ 10000) : Triple Tryz.prog 138 #[hJ x.g] ([prd x.ps] ++ [bx x.g 216 (pjC x), rowN 184 42 x.vP x.ps.length (pts x.ps)]) (RWhole x) := by
  have c12 := sortPt_t x.vP x.ps (by omega)
  have e0 : ∀ l : List Pt, rowN 5 1 (.slice none 0 0) 0 [] = rowN 5 1 (.slice none 0 0) (dataP (l.take 0)).length (u8s (dataP (l.take 0))) := fun l => by with_unfolding_all rfl
  show Triple _ _ _ [prd x.ps, bx x.g 216 (pjC x), rowN 184 42 x.vP x.ps.length (pts x.ps)] _
  refine Triple.enter Tryz.func138 rfl Tryz.ntmps138 rfl (fun W => ?_)
  dsimp only [argsF, Nat.reduceAdd]
  repeat' (first
   | refine WPl.nil ?_ | refine WPq.then ?_ | refine WPq.thenR ?_ | refine WPq.thenE ?_ | refine WPq.blockN ?_ | refine WPq.blockR ?_ | refine WPq.blockE ?_ | refine WPq.blockO rfl ?_ | refine WPc.seq ?_ | refine WPc.block ?_ | refine WPc.ret ?_ | refine WPc.exit ?_ | refine WPc.skip ?_ | refine WPc.region ?_
   | (refine isCond ?_; first | refine WPc.cT ?_ | refine WPc.cF ?_ | (refine WPc.cQ (fun hc => ?_) (fun hc => ?_) <;> try exact prA))
   | (refine isC 12 ?_; refine WPl.cXs (c12) fun v Γ1 hR => ?_; (obtain ⟨ps', rfl, rfl, hperm, hsort⟩ := hR); (try dsimp only [putF, List.cons_append, List.nil_append]))
   | (refine isOp ?_; first | refine WPl.rd ?_ | refine WPl.sk ?_ | refine WPl.rdB ?_)
   | (refine isAl ?_; refine WPl.nw fun g => ?_)
   | (refine isSt ?_; first | refine WPl.st1 ?_ | refine WPl.stA ?_ | refine WPl.stEB ?_ | refine WPl.stRB ?_)
   | (show WPl _ _ _ _ _ _ _ (⟨_, .indexAddr _ _ _, _, _, _, _⟩ :: _) _; refine WPl.rdX (ReadR.indexE rfl rfl hasA (by first | assumption | omega)) ?_)
   | (show WPl _ _ _ _ _ _ _ (⟨_, .fieldAddr _ _ _, _, _, _, _⟩ :: _) _; refine WPl.rdX (ReadR.fieldE rfl hasA (by first | assumption | omega)) ?_)
   | (show WPl _ _ _ _ _ _ _ (⟨_, .load _ _, _, _, _, _⟩ :: _) _; first | refine WPl.rdX (ReadR.loadE rfl hasA (by assumption)) ?_ | refine WPl.rdX (ReadR.loadES (by assumption) (by first | assumption | omega) rfl hasA) ?_)
   | (show WPl _ _ _ _ _ _ _ (⟨_, .slice _ _ _ _ _, _, _, _, _⟩ :: _) _; first | refine WPl.rdX (ReadR.sliceH rfl rfl hasA (by omega)) ?_ | refine WPl.rdX (ReadR.sliceL rfl rfl hasA (by omega)) ?_ | refine WPl.rdX (ReadR.sliceLH rfl rfl rfl hasA (by omega) (by omega)) ?_)
   | (refine WPl.spQ (fun hc => ?_) (fun hc => ?_) <;> try exact prA)
   | fail)
  have ep : (ps'.map fun p => flat (ptC p)).flatten = pts ps' := by with_unfolding_all rfl
  rw [ep]
  have hL := pts_len (l := ps')
  have hpl : ps'.length ≤ 10000 := by rw [hperm.length_eq]; exact hl
  refine WPc.nilRow 5 ?_
  rw [e0 ps']
  first | refine WPc.loop (σ := Nat × Value) (fun st => st.1 ≤ ps'.length ∧ st.2.oneCell' = true ∧ ∀ j, j < st.1 → okAt ps' j = true) (fun st => [prd x.ps, bx x.g 216 (pjC x), rowN 184 42 x.vP ps'.length (pts ps'), rowN 5 1 st.2 (dataP (ps'.take st.1)).length (u8s (dataP (ps'.take st.1)))]) (fun st => [(0, hJ x.g), (16, x.vP), (17, .int .i64 (ps'.length : Int)), (18, .int .i64 (st.1 : Int)), (4, st.2), (5, .bool ((ps'.take st.1).any (·.last)))]) (fun st => ps'.length - st.1) ((0, .slice none 0 0)) ?_ takesA frsA (fun st km hx hk => ?_)
  · exact ⟨Nat.zero_le _, rfl, fun j hj => absurd hj (Nat.not_lt_zero _)⟩
  obtain ⟨i, vo⟩ := st
  obtain ⟨hi, hvo, hok⟩ := hx
  dsimp only at hi hvo hok hk ⊢
  have hkm : km = ps'.length - i := hk
  clear hk
  have hdl : (dataP (ps'.take i)).length ≤ (ps'.take i).length * 100000 := dataP_len fun p hp => hx2 p (hperm.mem_iff.1 (List.mem_of_mem_take hp))
  rw [List.length_take] at hdl
  have hdl2 : (dataP (ps'.take i)).length ≤ 1000000000 := by
    have : min i ps'.length ≤ 10000 := by omega
    omega
  by_cases hlt : i < ps'.length
  · obtain ⟨p, hp⟩ : ∃ p, ps'[i]? = some p := ⟨_, List.getElem?_eq_getElem hlt⟩
    have hlt' : (i : Int) < (ps'.length : Int) := by omega
    have hpc := pts_at hp
    have hfp := ptC_ok p
    have hv1 := p.v1
    have l1 := p.h.src.len
    have l2 := p.h.dst.len
    have hpm : p ∈ x.ps := hperm.mem_iff.1 (List.mem_of_getElem? hp)
    have hpf := hx2 p hpm
    have hpd : p.d.length ≤ 100000 := by have : p.fin = p.pos + p.d.length := by with_unfolding_all rfl
                                         omega
    have hoki : okAt ps' i = decide ((p.pos : Int) = ((dataP (ps'.take i)).length : Int)) := by with_unfolding_all (unfold okAt; rw [hp])
    cases hb : okAt ps' i with
    | false =>
      have hne : ¬ (p.pos : Int) = ((dataP (ps'.take i)).length : Int) := of_decide_eq_false (hoki.symm.trans hb)
      have hw := whole_no hlt hb
      repeat' (first
       | refine WPl.nil ?_ | refine WPq.then ?_ | refine WPq.thenR ?_ | refine WPq.thenE ?_ | refine WPq.blockN ?_ | refine WPq.blockR ?_ | refine WPq.blockE ?_ | refine WPq.blockO rfl ?_ | refine WPc.seq ?_ | refine WPc.block ?_ | refine WPc.ret ?_ | refine WPc.exit ?_ | refine WPc.skip ?_ | refine WPc.region ?_
       | (refine isCond ?_; first | refine WPc.cT ?_ | refine WPc.cF ?_ | (refine WPc.cQ (fun hc => ?_) (fun hc => ?_) <;> try first | exact prA | (exfalso; first | omega)))
       | (refine isD 19 ?_; refine WPl.rdX (ReadR.binE rfl rfl BinR.lss (congrArg Value.bool (decide_eq_true hlt'))) ?_)
       | (refine isD 20 ?_; refine WPl.rdX (ReadR.indexE (i := i) rfl rfl hasA hlt) ?_)
       | (refine isD 21 ?_; refine WPl.rdX (ReadR.loadES (cs := ptC p) hpc (by omega) rfl hasA) ?_)
       | (refine isD 7 ?_; first | (refine isAl ?_; refine WPl.nw fun g7 => ?_) | (refine isBx ?_; refine WPl.nw fun g7 => ?_))
       | (show WPl _ _ _ _ _ _ _ (⟨_, .store _ (.tmp 7) _, _, _, _, _⟩ :: _) _; refine WPl.stA (new := ptC p) ?_ (hn := hfp))
       | (refine isD 26 ?_; refine WPl.rdX (ReadR.binE rfl rfl BinR.neq (congrArg (fun q => Value.bool (!q)) (decide_eq_false hne))) ?_)
       | (refine isOp ?_; first | refine WPl.rd ?_ | refine WPl.sk ?_ | refine WPl.rdB ?_)
       | (refine isAl ?_; refine WPl.nw fun g => ?_)
       | (refine isSt ?_; first | refine WPl.st1 ?_ | refine WPl.stA ?_ | refine WPl.stEB ?_ | refine WPl.stRB ?_)
       | (show WPl _ _ _ _ _ _ _ (⟨_, .indexAddr _ _ _, _, _, _, _⟩ :: _) _; refine WPl.rdX (ReadR.indexE rfl rfl hasA (by first | assumption | omega)) ?_)
       | (show WPl _ _ _ _ _ _ _ (⟨_, .fieldAddr _ _ _, _, _, _, _⟩ :: _) _; refine WPl.rdX (ReadR.fieldE rfl hasA (by first | assumption | omega)) ?_)
       | (show WPl _ _ _ _ _ _ _ (⟨_, .load _ _, _, _, _, _⟩ :: _) _; first | refine WPl.rdX (ReadR.loadE rfl hasA (by assumption)) ?_ | refine WPl.rdX (ReadR.loadES (by assumption) (by first | assumption | omega) rfl hasA) ?_)
       | (show WPl _ _ _ _ _ _ _ (⟨_, .slice _ _ _ _ _, _, _, _, _⟩ :: _) _; first | refine WPl.rdX (ReadR.sliceH rfl rfl hasA (by omega)) ?_ | refine WPl.rdX (ReadR.sliceL rfl rfl hasA (by omega)) ?_ | refine WPl.rdX (ReadR.sliceLH rfl rfl rfl hasA (by omega) (by omega)) ?_)
       | (refine WPl.spQ (fun hc => ?_) (fun hc => ?_) <;> try first | exact prA | (exfalso; first | omega))
       | fail)
      exact WPq.dX (vs := [.slice none 0 0, .bool false]) [bx x.g 216 (pjC x), rowN 184 42 x.vP ps'.length (pts ps')] ⟨ps', .slice none 0 0, hperm, hsort, rfl, by rw [hw]; rfl, by rw [hw]; rfl⟩
    | true =>
      have heq : (p.pos : Int) = ((dataP (ps'.take i)).length : Int) := of_decide_eq_true (hoki.symm.trans hb)
      have hsn := dataP_snoc hp
      have hap : ∀ v, rowN 5 1 v ((dataP (ps'.take i)).length + p.d.length) (u8s (dataP (ps'.take i)) ++ u8s p.d) = rowN 5 1 v (dataP (ps'.take (i + 1))).length (u8s (dataP (ps'.take (i + 1)))) := fun v => by rw [hsn, u8s_append, List.length_append]
      have hok2 : ∀ j, j < i + 1 → okAt ps' j = true := fun j hj => by
        by_cases e : j = i
        · rw [e]; exact hb
        · exact hok j (by omega)
      have hlas := any_snoc hp
      cases hla : (ps'.take i).any (·.last) with
      | true =>
        rw [hla] at hlas
        have hlas : (ps'.take (i + 1)).any (·.last) = true := hlas
        repeat' (first
         | refine WPl.nil ?_ | refine WPq.then ?_ | refine WPq.thenR ?_ | refine WPq.thenE ?_ | refine WPq.blockN ?_ | refine WPq.blockR ?_ | refine WPq.blockE ?_ | refine WPq.blockO rfl ?_ | refine WPc.seq ?_ | refine WPc.block ?_ | refine WPc.ret ?_ | refine WPc.exit ?_ | refine WPc.skip ?_ | refine WPc.region ?_
         | (refine isCond ?_; first | refine WPc.cT ?_ | refine WPc.cF ?_ | (refine WPc.cQ (fun hc => ?_) (fun hc => ?_) <;> try first | exact prA | (exfalso; first | omega)))
         | (refine isD 19 ?_; refine WPl.rdX (ReadR.binE rfl rfl BinR.lss (congrArg Value.bool (decide_eq_true hlt'))) ?_)
         | (refine isD 20 ?_; refine WPl.rdX (ReadR.indexE (i := i) rfl rfl hasA hlt) ?_)
         | (refine isD 21 ?_; refine WPl.rdX (ReadR.loadES (cs := ptC p) hpc (by omega) rfl hasA) ?_)
         | (refine isD 7 ?_; first | (refine isAl ?_; refine WPl.nw fun g7 => ?_) | (refine isBx ?_; refine WPl.nw fun g7 => ?_))
         | (show WPl _ _ _ _ _ _ _ (⟨_, .store _ (.tmp 7) _, _, _, _, _⟩ :: _) _; refine WPl.stA (new := ptC p) ?_ (hn := hfp))
         | (refine isD 26 ?_; refine WPl.rdX (ReadR.binE rfl rfl BinR.neq (congrArg (fun q => Value.bool (!q)) (decide_eq_true heq))) ?_)
         | (refine isD 30 ?_; refine WPl.appN (m := (dataP (ps'.take i)).length) (m2 := p.d.length) (xs := u8s (dataP (ps'.take i))) (ys := u8s p.d) (by rw [u8s_length, Nat.mul_one]) (fun q hq => by obtain ⟨z, _, rfl⟩ := List.mem_map.1 hq; rfl) (by omega) (fun v30 hv30 => ?_) (h2 := HasS.prd memA hpm); rw [hap])
         | (refine isOp ?_; first | refine WPl.rd ?_ | refine WPl.sk ?_ | refine WPl.rdB ?_)
         | (refine isAl ?_; refine WPl.nw fun g => ?_)
         | (refine isSt ?_; first | refine WPl.st1 ?_ | refine WPl.stA ?_ | refine WPl.stEB ?_ | refine WPl.stRB ?_)
         | (show WPl _ _ _ _ _ _ _ (⟨_, .indexAddr _ _ _, _, _, _, _⟩ :: _) _; refine WPl.rdX (ReadR.indexE rfl rfl hasA (by first | assumption | omega)) ?_)
         | (show WPl _ _ _ _ _ _ _ (⟨_, .fieldAddr _ _ _, _, _, _, _⟩ :: _) _; refine WPl.rdX (ReadR.fieldE rfl hasA (by first | assumption | omega)) ?_)
         | (show WPl _ _ _ _ _ _ _ (⟨_, .load _ _, _, _, _, _⟩ :: _) _; first | refine WPl.rdX (ReadR.loadE rfl hasA (by assumption)) ?_ | refine WPl.rdX (ReadR.loadES (by assumption) (by first | assumption | omega) rfl hasA) ?_)
         | (show WPl _ _ _ _ _ _ _ (⟨_, .slice _ _ _ _ _, _, _, _, _⟩ :: _) _; first | refine WPl.rdX (ReadR.sliceH rfl rfl hasA (by omega)) ?_ | refine WPl.rdX (ReadR.sliceL rfl rfl hasA (by omega)) ?_ | refine WPl.rdX (ReadR.sliceLH rfl rfl rfl hasA (by omega) (by omega)) ?_)
         | (refine WPl.spQ (fun hc => ?_) (fun hc => ?_) <;> try first | exact prA | (exfalso; first | omega))
         | fail)
        exact WPq.rnd (i + 1, v30) ⟨hlt, hv30, hok2⟩ (by dsimp only; omega) (hF := by rw [hlas]; exact frsA)
      | false =>
        rw [hla] at hlas
        have hlas : (ps'.take (i + 1)).any (·.last) = p.last := hlas
        repeat' (first
         | refine WPl.nil ?_ | refine WPq.then ?_ | refine WPq.thenR ?_ | refine WPq.thenE ?_ | refine WPq.blockN ?_ | refine WPq.blockR ?_ | refine WPq.blockE ?_ | refine WPq.blockO rfl ?_ | refine WPc.seq ?_ | refine WPc.block ?_ | refine WPc.ret ?_ | refine WPc.exit ?_ | refine WPc.skip ?_ | refine WPc.region ?_
         | (refine isCond ?_; first | refine WPc.cT ?_ | refine WPc.cF ?_ | (refine WPc.cQ (fun hc => ?_) (fun hc => ?_) <;> try first | exact prA | (exfalso; first | omega)))
         | (refine isD 19 ?_; refine WPl.rdX (ReadR.binE rfl rfl BinR.lss (congrArg Value.bool (decide_eq_true hlt'))) ?_)
         | (refine isD 20 ?_; refine WPl.rdX (ReadR.indexE (i := i) rfl rfl hasA hlt) ?_)
         | (refine isD 21 ?_; refine WPl.rdX (ReadR.loadES (cs := ptC p) hpc (by omega) rfl hasA) ?_)
         | (refine isD 7 ?_; first | (refine isAl ?_; refine WPl.nw fun g7 => ?_) | (refine isBx ?_; refine WPl.nw fun g7 => ?_))
         | (show WPl _ _ _ _ _ _ _ (⟨_, .store _ (.tmp 7) _, _, _, _, _⟩ :: _) _; refine WPl.stA (new := ptC p) ?_ (hn := hfp))
         | (refine isD 26 ?_; refine WPl.rdX (ReadR.binE rfl rfl BinR.neq (congrArg (fun q => Value.bool (!q)) (decide_eq_true heq))) ?_)
         | (refine isD 30 ?_; refine WPl.appN (m := (dataP (ps'.take i)).length) (m2 := p.d.length) (xs := u8s (dataP (ps'.take i))) (ys := u8s p.d) (by rw [u8s_length, Nat.mul_one]) (fun q hq => by obtain ⟨z, _, rfl⟩ := List.mem_map.1 hq; rfl) (by omega) (fun v30 hv30 => ?_) (h2 := HasS.prd memA hpm); rw [hap])
         | (refine isOp ?_; first | refine WPl.rd ?_ | refine WPl.sk ?_ | refine WPl.rdB ?_)
         | (refine isAl ?_; refine WPl.nw fun g => ?_)
         | (refine isSt ?_; first | refine WPl.st1 ?_ | refine WPl.stA ?_ | refine WPl.stEB ?_ | refine WPl.stRB ?_)
         | (show WPl _ _ _ _ _ _ _ (⟨_, .indexAddr _ _ _, _, _, _, _⟩ :: _) _; refine WPl.rdX (ReadR.indexE rfl rfl hasA (by first | assumption | omega)) ?_)
         | (show WPl _ _ _ _ _ _ _ (⟨_, .fieldAddr _ _ _, _, _, _, _⟩ :: _) _; refine WPl.rdX (ReadR.fieldE rfl hasA (by first | assumption | omega)) ?_)
         | (show WPl _ _ _ _ _ _ _ (⟨_, .load _ _, _, _, _, _⟩ :: _) _; first | refine WPl.rdX (ReadR.loadE rfl hasA (by assumption)) ?_ | refine WPl.rdX (ReadR.loadES (by assumption) (by first | assumption | omega) rfl hasA) ?_)
         | (show WPl _ _ _ _ _ _ _ (⟨_, .slice _ _ _ _ _, _, _, _, _⟩ :: _) _; first | refine WPl.rdX (ReadR.sliceH rfl rfl hasA (by omega)) ?_ | refine WPl.rdX (ReadR.sliceL rfl rfl hasA (by omega)) ?_ | refine WPl.rdX (ReadR.sliceLH rfl rfl rfl hasA (by omega) (by omega)) ?_)
         | (refine WPl.spQ (fun hc => ?_) (fun hc => ?_) <;> try first | exact prA | (exfalso; first | omega))
         | fail)
        exact WPq.rnd (i + 1, v30) ⟨hlt, hv30, hok2⟩ (by dsimp only; omega) (hF := by rw [hlas]; exact frsA)
  · have hil : ps'.take i = ps' := List.take_of_length_le (by omega)
    rw [hil]
    have hlt' : ¬ (i : Int) < (ps'.length : Int) := by omega
    have hw := whole_all fun j hj => hok j (by omega)
    rw [← hw]
    repeat' (first
     | refine WPl.nil ?_ | refine WPq.then ?_ | refine WPq.thenR ?_ | refine WPq.thenE ?_ | refine WPq.blockN ?_ | refine WPq.blockR ?_ | refine WPq.blockE ?_ | refine WPq.blockO rfl ?_ | refine WPc.seq ?_ | refine WPc.block ?_ | refine WPc.ret ?_ | refine WPc.exit ?_ | refine WPc.skip ?_ | refine WPc.region ?_
     | (refine isCond ?_; first | refine WPc.cT ?_ | refine WPc.cF ?_ | (refine WPc.cQ (fun hc => ?_) (fun hc => ?_) <;> try first | exact prA | (exfalso; first | omega)))
     | (refine isD 19 ?_; refine WPl.rdX (ReadR.binE rfl rfl BinR.lss (congrArg Value.bool (decide_eq_false hlt'))) ?_)
     | (refine isOp ?_; first | refine WPl.rd ?_ | refine WPl.sk ?_ | refine WPl.rdB ?_)
     | (refine isAl ?_; refine WPl.nw fun g => ?_)
     | (refine isSt ?_; first | refine WPl.st1 ?_ | refine WPl.stA ?_ | refine WPl.stEB ?_ | refine WPl.stRB ?_)
     | (show WPl _ _ _ _ _ _ _ (⟨_, .indexAddr _ _ _, _, _, _, _⟩ :: _) _; refine WPl.rdX (ReadR.indexE rfl rfl hasA (by first | assumption | omega)) ?_)
     | (show WPl _ _ _ _ _ _ _ (⟨_, .fieldAddr _ _ _, _, _, _, _⟩ :: _) _; refine WPl.rdX (ReadR.fieldE rfl hasA (by first | assumption | omega)) ?_)
     | (show WPl _ _ _ _ _ _ _ (⟨_, .load _ _, _, _, _, _⟩ :: _) _; first | refine WPl.rdX (ReadR.loadE rfl hasA (by assumption)) ?_ | refine WPl.rdX (ReadR.loadES (by assumption) (by first | assumption | omega) rfl hasA) ?_)
     | (show WPl _ _ _ _ _ _ _ (⟨_, .slice _ _ _ _ _, _, _, _, _⟩ :: _) _; first | refine WPl.rdX (ReadR.sliceH rfl rfl hasA (by omega)) ?_ | refine WPl.rdX (ReadR.sliceL rfl rfl hasA (by omega)) ?_ | refine WPl.rdX (ReadR.sliceLH rfl rfl rfl hasA (by omega) (by omega)) ?_)
     | (refine WPl.spQ (fun hc => ?_) (fun hc => ?_) <;> try first | exact prA | (exfalso; first | omega))
     | fail)
    cases hwb : wholeB ps' with
    | true => exact WPq.dX (vs := [vo, .bool true]) [bx x.g 216 (pjC x), rowN 184 42 x.vP ps'.length (pts ps'), ob vo (dataP ps')] ⟨ps', vo, hperm, hsort, hvo, by rw [hwb]; rfl, by rw [hwb]; rfl⟩
    | false => exact WPq.dX (vs := [vo, .bool false]) [bx x.g 216 (pjC x), rowN 184 42 x.vP ps'.length (pts ps')] ⟨ps', vo, hperm, hsort, hvo, by rw [hwb]; rfl, by rw [hwb]; rfl⟩
end Go.Proofs.YtpilenbdimhegaaGreatDoor
