/- Orders by which lists are sorted; bytes compared. -/
import Derived.Test.YtncgponcedkihaaSf
import Derived.Test.YtncgponcedkihaaAdr
import Derived.Lib.Bytealg
import Derived.Laws.Externs
namespace Go.Proofs.Ytncgponcedkihaa
open Go.RowKit Go.Sort Go.Lib
set_option linter.unusedSimpArgs false
set_option linter.unusedVariables false
/-- A comparison: total, and it leads on. -/
structure TC {α : Type} (f : α → α → Int) : Prop where
  flip : ∀ x y, f x y < 0 ↔ 0 < f y x
  trans : ∀ x y z, f x y ≤ 0 → f y z ≤ 0 → f x z ≤ 0
section
variable {α β : Type} {f g : α → α → Int}
theorem TC.swo (h : TC f) : SWO (ltOf f) where
  irrefl x := by
    have := h.flip x x
    simp only [ltOf, decide_eq_false_iff_not]; omega
  trans x y z h1 h2 := by
    simp only [ltOf, decide_eq_true_eq] at *
    have a1 := h.trans x y z (by omega) (by omega)
    rcases Int.lt_or_le (f x z) 0 with h3 | h3
    · exact h3
    · have f1 := h.flip y z
      have f2 := h.flip z x
      have f3 := h.flip x z
      have := h.trans z x y (by omega) (by omega)
      omega
  ntrans x y z h1 h2 := by
    simp only [ltOf, decide_eq_false_iff_not] at *
    have f1 := h.flip x y
    have f2 := h.flip y x
    have f3 := h.flip y z
    have f4 := h.flip z y
    have f5 := h.flip x z
    have f6 := h.flip z x
    have := h.trans z y x (by omega) (by omega)
    omega
theorem TC.zero (h : TC f) {x y : α} : f x y = 0 ↔ f y x = 0 := by
  have f1 := h.flip x y
  have f2 := h.flip y x
  omega
theorem TC.pull (h : TC f) (k : β → α) : TC (fun x y => f (k x) (k y)) := ⟨fun x y => h.flip _ _, fun x y z => h.trans _ _ _⟩
theorem TC.swap (h : TC f) : TC (fun x y => f y x) := ⟨fun x y => h.flip _ _, fun x y z h1 h2 => h.trans _ _ _ h2 h1⟩
def lexC (f g : α → α → Int) (x y : α) : Int := if f x y ≠ 0 then f x y else g x y
theorem TC.lex (h : TC f) (k : TC g) : TC (lexC f g) := by
  constructor
  · intro x y
    have a1 := h.flip x y
    have a2 := h.flip y x
    have b1 := k.flip x y
    unfold lexC
    split <;> split <;> omega
  · intro x y z
    have a1 := h.trans x y z
    have a2 := h.trans z x y
    have a3 := h.trans y z x
    have f1 := h.flip x y
    have f2 := h.flip y x
    have f3 := h.flip y z
    have f4 := h.flip z y
    have f5 := h.flip x z
    have f6 := h.flip z x
    have b1 := k.trans x y z
    unfold lexC
    split <;> split <;> split <;> omega
theorem TC.int : TC compareInt where
  flip x y := by unfold compareInt; repeat' split
                 all_goals omega
  trans x y z := by unfold compareInt; repeat' split
                    all_goals omega
theorem cb_refl : ∀ a : List UInt8, compareBytes a a = 0
  | [] => rfl
  | a :: l => by unfold compareBytes; simp [cb_refl l]
theorem cb_neg : ∀ a b : List UInt8, compareBytes a b = - compareBytes b a
  | [], [] => rfl
  | [], _ :: _ => by simp [compareBytes]
  | _ :: _, [] => by simp [compareBytes]
  | a :: l, b :: m => by
    unfold compareBytes
    have ih := cb_neg l m
    by_cases h1 : a < b
    · have h2 : ¬ b < a := fun h => by have := UInt8.lt_iff_toNat_lt.1 h1; have := UInt8.lt_iff_toNat_lt.1 h; omega
      simp [h1, h2]
    · by_cases h2 : b < a
      · simp [h1, h2]
      · simp [h1, h2, ih]
theorem u8_eq {a b : UInt8} (h1 : ¬ a < b) (h2 : ¬ b < a) : a = b := by
  apply UInt8.toNat_inj.1
  rw [UInt8.lt_iff_toNat_lt] at h1 h2
  omega
theorem cb_trans : ∀ a b c : List UInt8, compareBytes a b ≤ 0 → compareBytes b c ≤ 0 → compareBytes a c ≤ 0
  | [], _, [], _, _ => by simp [compareBytes]
  | [], _, _ :: _, _, _ => by simp [compareBytes]
  | _ :: _, [], _, h, _ => by simp [compareBytes] at h
  | _ :: _, _ :: _, [], _, h => by simp [compareBytes] at h
  | a :: l, b :: m, c :: n, h1, h2 => by
    have ih := cb_trans l m n
    rw [compareBytes.eq_4] at h1 h2 ⊢
    by_cases x1 : a < b
    · by_cases x2 : b < c
      · have : a < c := by rw [UInt8.lt_iff_toNat_lt] at *; omega
        simp [this]
      · by_cases x3 : c < b
        · simp [x2, x3] at h2
        · have := u8_eq x2 x3
          subst this
          simp [x1]
    · by_cases x4 : b < a
      · simp [x1, x4] at h1
      · have := u8_eq x1 x4
        subst this
        simp only [x1, if_false] at h1
        by_cases x2 : a < c
        · simp [x2]
        · by_cases x3 : c < a
          · simp [x2, x3] at h2
          · simp only [x2, x3, if_false] at h2 ⊢
            exact ih h1 h2
theorem cb_zero : ∀ a b : List UInt8, compareBytes a b = 0 → a = b
  | [], [], _ => rfl
  | [], _ :: _, h => by simp [compareBytes] at h
  | _ :: _, [], h => by simp [compareBytes] at h
  | a :: l, b :: m, h => by
    unfold compareBytes at h
    by_cases h1 : a < b
    · simp [h1] at h
    · by_cases h2 : b < a
      · simp [h1, h2] at h
      · simp only [h1, h2, if_false] at h
        rw [u8_eq h1 h2, cb_zero l m h]
theorem TC.bytes : TC compareBytes := ⟨fun x y => by have := cb_neg x y; omega, cb_trans⟩
def boolC (a b : Bool) : Int := if a = b then 0 else if b then -1 else 1
theorem TC.bool : TC boolC := ⟨by decide, by decide⟩
/-- Addresses. -/
def adrC : Adr → Adr → Int := lexC (fun a b => boolC a.six b.six) (fun a b => compareBytes a.b b.b)
theorem TC.adr : TC adrC := TC.lex (TC.bool.pull Adr.six) (TC.bytes.pull Adr.b)
theorem adr_zero {a b : Adr} (h : adrC a b = 0) : a = b := by
  unfold adrC lexC at h
  dsimp only at h
  by_cases h1 : a.six = b.six
  · have : boolC a.six b.six = 0 := by unfold boolC; rw [if_pos h1]
    rw [if_neg (by rw [this]; simp)] at h
    exact Adr.ext h1 (cb_zero _ _ h)
  · have : boolC a.six b.six ≠ 0 := by unfold boolC; rw [if_neg h1]; split <;> decide
    rw [if_pos this] at h
    exact absurd h this
def adrLt (a b : Adr) : Bool := if a.six ≠ b.six then b.six else decide (compareBytes a.b b.b < 0)
theorem adrLt_iff {a b : Adr} : adrLt a b = true ↔ adrC a b < 0 := by
  unfold adrLt adrC lexC
  obtain ⟨a1, a2, a3⟩ := a
  obtain ⟨b1, b2, b3⟩ := b
  cases a1 <;> cases b1 <;> simp [boolC]
end
section
variable {P : Program} {n : Nat} {Γ : List Asn} {F : List (Nat × Value)} {d : Option Tmp} {ty : TypeId} {pos : String} {af : Array Edge} {gd : Option (Nat × Bool)}
theorem run_loadBytes {P : Program} {w : World} : ∀ (l : List UInt8) (a : Addr) (acc : ByteArray), (∀ i u, (u8s l)[i]? = some u → w.cell? (a.add i) = some u) → (Extern.Bytes.loadBytes a l.length acc).run P w = .ok ⟨acc.data ++ l.toArray⟩ w
  | [], a, acc, _ => by simp [Extern.Bytes.loadBytes]
  | b :: l, a, acc, h => by
    have h0 := h 0 (.int .u8 ((b.toNat : Nat) : Int)) (by simp [u8s])
    have h1 : a.add 0 = a := by unfold Addr.add; simp
    rw [h1] at h0
    have ih := run_loadBytes (P := P) (w := w) l (a.add 1) (acc.push b) (fun i u hu => by
      have := h (i + 1) u (by simpa [u8s] using hu)
      rw [add_add, Nat.add_comm]; exact this)
    rw [List.length_cons, Extern.Bytes.loadBytes]
    have hb : (b.toNat : Int).toNat.toUInt8 = b := by simp
    simp only [load, Sem.run_bind, Sem.run, h0, Result.andThen, hb]
    refine Eq.trans ?_ (ih.trans ?_)
    · simp [hb]
    · congr 2
      show (acc.data.push b) ++ l.toArray = _
      simp
theorem run_bytesOf {P : Program} {w : World} {v : Value} {l : List UInt8} (h : Reads w v l.length (u8s l)) : (Extern.Bytes.bytesOf v).run P w = .ok ⟨l.toArray⟩ w := by
  rcases h with ⟨rfl, h0, h1⟩ | ⟨ad, cap, rfl, h1, h2, h3⟩
  · have : l = [] := List.eq_nil_of_length_eq_zero h0
    subst this
    rfl
  · show (Extern.Bytes.loadBytes ad l.length .empty).run P w = _
    rw [run_loadBytes l ad .empty h3]
    congr 2
    exact Array.empty_append
/-- bytealg.Compare. -/
theorem ReadR.bcmp {f : FuncId} {fn : Func} {x y : Operand} {ts : Array TypeId} {v1 v2 : Value} {a b : List UInt8} (hf : P.funcs[f]? = some fn) (hname : (fn.name == "runtime.NumGoroutine") = false) (hb : fn.body.isNone = true) (hn : Extern.findNext fn = none) (he : Extern.find fn = some Extern.BytealgCompare.compare)
    (hx : evF F x = some v1) (hy : evF F y = some v2) (h1 : HasS Γ v1 a.length (u8s a)) (h2 : HasS Γ v2 b.length (u8s b)) :
    ReadR P n Γ F ⟨d, .call { callee := .value (.func f), args := #[x, y], argTypes := ts }, ty, pos, af, gd⟩ (.int .i64 (compareBytes a b)) := fun ρ w hff hw => by
  have e1 := run_bytesOf (P := P) (h1 w hw)
  have e2 := run_bytesOf (P := P) (h2 w hw)
  have : (Extern.BytealgCompare.compare #[v1, v2]).run P w = .ok (.int .i64 (compareBytes a b)) w := by
    show (do let x ← Extern.Bytes.bytesOf v1; let y ← Extern.Bytes.bytesOf v2; pure (goInt (Extern.BytealgCompare.cmp x y)) : Sem Value).run P w = _
    simp [Sem.run_bind, e1, e2, goInt, cmp_eq, Result.andThen]
  have hc := run_callFunc_extern hf hname hb hn he #[v1, v2] w
  rw [this] at hc
  simp only [Result.andThen] at hc
  have hx' := hff.eval hx
  have hy' := hff.eval hy
  have h3 : Act.eval ρ (.func f) = .func (.func f) #[] #[] := rfl
  simp only [execOp, resolve, Deferred.ofValue, Sem.run_bind, h3, List.map_toArray, List.map_cons, List.map_nil, hx', hy', Result.andThen, invoke]
  simpa using hc
end
end Go.Proofs.Ytncgponcedkihaa
