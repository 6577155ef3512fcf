/- What the row of reportMerges_card_holds needs: part 4. -/
import Derived.Test.YtagedgcdonodfaaDoorRMe3
import Derived.Lib.ItoaNum
import Derived.Shelf.SlGeneric
import Derived.Shelf.SlIterI.Sorted
import Derived.Shelf.SlMaps.Clone
import Derived.Shelf.Strconv.Itoa4
import Derived.Shelf.Small.Wraps
import Derived.Shelf.Strings.SplitShaped
import Derived.Test.YtagedgcdonodfaaDoorProg
import Derived.Lib.AppendStr
import Derived.Lib.UnsafeStr
import Derived.Lib.Builder
import Derived.Lib.LaidTab
import Derived.Laws.Externs
import Derived.Shelf.SlSortCmp.NoneTotal
import Derived.Shelf.Sort.Plain
import Derived.Shelf.Small.Bits
import Derived.Shelf.Slices.In.SortNone
import Derived.Lib.ItoaLen
/- Separation: maps that are only read; clear; calls that read and own at once; function values that only read. -/
namespace Go.Proofs.YtagedgcdonodfaaDoor
section
open Go.RowKit
set_option linter.unusedSimpArgs false
set_option linter.unusedVariables false
def rmp {K V : Type} (M : MK K V) (g : Nat) (l : List (K × V)) : Asn where
  own := false
  fp := (mp M g l).fp
  holds := (mp M g l).holds
  lt := (mp M g l).lt
  loc := (mp M g l).loc
/-- The same, its entries told. -/
def rme {K V : Type} (M : MK K V) (m : Nat) (l : List (K × V)) (es : Array MapEntry) (clock : Nat) : Asn where
  own := false
  fp := fun g' => g' = m
  holds := fun w => w.heap[m]? = some (.map es clock) ∧ es.toList.map (fun e => (e.key, e.val)) = l.map (fun x => (M.kc x.1, M.vc x.2)) ∧ (es.toList.map (fun e : MapEntry => e.born)).Pairwise (fun a b : Nat => a < b) ∧ (∀ e ∈ es.toList, e.born < clock) ∧ (l.map (fun x : K × V => x.1)).Nodup ∧ ∀ x ∈ l, M.wf x.1
  lt := fun w h g' hg => by
    subst hg
    exact (Array.getElem?_eq_some_iff.1 h.1).1
  loc := fun w w' h hl => ⟨by rw [hl m rfl]; exact h.1, h.2⟩
/-- An iterator of a map that is only read. -/
def rgo {K V : Type} (M : MK K V) (m r : Nat) (l : List (K × V)) (es : Array MapEntry) (clock : Nat) (td : List (K × V)) (c : Option (K × V)) : Asn where
  own := true
  fp := fun g => g = r
  holds := fun w => ∃ since seen c0, w.heap[r]? = some (.mapIter (some m) since seen c0) ∧
    (since ≤ c0 ∧ since ≤ clock) ∧ (∀ e ∈ es.toList, e.born < since) ∧ (leftOf es seen).toList.map (fun e => (e.key, e.val)) = td.map (fun x => (M.kc x.1, M.vc x.2)) ∧ td.Sublist l ∧
    (∀ x, c = some x → c0 = clock ∧ ∃ e ∈ es.toList, seen.back? = some e.born ∧ e.key = M.kc x.1 ∧ e.val = M.vc x.2)
  lt := fun w h g hg => by
    obtain ⟨since, seen, c0, h1, _⟩ := h
    subst hg
    exact (Array.getElem?_eq_some_iff.1 h1).1
  loc := fun w w' h hl => by
    obtain ⟨since, seen, c0, h1, h3⟩ := h
    exact ⟨since, seen, c0, by rw [hl r rfl]; exact h1, h3⟩
theorem Prov.mp {K V : Type} {M : MK K V} {Γ : List Asn} {g : Nat} {l : List (K × V)} (h : Go.Proofs.YtagedgcdonodfaaDoor.mp M g l ∈ Γ) : Prov Γ (rmp M g l) := ⟨rfl, fun w hw => hw (Go.Proofs.YtagedgcdonodfaaDoor.mp M g l) h⟩
theorem Prov.rmp {K V : Type} {M : MK K V} {Γ : List Asn} {g : Nat} {l : List (K × V)} (h : Go.Proofs.YtagedgcdonodfaaDoor.rmp M g l ∈ Γ) : Prov Γ (Go.Proofs.YtagedgcdonodfaaDoor.rmp M g l) := ⟨rfl, fun w hw => hw _ h⟩
theorem provsM {Γ Δ : List Asn} (h : Provs Γ Δ := by ((repeat' (first | exact Provs.nil | apply Provs.cons | exact Prov.bx memA | exact Prov.mp memA | exact Prov.rbx memA | exact Prov.rmp memA | exact provA | fail)) <;> fail)) : Provs Γ Δ := h
section
variable {P : Program} {n : Nat} {W : World} {S : Nat → Prop} {Γ : List Asn} {F : List (Nat × Value)} {Q : Exit → Act → World → Prop} {ops : Array Oper} {os : List Oper}
variable {ty : TypeId} {pos : String} {af : Array Edge} {gd : Option (Nat × Bool)}
variable {K V : Type} {T : TypeId} {M : MK K V}
def RRgo (M : MK K V) (m : Nat) (l : List (K × V)) (es : Array MapEntry) (clock : Nat) : Value → List Asn → Prop := fun v Γ => ∃ r, v = .pointer (some ⟨r, 0, none⟩) ∧ Γ = [rgo M m r l es clock l none]
def RNxtO (M : MK K V) (m r : Nat) (l : List (K × V)) (es : Array MapEntry) (clock : Nat) (td : List (K × V)) (c : Option (K × V)) : Value → List Asn → Prop := fun v Γ =>
  (td = [] ∧ v = .tuple #[.bool false] ∧ Γ = [rgo M m r l es clock td c]) ∨ ∃ A x B, td = A ++ x :: B ∧ v = .tuple #[.bool true, M.kc x.1, M.vc x.2] ∧ Γ = [rgo M m r l es clock (A ++ B) (some x)]
end
end
section
open Go.RowKit
set_option linter.unusedSimpArgs false
set_option linter.unusedVariables false
/-- So many elements of no value. -/
def clr (P : Program) (e : TypeId) (j : Nat) : List Value := match (P.info? e).bind (·.zero) with
  | some z => (Builtin.zeroCells z.cells j).toList
  | none => []
end
section
open Go.RowKit
set_option linter.unusedSimpArgs false
set_option linter.unusedVariables false
section
variable {P : Program} {n : Nat} {W : World} {S : Nat → Prop} {Γ : List Asn} {F : List (Nat × Value)} {Q : Exit → Act → World → Prop} {ops : Array Oper} {os : List Oper}
variable {ty : TypeId} {pos : String} {af : Array Edge} {gd : Option (Nat × Bool)}
theorem OpT.callM {d : Option Tmp} {f : FuncId} {xs : List Operand} {ts : Array TypeId} {vs : List Value} {Δ Γo Γf : List Asn} {R : Value → List Asn → Prop}
    (h : Triple P f vs.toArray (Δ ++ Γo) R) (hx : evFs F xs vs) (hp : Takes Γ Γo Γf) (hΔ : Provs Γf Δ) (hB : ∀ A, A ∈ Δ → ∃ B, B ∈ Γf ∧ ∀ g, A.fp g → B.fp g) (hc : isCode P f = true) : OpT P n Γ F ⟨d, .call { callee := .value (.func f), args := xs.toArray, argTypes := ts }, ty, pos, af, gd⟩ Γo R := by
  intro ρ w hf hw ha
  unfold DoesW
  rw [run_call hc, hx.map hf]
  have hap := apart_perm hp ha
  refine (Triple.frame (Δ := Δ) (Γo := Γo) (Γf := Γf) h (fun A hA => hw A (hp.mem_iff.2 hA)) hap hΔ (fun A hA g hg ho => ?_)).mono ?_
  · obtain ⟨B, hB1, hB2⟩ := hB A hA
    obtain ⟨C, hC, hCo, hCg⟩ := ho
    exact (List.pairwise_append.1 hap).2.2 C hC B hB1 (.inl hCo) g hCg (hB2 g hg)
  · rintro e w' ⟨v, Γ', he, hR, hp⟩
    exact ⟨v, he, Γ', hR, hp⟩
theorem WPl.cM {d : Option Tmp} {f : FuncId} {xs : List Operand} {ts : Array TypeId} {vs : List Value} {Δ Γo Γf : List Asn} {R : Value → List Asn → Prop}
    (h : Triple P f vs.toArray (Δ ++ Γo) R) (hB : ∀ A, A ∈ Δ → ∃ B, B ∈ Γf ∧ ∀ g, A.fp g → B.fp g) (k : ∀ v Γ', R v Γ' → WPl P n W S (Γ' ++ Γf) (putF F d v) ops os Q) (hx : evFs F xs vs := by first | exact evsA | fail) (hp : Takes Γ Γo Γf := by first | exact takesA | fail) (hΔ : Provs Γf Δ := by first | exact provsM | fail) (hc : isCode P f = true := by first | kernel_rfl | fail) (hd : dstOk n d = true := by first | rfl | fail) (hw : wantG F ops gd = some true := by first | rfl | fail) :
    WPl P n W S Γ F ops (⟨d, .call { callee := .value (.func f), args := xs.toArray, argTypes := ts }, ty, pos, af, gd⟩ :: os) Q :=
  WPl.op hp hd hw (OpT.callM h hx hp hΔ hB hc) k
end
end
end Go.Proofs.YtagedgcdonodfaaDoor
/- Layer 30 (report): what is counted of answers, in plain words. -/
namespace Go.Proofs.YtagedgcdonodfaaDoor
open Go.RowKit
set_option linter.unusedSimpArgs false
set_option linter.unusedVariables false
/-- An answer. -/
structure An where
  why : Int
  ln : Nat
  sv : Int
  bk : Int
  nw : Bool
  er : Int
  e2 : Int
  n : Int
  m : Int
  on : Bool
abbrev LN := List (Int × Int)
abbrev LT := List ((Int × Int) × (Int × Int))
def cntA (a : An) : Bool := decide (1 ≤ a.why) && decide (a.why ≤ 7)
def qW (k : Int) (a : An) : Bool := cntA a && decide (a.why = k)
def qE (e : Int) (a : An) : Bool := cntA a && (!decide (e = 0) && decide (a.er = e))
def qT (p : Int × Int) (a : An) : Bool := decide (a.why = 1) && (decide (a.sv = p.1) && decide (a.bk = p.2))
def whyN (l : List An) (k : Int) : Nat := l.countP (qW k)
def errN (l : List An) (e : Int) : Nat := l.countP (qE e)
def toN (l : List An) (p : Int × Int) : Nat := l.countP (qT p)
def toB (l : List An) (p : Int × Int) : Nat := ((l.filter (qT p)).map (·.ln)).sum
abbrev whM : MK Int Int := ⟨fun k => .int .i64 k, fun n => .int .i64 n, 0, in64⟩
abbrev toM : MK (Int × Int) (Int × Int) := ⟨fun p => ag [(1, [.int .i64 p.1]), (1, [.int .i64 p.2])], fun p => ag [(1, [.int .i64 p.1]), (1, [.int .i64 p.2])], (0, 0), fun p => in64 p.1 ∧ in64 p.2⟩
/-- A map of counts. -/
def Cn (W : LN) (f : Int → Nat) : Prop := ∀ k, mfind W k = if f k = 0 then none else some (f k : Int)
def Ct (T : LT) (f g : Int × Int → Nat) : Prop := ∀ k, (f k = 0 → g k = 0) ∧ mfind T k = if f k = 0 then none else some ((f k : Int), (g k : Int))
def sumV (W : LN) : Int := (W.map (·.2)).sum
def sumT (T : LT) : Int := (T.map (·.2.1)).sum
theorem Cn.get {W : LN} {f : Int → Nat} (h : Cn W f) (k : Int) : mget whM W k = f k := by
  unfold mget
  rw [h k]
  split
  · rename_i e; rw [e]; rfl
  · rfl
theorem Ct.get {T : LT} {f g : Int × Int → Nat} (h : Ct T f g) (k : Int × Int) : mget toM T k = ((f k : Int), (g k : Int)) := by
  unfold mget
  rw [(h k).2]
  split
  · rename_i e; rw [e, (h k).1 e]; rfl
  · rfl
theorem Cn.more {W : LN} {f : Int → Nat} (h : Cn W f) (j : Int) (n : Nat) (hn : 0 < n) : Cn (mput W j (mget whM W j + n)) (fun k => f k + if j = k then n else 0) := by
  intro k
  show mfind (mput W j (mget whM W j + n)) k = if (f k + if j = k then n else 0) = 0 then none else some ((f k + if j = k then n else 0 : Nat) : Int)
  rw [mfind_put, h.get]
  by_cases e : j = k
  · subst e
    rw [if_pos rfl, if_pos rfl, if_neg (by omega)]
    simp
  · rw [if_neg e, if_neg e, h k]
    simp
theorem Ct.more {T : LT} {f g : Int × Int → Nat} (h : Ct T f g) (j : Int × Int) (n b : Nat) (hn : 0 < n) : Ct (mput T j ((mget toM T j).1 + n, (mget toM T j).2 + b)) (fun k => f k + if j = k then n else 0) (fun k => g k + if j = k then b else 0) := by
  intro k
  show ((f k + if j = k then n else 0) = 0 → (g k + if j = k then b else 0) = 0) ∧ mfind (mput T j ((mget toM T j).1 + n, (mget toM T j).2 + b)) k = if (f k + if j = k then n else 0) = 0 then none else some (((f k + if j = k then n else 0 : Nat) : Int), ((g k + if j = k then b else 0 : Nat) : Int))
  refine ⟨fun h0 => ?_, ?_⟩
  · by_cases e : j = k
    · rw [if_pos e] at h0; omega
    · rw [if_neg e] at h0 ⊢
      simpa using (h k).1 (by omega)
  · rw [mfind_put, h.get]
    by_cases e : j = k
    · subst e
      rw [if_pos rfl, if_pos rfl, if_pos rfl, if_neg (by omega)]
      simp
    · rw [if_neg e, if_neg e, if_neg e, (h k).2]
      simp
theorem sumV_put {W : LN} {j : Int} {n : Int} : sumV (mput W j (mget whM W j + n)) = sumV W + n := by
  induction W with
  | nil => simp [sumV, mput, mget, mfind]
  | cons x W ih =>
    unfold mput mget mfind
    by_cases e : x.1 = j
    · simp [e, sumV]; omega
    · simp only [if_neg e]
      have : sumV (x :: mput W j (mget whM W j + n)) = x.2 + sumV (mput W j (mget whM W j + n)) := by simp [sumV]
      unfold mget at this ih
      rw [this, ih]
      simp [sumV]; omega
theorem sumT_put {T : LT} {j : Int × Int} {n b : Int} : sumT (mput T j ((mget toM T j).1 + n, b)) = sumT T + n := by
  induction T with
  | nil => simp [sumT, mput, mget, mfind]
  | cons x W ih =>
    unfold mput mget mfind
    by_cases e : x.1 = j
    · simp [e, sumT]; omega
    · simp only [if_neg e]
      have : sumT (x :: mput W j ((mget toM W j).1 + n, b)) = x.2.1 + sumT (mput W j ((mget toM W j).1 + n, b)) := by simp [sumT]
      unfold mget at this ih
      rw [this, ih]
      simp [sumT]; omega
theorem sumV_mid {A B : LN} {x : Int × Int} : sumV (A ++ x :: B) = sumV (A ++ B) + x.2 := by simp [sumV]; omega
theorem sumT_mid {A B : LT} {x : (Int × Int) × (Int × Int)} : sumT (A ++ x :: B) = sumT (A ++ B) + x.2.1 := by simp [sumT]; omega
/-- What a report holds of answers. -/
structure Rep (l : List An) (W E : LN) (T : LT) : Prop where
  w : Cn W (whyN l)
  e : Cn E (errN l)
  t : Ct T (toN l) (toB l)
  sw : sumV W = l.countP cntA
  st : sumT T = whyN l 1
theorem rep_nil : Rep [] [] [] [] := ⟨fun k => rfl, fun k => rfl, fun k => ⟨fun _ => rfl, rfl⟩, rfl, rfl⟩
def addW (W : LN) (a : An) : LN := mput W a.why (mget whM W a.why + (1 : Nat))
def addE (E : LN) (a : An) : LN := if a.er = 0 then E else mput E a.er (mget whM E a.er + (1 : Nat))
def addT (T : LT) (a : An) : LT := if a.why = 1 then mput T (a.sv, a.bk) ((mget toM T (a.sv, a.bk)).1 + (1 : Nat), (mget toM T (a.sv, a.bk)).2 + (a.ln : Nat)) else T
theorem Rep.skip {l : List An} {W E : LN} {T : LT} {a : An} (h : Rep l W E T) (ha : cntA a = false) : Rep (l ++ [a]) W E T := by
  have h7 : a.why ≠ 1 := fun e => by unfold cntA at ha; rw [e] at ha; cases ha
  have h1 : whyN (l ++ [a]) = whyN l := by funext k; simp [whyN, qW, ha]
  have h2 : errN (l ++ [a]) = errN l := by funext k; simp [errN, qE, ha]
  have h3 : toN (l ++ [a]) = toN l := by funext k; simp [toN, qT, h7]
  have h4 : toB (l ++ [a]) = toB l := by funext k; simp [toB, qT, h7]
  refine ⟨by rw [h1]; exact h.w, by rw [h2]; exact h.e, by rw [h3, h4]; exact h.t, ?_, by rw [h1]; exact h.st⟩
  rw [h.sw]; simp [ha]
theorem Rep.add {l : List An} {W E : LN} {T : LT} {a : An} (h : Rep l W E T) (ha : cntA a = true) : Rep (l ++ [a]) (addW W a) (addE E a) (addT T a) := by
  refine ⟨?_, ?_, ?_, ?_, ?_⟩
  · have : whyN (l ++ [a]) = fun k => whyN l k + if a.why = k then 1 else 0 := by
      funext k; simp [whyN, qW, ha]
    rw [this]
    exact h.w.more _ 1 (by decide)
  · unfold addE
    by_cases e : a.er = 0
    · have : errN (l ++ [a]) = errN l := by
        funext k
        have : qE k a = false := by unfold qE; by_cases hk : k = 0 <;> simp [hk, e, ha]; intro h0; exact hk h0.symm
        simp [errN, this]
      rw [if_pos e, this]
      exact h.e
    · have : errN (l ++ [a]) = fun k => errN l k + if a.er = k then 1 else 0 := by
        funext k
        have : qE k a = decide (a.er = k) := by
          unfold qE
          by_cases hk : a.er = k
          · subst hk; simp [ha, e]
          · simp [hk]
        simp [errN, this]
      rw [if_neg e, this]
      exact h.e.more _ 1 (by decide)
  · unfold addT
    by_cases e : a.why = 1
    · have h3 : toN (l ++ [a]) = fun k => toN l k + if (a.sv, a.bk) = k then 1 else 0 := by
        funext k
        have : qT k a = decide ((a.sv, a.bk) = k) := by
          obtain ⟨k1, k2⟩ := k
          unfold qT
          simp [e, Prod.mk.injEq]
        simp [toN, this]
      have h4 : toB (l ++ [a]) = fun k => toB l k + if (a.sv, a.bk) = k then a.ln else 0 := by
        funext k
        have : qT k a = decide ((a.sv, a.bk) = k) := by
          obtain ⟨k1, k2⟩ := k
          unfold qT
          simp [e, Prod.mk.injEq]
        by_cases hk : (a.sv, a.bk) = k <;> simp [toB, this, hk]
      rw [if_pos e, h3, h4]
      exact h.t.more _ 1 a.ln (by decide)
    · have h3 : toN (l ++ [a]) = toN l := by funext k; simp [toN, qT, e]
      have h4 : toB (l ++ [a]) = toB l := by funext k; simp [toB, qT, e]
      rw [if_neg e, h3, h4]
      exact h.t
  · unfold addW
    rw [sumV_put, h.sw]; simp [ha]
  · unfold addT
    by_cases e : a.why = 1
    · rw [if_pos e, sumT_put, h.st]; simp [whyN, qW, ha, e]
    · rw [if_neg e, h.st]; simp [whyN, qW, ha, e]
/-! ### Two reports, merged -/
theorem mfind_mid {K V : Type} [DecidableEq K] {A B : List (K × V)} {x : K × V} (hn : ((A ++ x :: B).map (·.1)).Nodup) (k : K) : mfind (A ++ x :: B) k = if x.1 = k then some x.2 else mfind (A ++ B) k := by
  induction A with
  | nil => rfl
  | cons y A ih =>
    rw [List.cons_append, List.map_cons, List.nodup_cons] at hn
    simp only [List.cons_append, mfind]
    rw [ih hn.2]
    by_cases e : y.1 = k
    · rw [if_pos e]
      have : ¬ x.1 = k := fun h => hn.1 (by rw [e, ← h]; simp)
      rw [if_neg this, if_pos e]
    · rw [if_neg e, if_neg e]
theorem mfind_out {K V : Type} [DecidableEq K] {A B : List (K × V)} {x : K × V} (hn : ((A ++ x :: B).map (·.1)).Nodup) : mfind (A ++ B) x.1 = none := by
  induction A with
  | nil =>
    rw [List.nil_append, List.map_cons, List.nodup_cons] at hn
    exact (mfind_none fun y hy e => hn.1 (List.mem_map.2 ⟨y, hy, e⟩)).1
  | cons y A ih =>
    rw [List.cons_append, List.map_cons, List.nodup_cons] at hn
    simp only [List.cons_append, mfind]
    rw [if_neg (fun h => hn.1 (by rw [h]; simp)), ih hn.2]
/-- What has come of a map of counts, where td is left. -/
def com (f g : Int → Nat) (td : LN) : Int → Nat := fun k => f k + if mhas td k then 0 else g k
theorem com_all {f g : Int → Nat} {C : LN} (h : Cn C g) : com f g C = f := by
  funext k
  unfold com mhas
  rw [h k]
  by_cases e : g k = 0 <;> simp [e]
theorem com_nil {f g : Int → Nat} : com f g [] = fun k => f k + g k := rfl
theorem Cn.come {W C A B : LN} {f g : Int → Nat} {x : Int × Int} (hC : Cn C g) (h : Cn W (com f g (A ++ x :: B))) (hx : mfind C x.1 = some x.2) (hn : ((A ++ x :: B).map (·.1)).Nodup) :
    Cn (mput W x.1 (mget whM W x.1 + x.2)) (com f g (A ++ B)) ∧ x.2 = (g x.1 : Int) := by
  rw [hC x.1] at hx
  have h0 : g x.1 ≠ 0 := fun e => by rw [if_pos e] at hx; cases hx
  rw [if_neg h0] at hx
  have h1 : x.2 = (g x.1 : Int) := (Option.some.inj hx).symm
  refine ⟨?_, h1⟩
  have h2 := h.more x.1 (g x.1) (by omega)
  rw [h1]
  have h3 : (fun k => com f g (A ++ x :: B) k + if x.1 = k then g x.1 else 0) = com f g (A ++ B) := by
    funext k
    unfold com mhas
    rw [mfind_mid hn k]
    by_cases e : x.1 = k
    · subst e
      rw [mfind_out hn]
      simp
    · simp [e]
  rw [h3] at h2
  exact h2
def comT (f g : Int × Int → Nat) (td : LT) : Int × Int → Nat := fun k => f k + if mhas td k then 0 else g k
theorem comT_all {f g g' : Int × Int → Nat} {C : LT} (h : Ct C g g') : comT f g C = f ∧ comT f g' C = f := by
  refine ⟨?_, ?_⟩ <;> funext k <;> unfold comT mhas <;> rw [(h k).2] <;> by_cases e : g k = 0 <;> simp [e, (h k).1]
theorem Ct.come {W C A B : LT} {f g f' g' : Int × Int → Nat} {x : (Int × Int) × (Int × Int)} (hC : Ct C g g') (h : Ct W (comT f g (A ++ x :: B)) (comT f' g' (A ++ x :: B))) (hx : mfind C x.1 = some x.2) (hn : ((A ++ x :: B).map (·.1)).Nodup) :
    Ct (mput W x.1 ((mget toM W x.1).1 + x.2.1, (mget toM W x.1).2 + x.2.2)) (comT f g (A ++ B)) (comT f' g' (A ++ B)) ∧ x.2 = ((g x.1 : Int), (g' x.1 : Int)) := by
  rw [(hC x.1).2] at hx
  have h0 : g x.1 ≠ 0 := fun e => by rw [if_pos e] at hx; cases hx
  rw [if_neg h0] at hx
  have h1 : x.2 = ((g x.1 : Int), (g' x.1 : Int)) := (Option.some.inj hx).symm
  refine ⟨?_, h1⟩
  have h2 := h.more x.1 (g x.1) (g' x.1) (by omega)
  rw [h1]
  have h3 : ∀ f g : Int × Int → Nat, (fun k => comT f g (A ++ x :: B) k + if x.1 = k then g x.1 else 0) = comT f g (A ++ B) := by
    intro f g
    funext k
    unfold comT mhas
    rw [mfind_mid hn k]
    by_cases e : x.1 = k
    · subst e
      rw [mfind_out hn]
      simp
    · simp [e]
  rw [h3, h3] at h2
  exact h2
theorem Rep.both {l l' : List An} {W E : LN} {T : LT} (hw : Cn W (fun k => whyN l k + whyN l' k)) (he : Cn E (fun k => errN l k + errN l' k)) (ht : Ct T (fun k => toN l k + toN l' k) (fun k => toB l k + toB l' k)) (hs : sumV W = (l.countP cntA : Int) + l'.countP cntA) (hst : sumT T = (whyN l 1 : Int) + whyN l' 1) : Rep (l ++ l') W E T := by
  have h1 : whyN (l ++ l') = fun k => whyN l k + whyN l' k := by funext k; simp [whyN]
  have h2 : errN (l ++ l') = fun k => errN l k + errN l' k := by funext k; simp [errN]
  have h3 : toN (l ++ l') = fun k => toN l k + toN l' k := by funext k; simp [toN]
  have h4 : toB (l ++ l') = fun k => toB l k + toB l' k := by funext k; simp [toB]
  exact ⟨by rw [h1]; exact hw, by rw [h2]; exact he, by rw [h3, h4]; exact ht, by rw [hs]; simp, by rw [hst, h1]; simp⟩
/-! ### The sum, the keys, the tallies -/
theorem cnt_sum (l : List An) : (l.countP cntA : Int) = (whyN l 1 : Int) + whyN l 2 + whyN l 3 + whyN l 4 + whyN l 5 + whyN l 6 + whyN l 7 := by
  induction l with
  | nil => rfl
  | cons a l ih =>
    simp only [whyN, List.countP_cons] at ih ⊢
    by_cases h : cntA a = true
    · have h2 := h
      unfold cntA at h2
      simp only [Bool.and_eq_true, decide_eq_true_eq] at h2
      have : a.why = 1 ∨ a.why = 2 ∨ a.why = 3 ∨ a.why = 4 ∨ a.why = 5 ∨ a.why = 6 ∨ a.why = 7 := by omega
      rcases this with e | e | e | e | e | e | e <;> simp [qW, h, e] <;> omega
    · simp only [Bool.not_eq_true] at h
      simp [qW, h]
      omega
theorem why_range {l : List An} {k : Int} (h : whyN l k ≠ 0) : 1 ≤ k ∧ k ≤ 7 := by
  have : 0 < l.countP (qW k) := by unfold whyN at h; omega
  obtain ⟨a, _, ha⟩ := List.countP_pos_iff.1 this
  unfold qW cntA at ha
  simp only [Bool.and_eq_true, decide_eq_true_eq] at ha
  omega
theorem why_len {l : List An} {k : Int} : whyN l k ≤ l.length := List.countP_le_length
theorem err_len {l : List An} {k : Int} : errN l k ≤ l.length := List.countP_le_length
theorem to_len {l : List An} {p : Int × Int} : toN l p ≤ l.length := List.countP_le_length
theorem tob_len {l : List An} {p : Int × Int} (h : ∀ a ∈ l, a.ln ≤ 60) : toB l p ≤ 60 * l.length := by
  unfold toB
  induction l with
  | nil => simp
  | cons a l ih =>
    have h1 := ih fun b hb => h b (List.mem_cons_of_mem _ hb)
    have h2 := h a (List.mem_cons_self ..)
    rw [List.filter_cons]
    split
    · simp only [List.map_cons, List.sum_cons, List.length_cons]; omega
    · simp only [List.length_cons]; omega
theorem strict_uniq {α : Type} {r : α → α → Prop} (hr : ∀ a b, r a b → r b a → False) (hi : ∀ a, ¬ r a a) : ∀ {A B : List α}, (∀ x, x ∈ A ↔ x ∈ B) → A.Pairwise r → B.Pairwise r → A = B
  | [], [], _, _, _ => rfl
  | [], b :: B, hp, _, _ => by have := (hp b).2 (List.mem_cons_self ..); cases this
  | a :: A, [], hp, _, _ => by have := (hp a).1 (List.mem_cons_self ..); cases this
  | a :: A, b :: B, hp, ha, hb => by
    rw [List.pairwise_cons] at ha hb
    have hab : a = b := by
      rcases List.mem_cons.1 ((hp a).1 (List.mem_cons_self ..)) with h | h
      · exact h
      · rcases List.mem_cons.1 ((hp b).2 (List.mem_cons_self ..)) with h2 | h2
        · exact h2.symm
        · exact (hr _ _ (ha.1 b h2) (hb.1 a h)).elim
    subst hab
    have : ∀ x, x ∈ A ↔ x ∈ B := fun x => by
      have h := hp x
      simp only [List.mem_cons] at h
      constructor
      · intro hx
        rcases h.1 (.inr hx) with e | e
        · subst e; exact absurd (ha.1 _ hx) (hi _)
        · exact e
      · intro hx
        rcases h.2 (.inr hx) with e | e
        · subst e; exact absurd (hb.1 _ hx) (hi _)
        · exact e
    rw [strict_uniq hr hi this ha.2 hb.2]
def leB (x y : Int) : Bool := decide (x ≤ y)
theorem keys_sorted {K : List Int} (hn : K.Nodup) : (K.mergeSort leB).Pairwise (· < ·) := by
  have h1 : (K.mergeSort leB).Pairwise (fun a b => leB a b = true) := List.pairwise_mergeSort (fun a b c => by simp only [leB, decide_eq_true_eq]; omega) (fun a b => by simp only [leB, Bool.or_eq_true, decide_eq_true_eq]; omega) K
  have h2 : (K.mergeSort leB).Nodup := ((List.mergeSort_perm K leB).nodup_iff).2 hn
  exact (h1.and h2).imp fun ⟨h, hne⟩ => by simp only [leB, decide_eq_true_eq] at h; omega
theorem mfind_keys {K V : Type} [DecidableEq K] {l : List (K × V)} {k : K} : k ∈ l.map (·.1) ↔ mfind l k ≠ none := by
  constructor
  · intro h e
    obtain ⟨x, hx, rfl⟩ := List.mem_map.1 h
    exact mfind_none_of e x hx rfl
  · intro h
    cases e : mfind l k with
    | none => exact absurd e h
    | some v => exact List.mem_map.2 ⟨_, mfind_mem e, rfl⟩
theorem Cn.key {W : LN} {f : Int → Nat} (h : Cn W f) (k : Int) : k ∈ W.map (·.1) ↔ f k ≠ 0 := by
  rw [mfind_keys, h k]
  split
  · rename_i e; simp [e]
  · rename_i e; simp [e]
def whysL (l : List An) : List Int := [1, 2, 3, 4, 5, 6, 7].filter fun k => decide (whyN l k ≠ 0)
theorem whys_sorted {l : List An} {W : LN} (h : Cn W (whyN l)) (hn : (W.map (·.1)).Nodup) : (W.map (·.1)).mergeSort leB = whysL l := by
  refine strict_uniq (r := fun a b : Int => a < b) (fun a b h1 h2 => by omega) (fun a h => by omega) (fun k => ?_) (keys_sorted hn) (List.Pairwise.filter _ (by decide))
  rw [(List.mergeSort_perm _ leB).mem_iff, h.key]
  unfold whysL
  rw [List.mem_filter]
  constructor
  · intro h
    have := why_range h
    refine ⟨?_, by simpa using h⟩
    have : k = 1 ∨ k = 2 ∨ k = 3 ∨ k = 4 ∨ k = 5 ∨ k = 6 ∨ k = 7 := by omega
    rcases this with e | e | e | e | e | e | e <;> subst e <;> decide
  · intro h
    simpa using h.2
/-- The errors, rising. -/
def insI (e : Int) : List Int → List Int
  | [] => [e]
  | x :: s => if x < e then x :: insI e s else if e < x then e :: x :: s else x :: s
theorem insI_mem {e k : Int} : ∀ {s : List Int}, k ∈ insI e s ↔ k = e ∨ k ∈ s
  | [] => by simp [insI]
  | x :: s => by
    unfold insI
    split
    · rw [List.mem_cons, insI_mem, List.mem_cons]
      constructor <;> rintro (h | h | h) <;> simp [h]
    · split
      · simp
      · have : e = x := by omega
        subst this
        simp
theorem insI_sorted {e : Int} : ∀ {s : List Int}, s.Pairwise (· < ·) → (insI e s).Pairwise (· < ·)
  | [], _ => List.pairwise_singleton _ _
  | x :: s, h => by
    have h' := List.pairwise_cons.1 h
    unfold insI
    split
    · rename_i hx
      refine List.pairwise_cons.2 ⟨fun y hy => ?_, insI_sorted h'.2⟩
      rcases insI_mem.1 hy with rfl | hy
      · exact hx
      · exact h'.1 y hy
    · split
      · rename_i hx
        refine List.pairwise_cons.2 ⟨fun y hy => ?_, h⟩
        rcases List.mem_cons.1 hy with rfl | hy
        · exact hx
        · have := h'.1 y hy; omega
      · exact h
theorem insI_len {e : Int} : ∀ {s : List Int}, (insI e s).length ≤ s.length + 1
  | [] => by simp [insI]
  | x :: s => by
    unfold insI
    split
    · have := insI_len (e := e) (s := s); simp only [List.length_cons]; omega
    · split <;> simp
def errsL : List An → List Int
  | [] => []
  | a :: l => if cntA a && !decide (a.er = 0) then insI a.er (errsL l) else errsL l
theorem errsL_sorted : ∀ l : List An, (errsL l).Pairwise (· < ·)
  | [] => .nil
  | a :: l => by
    unfold errsL
    split
    · exact insI_sorted (errsL_sorted l)
    · exact errsL_sorted l
theorem errsL_len : ∀ l : List An, (errsL l).length ≤ l.length
  | [] => Nat.le_refl _
  | a :: l => by
    have := errsL_len l
    unfold errsL
    split
    · have h2 := insI_len (e := a.er) (s := errsL l); simp only [List.length_cons]; omega
    · simp only [List.length_cons]; omega
theorem err_mem {l : List An} {k : Int} : errN l k ≠ 0 ↔ k ≠ 0 ∧ ∃ a ∈ l, cntA a = true ∧ a.er = k := by
  unfold errN
  have h0 : l.countP (qE k) ≠ 0 ↔ 0 < l.countP (qE k) := by omega
  rw [h0, List.countP_pos_iff]
  constructor
  · rintro ⟨a, ha, hq⟩
    unfold qE at hq
    simp only [Bool.and_eq_true, decide_eq_true_eq, Bool.not_eq_true', decide_eq_false_iff_not] at hq
    exact ⟨hq.2.1, a, ha, hq.1, hq.2.2⟩
  · rintro ⟨hk, a, ha, h1, h2⟩
    refine ⟨a, ha, ?_⟩
    unfold qE
    simp [h1, h2, hk]
/-- The least error that is counted and greater than the last. -/
def okE (fst : Bool) (last : Int) (a : An) : Bool := cntA a && (!decide (a.er = 0) && (fst || decide (last < a.er)))
def nextE (l : List An) (fst : Bool) (last : Int) : Option Int := l.foldl (fun b a => if okE fst last a then (match b with | none => some a.er | some x => if a.er < x then some a.er else some x) else b) none
def iterE (l : List An) : Nat → Bool → Int → List Int
  | 0, _, _ => []
  | n + 1, fst, last => match nextE l fst last with
    | none => iterE l n fst last
    | some b => b :: iterE l n false b
theorem nextE_spec {l : List An} {fst : Bool} {last : Int} : (nextE l fst last = none ∧ ∀ a ∈ l, okE fst last a = false) ∨ (∃ b, nextE l fst last = some b ∧ (∃ a ∈ l, okE fst last a = true ∧ a.er = b) ∧ ∀ a ∈ l, okE fst last a = true → b ≤ a.er) := by
  have key : ∀ (l : List An) (b0 : Option Int), ∃ b, l.foldl (fun b a => if okE fst last a then (match b with | none => some a.er | some x => if a.er < x then some a.er else some x) else b) b0 = b ∧
      (∀ x, b = some x → (b0 = some x ∨ ∃ a ∈ l, okE fst last a = true ∧ a.er = x)) ∧ (b = none → b0 = none ∧ ∀ a ∈ l, okE fst last a = false) ∧ (∀ x, b = some x → (∀ y, b0 = some y → x ≤ y) ∧ ∀ a ∈ l, okE fst last a = true → x ≤ a.er) := by
    intro l
    induction l with
    | nil => intro b0; exact ⟨b0, rfl, fun x h => .inl h, fun h => ⟨h, fun a ha => (by cases ha)⟩, fun x h => ⟨fun y hy => (by rw [h] at hy; cases hy; omega), fun a ha => (by cases ha)⟩⟩
    | cons a l ih =>
      intro b0
      rw [List.foldl_cons]
      by_cases ho : okE fst last a = true
      · rw [if_pos ho]
        cases b0 with
        | none =>
          obtain ⟨b, h1, h2, h3, h4⟩ := ih (some a.er)
          refine ⟨b, h1, fun x hx => ?_, fun hb => ?_, fun x hx => ⟨fun y hy => (by cases hy), fun c hc hoc => ?_⟩⟩
          · rcases h2 x hx with e | ⟨c, hc, e⟩
            · exact .inr ⟨a, List.mem_cons_self .., ho, Option.some.inj e⟩
            · exact .inr ⟨c, List.mem_cons_of_mem _ hc, e⟩
          · have := (h3 hb).1; cases this
          · rcases List.mem_cons.1 hc with rfl | hc
            · exact (h4 x hx).1 _ rfl
            · exact (h4 x hx).2 c hc hoc
        | some y =>
          dsimp only
          by_cases hl : a.er < y
          · rw [if_pos hl]
            obtain ⟨b, h1, h2, h3, h4⟩ := ih (some a.er)
            refine ⟨b, h1, fun x hx => ?_, fun hb => ?_, fun x hx => ⟨fun z hz => ?_, fun c hc hoc => ?_⟩⟩
            · rcases h2 x hx with e | ⟨c, hc, e⟩
              · exact .inr ⟨a, List.mem_cons_self .., ho, Option.some.inj e⟩
              · exact .inr ⟨c, List.mem_cons_of_mem _ hc, e⟩
            · have := (h3 hb).1; cases this
            · have := (h4 x hx).1 _ rfl; cases hz; omega
            · rcases List.mem_cons.1 hc with rfl | hc
              · exact (h4 x hx).1 _ rfl
              · exact (h4 x hx).2 c hc hoc
          · rw [if_neg hl]
            obtain ⟨b, h1, h2, h3, h4⟩ := ih (some y)
            refine ⟨b, h1, fun x hx => ?_, fun hb => ?_, fun x hx => ⟨fun z hz => ?_, fun c hc hoc => ?_⟩⟩
            · rcases h2 x hx with e | ⟨c, hc, e⟩
              · exact .inl e
              · exact .inr ⟨c, List.mem_cons_of_mem _ hc, e⟩
            · have := (h3 hb).1; cases this
            · exact (h4 x hx).1 _ hz
            · rcases List.mem_cons.1 hc with rfl | hc
              · have := (h4 x hx).1 _ rfl; omega
              · exact (h4 x hx).2 c hc hoc
      · rw [if_neg ho]
        obtain ⟨b, h1, h2, h3, h4⟩ := ih b0
        refine ⟨b, h1, fun x hx => ?_, fun hb => ⟨(h3 hb).1, fun c hc => ?_⟩, fun x hx => ⟨(h4 x hx).1, fun c hc hoc => ?_⟩⟩
        · rcases h2 x hx with e | ⟨c, hc, e⟩
          · exact .inl e
          · exact .inr ⟨c, List.mem_cons_of_mem _ hc, e⟩
        · rcases List.mem_cons.1 hc with rfl | hc
          · simpa using ho
          · exact (h3 hb).2 c hc
        · rcases List.mem_cons.1 hc with rfl | hc
          · exact absurd hoc ho
          · exact (h4 x hx).2 c hc hoc
  obtain ⟨b, h1, h2, h3, h4⟩ := key l none
  cases b with
  | none => exact .inl ⟨h1, (h3 rfl).2⟩
  | some x =>
    refine .inr ⟨x, h1, ?_, (h4 x rfl).2⟩
    rcases h2 x rfl with e | e
    · cases e
    · exact e
theorem errsL_mem {k : Int} : ∀ {l : List An}, k ∈ errsL l ↔ k ≠ 0 ∧ ∃ a ∈ l, cntA a = true ∧ a.er = k
  | [] => by simp [errsL]
  | a :: l => by
    unfold errsL
    split
    · rename_i h
      simp only [Bool.and_eq_true, Bool.not_eq_true', decide_eq_false_iff_not] at h
      rw [insI_mem, errsL_mem]
      constructor
      · rintro (rfl | ⟨h0, c, hc, h1⟩)
        · exact ⟨h.2, a, List.mem_cons_self .., h.1, rfl⟩
        · exact ⟨h0, c, List.mem_cons_of_mem _ hc, h1⟩
      · rintro ⟨h0, c, hc, h1⟩
        rcases List.mem_cons.1 hc with rfl | hc
        · exact .inl h1.2.symm
        · exact .inr ⟨h0, c, hc, h1⟩
    · rename_i h
      rw [errsL_mem]
      constructor
      · rintro ⟨h0, c, hc, h1⟩
        exact ⟨h0, c, List.mem_cons_of_mem _ hc, h1⟩
      · rintro ⟨h0, c, hc, h1⟩
        rcases List.mem_cons.1 hc with rfl | hc
        · exfalso; apply h; simp [h1.1, h1.2, h0]
        · exact ⟨h0, c, hc, h1⟩
theorem errs_sorted {l : List An} {E : LN} (h : Cn E (errN l)) (hn : (E.map (·.1)).Nodup) : (E.map (·.1)).mergeSort leB = errsL l := by
  refine strict_uniq (r := fun a b : Int => a < b) (fun a b h1 h2 => by omega) (fun a h => by omega) (fun k => ?_) (keys_sorted hn) (errsL_sorted l)
  rw [(List.mergeSort_perm _ leB).mem_iff, h.key, err_mem, errsL_mem]
theorem iterE_eq {l : List An} : ∀ (n : Nat) (fst : Bool) (last : Int) (r : List Int), r.Pairwise (· < ·) → (∀ k, k ∈ r ↔ ∃ a ∈ l, okE fst last a = true ∧ a.er = k) → r.length ≤ n → iterE l n fst last = r
  | 0, _, _, r, _, _, h => by
    have : r = [] := List.length_eq_zero_iff.1 (by omega)
    rw [this]; rfl
  | n + 1, fst, last, r, hs, hm, hl => by
    unfold iterE
    rcases nextE_spec (l := l) (fst := fst) (last := last) with ⟨h1, h2⟩ | ⟨b, h1, ⟨a0, ha0, ho0, he0⟩, h3⟩
    · rw [h1]
      have hr : r = [] := by
        cases r with
        | nil => rfl
        | cons x r =>
          obtain ⟨a, ha, ho, _⟩ := (hm x).1 (List.mem_cons_self ..)
          rw [h2 a ha] at ho; cases ho
      subst hr
      exact iterE_eq n fst last [] .nil hm (Nat.zero_le _)
    · rw [h1]
      cases r with
      | nil => have := (hm b).2 ⟨a0, ha0, ho0, he0⟩; cases this
      | cons x r =>
        rw [List.pairwise_cons] at hs
        obtain ⟨a1, ha1, ho1, he1⟩ := (hm x).1 (List.mem_cons_self ..)
        have hb1 : b ≤ x := by have := h3 a1 ha1 ho1; omega
        have hb2 : x ≤ b := by
          rcases List.mem_cons.1 ((hm b).2 ⟨a0, ha0, ho0, he0⟩) with h | h
          · omega
          · have := hs.1 b h; omega
        have hxb : x = b := by omega
        subst hxb
        dsimp only
        rw [iterE_eq n false x r hs.2 (fun k => ?_) (by simp only [List.length_cons] at hl; omega)]
        have ho0' := ho0
        unfold okE at ho0'
        simp only [Bool.and_eq_true, Bool.or_eq_true, decide_eq_true_eq] at ho0'
        constructor
        · intro hk
          obtain ⟨a, ha, ho, he⟩ := (hm k).1 (List.mem_cons_of_mem _ hk)
          refine ⟨a, ha, ?_, he⟩
          have := hs.1 k hk
          unfold okE at ho ⊢
          simp only [Bool.and_eq_true, Bool.or_eq_true, decide_eq_true_eq] at ho ⊢
          exact ⟨ho.1, ho.2.1, .inr (by omega)⟩
        · rintro ⟨a, ha, ho, he⟩
          unfold okE at ho
          simp only [Bool.and_eq_true, Bool.or_eq_true, decide_eq_true_eq, Bool.false_eq_true, false_or] at ho
          have hk : k ∈ x :: r := (hm k).2 ⟨a, ha, by
            unfold okE
            simp only [Bool.and_eq_true, Bool.or_eq_true, decide_eq_true_eq]
            exact ⟨ho.1, ho.2.1, by rcases ho0'.2.2 with h | h; exact .inl h; exact .inr (by omega)⟩, he⟩
          rcases List.mem_cons.1 hk with e | h
          · omega
          · exact h
/-- What the document's rounds find. -/
theorem iterE_errs (l : List An) : iterE l (l.length + 1) true 0 = errsL l := by
  refine iterE_eq _ _ _ _ (errsL_sorted l) (fun k => ?_) (by have := errsL_len l; omega)
  rw [errsL_mem]
  constructor
  · rintro ⟨h0, a, ha, h1, h2⟩
    refine ⟨a, ha, ?_, h2⟩
    unfold okE
    simp [h1, h2, h0]
  · rintro ⟨a, ha, h1, h2⟩
    unfold okE at h1
    simp only [Bool.and_eq_true, Bool.or_eq_true, decide_eq_true_eq, Bool.not_eq_true', decide_eq_false_iff_not] at h1
    exact ⟨by rw [← h2]; exact h1.2.1, a, ha, h1.1, h2⟩
/-! ### The tallies -/
def ltP (p q : Int × Int) : Bool := decide (p.1 < q.1) || (decide (p.1 = q.1) && decide (p.2 < q.2))
theorem ltP_iff {p q : Int × Int} : ltP p q = true ↔ p.1 < q.1 ∨ p.1 = q.1 ∧ p.2 < q.2 := by
  unfold ltP; simp only [Bool.or_eq_true, Bool.and_eq_true, decide_eq_true_eq]
theorem ltP_eq {p q : Int × Int} (h1 : ltP p q = false) (h2 : ltP q p = false) : p = q := by
  unfold ltP at h1 h2
  simp only [Bool.or_eq_false_iff, Bool.and_eq_false_iff, decide_eq_false_iff_not] at h1 h2
  obtain ⟨p1, p2⟩ := p
  obtain ⟨q1, q2⟩ := q
  simp only at h1 h2
  have : p1 = q1 := by omega
  have : p2 = q2 := by omega
  simp [*]
/-- A tally goes in. -/
def tIns (p : Int × Int) (b : Int) : LT → LT
  | [] => [(p, (1, b))]
  | x :: r => if ltP x.1 p then x :: tIns p b r else if ltP p x.1 then (p, (1, b)) :: x :: r else (x.1, (x.2.1 + 1, x.2.2 + b)) :: r
def talL (l : List An) : LT := l.foldl (fun o a => if a.why = 1 then tIns (a.sv, a.bk) a.ln o else o) []
def srtT (T : LT) : Prop := T.Pairwise fun x y => ltP x.1 y.1 = true
theorem tIns_key {p : Int × Int} {b : Int} {q : Int × Int} : ∀ {T : LT}, q ∈ (tIns p b T).map (·.1) → q = p ∨ q ∈ T.map (·.1)
  | [], h => by simpa [tIns] using h
  | x :: r, h => by
    unfold tIns at h
    split at h
    · rw [List.map_cons, List.mem_cons] at h
      rcases h with h | h
      · exact .inr (by rw [h]; simp)
      · rcases tIns_key h with h | h
        · exact .inl h
        · exact .inr (by rw [List.map_cons]; exact List.mem_cons_of_mem _ h)
    · split at h
      · rw [List.map_cons, List.mem_cons] at h
        rcases h with h | h
        · exact .inl h
        · exact .inr h
      · exact .inr (by simpa using h)
theorem tIns_sorted {p : Int × Int} {b : Int} : ∀ {T : LT}, srtT T → srtT (tIns p b T)
  | [], _ => List.pairwise_singleton _ _
  | x :: r, h => by
    have h' := List.pairwise_cons.1 h
    unfold tIns
    split
    · rename_i hx
      refine List.pairwise_cons.2 ⟨fun y hy => ?_, tIns_sorted h'.2⟩
      rcases tIns_key (List.mem_map.2 ⟨y, hy, rfl⟩) with e | e
      · rw [e]; exact hx
      · obtain ⟨z, hz, e⟩ := List.mem_map.1 e
        rw [← e]; exact h'.1 z hz
    · split
      · rename_i hx
        refine List.pairwise_cons.2 ⟨fun y hy => ?_, h⟩
        rcases List.mem_cons.1 hy with rfl | hy
        · exact hx
        · have h2 := h'.1 y hy
          show ltP p y.1 = true
          rw [ltP_iff] at hx h2 ⊢
          omega
      · exact List.pairwise_cons.2 ⟨fun y hy => h'.1 y hy, h'.2⟩
theorem tIns_find {p : Int × Int} {b : Int} {q : Int × Int} : ∀ {T : LT}, srtT T → mfind (tIns p b T) q = if p = q then some ((mget toM T p).1 + 1, (mget toM T p).2 + b) else mfind T q
  | [], _ => by simp [tIns, mfind, mget]
  | x :: r, h => by
    have h' := List.pairwise_cons.1 h
    unfold tIns
    split
    · rename_i hx
      have hne : x.1 ≠ p := fun e => by rw [e, ltP_iff] at hx; omega
      simp only [mfind, mget, if_neg hne]
      rw [tIns_find h'.2]
      by_cases e : x.1 = q
      · have : ¬ p = q := fun h2 => hne (e.trans h2.symm)
        rw [if_pos e, if_neg this, if_pos e]
      · rw [if_neg e, if_neg e]; rfl
    · rename_i hx
      split
      · rename_i hp
        have hno : mfind (x :: r) p = none := (mfind_none fun y hy e => by
          rcases List.mem_cons.1 hy with rfl | hy
          · rw [e, ltP_iff] at hp; omega
          · have h2 := h'.1 y hy
            rw [e] at h2
            rw [ltP_iff] at hp h2; omega).1
        unfold mget
        rw [hno]
        conv => lhs; unfold mfind
        simp
      · rename_i hp
        have e : x.1 = p := ltP_eq (by simpa using hx) (by simpa using hp)
        subst e
        simp only [mfind, mget, if_pos]
        split <;> rfl
theorem talL_step {l : List An} {a : An} {o : LT} (h1 : srtT o) (h2 : Ct o (toN l) (toB l)) : srtT (if a.why = 1 then tIns (a.sv, a.bk) a.ln o else o) ∧ Ct (if a.why = 1 then tIns (a.sv, a.bk) a.ln o else o) (toN (l ++ [a])) (toB (l ++ [a])) := by
  by_cases e : a.why = 1
  · have h3 : toN (l ++ [a]) = fun k => toN l k + if (a.sv, a.bk) = k then 1 else 0 := by
      funext k
      have : qT k a = decide ((a.sv, a.bk) = k) := by
        obtain ⟨k1, k2⟩ := k
        unfold qT
        simp [e, Prod.mk.injEq]
      simp [toN, this]
    have h4 : toB (l ++ [a]) = fun k => toB l k + if (a.sv, a.bk) = k then a.ln else 0 := by
      funext k
      have : qT k a = decide ((a.sv, a.bk) = k) := by
        obtain ⟨k1, k2⟩ := k
        unfold qT
        simp [e, Prod.mk.injEq]
      by_cases hk : (a.sv, a.bk) = k <;> simp [toB, this, hk]
    rw [if_pos e, h3, h4]
    refine ⟨tIns_sorted h1, fun k => ?_⟩
    have h5 := h2.more (a.sv, a.bk) 1 a.ln (by decide) k
    refine ⟨h5.1, ?_⟩
    rw [← h5.2, tIns_find h1, mfind_put]
    rfl
  · have h3 : toN (l ++ [a]) = toN l := by funext k; simp [toN, qT, e]
    have h4 : toB (l ++ [a]) = toB l := by funext k; simp [toB, qT, e]
    rw [if_neg e, h3, h4]
    exact ⟨h1, h2⟩
theorem talL_from : ∀ (l l0 : List An) (o : LT), srtT o → Ct o (toN l0) (toB l0) → srtT (l.foldl (fun o a => if a.why = 1 then tIns (a.sv, a.bk) a.ln o else o) o) ∧ Ct (l.foldl (fun o a => if a.why = 1 then tIns (a.sv, a.bk) a.ln o else o) o) (toN (l0 ++ l)) (toB (l0 ++ l))
  | [], l0, o, h1, h2 => by rw [List.append_nil]; exact ⟨h1, h2⟩
  | a :: l, l0, o, h1, h2 => by
    obtain ⟨h3, h4⟩ := talL_step (a := a) h1 h2
    have := talL_from l (l0 ++ [a]) _ h3 h4
    rw [List.append_assoc] at this
    exact this
theorem talL_ok (l : List An) : srtT (talL l) ∧ Ct (talL l) (toN l) (toB l) := by
  have := talL_from l [] [] .nil (fun k => ⟨fun _ => rfl, rfl⟩)
  exact this
theorem srtT_nodup {T : LT} (h : srtT T) : (T.map (·.1)).Nodup := by
  unfold List.Nodup
  rw [List.pairwise_map]
  exact h.imp fun {x y} hxy e => by rw [e, ltP_iff] at hxy; omega
theorem mem_find {T : LT} (hn : (T.map (·.1)).Nodup) {x : (Int × Int) × (Int × Int)} : x ∈ T ↔ mfind T x.1 = some x.2 := by
  constructor
  · intro h
    obtain ⟨j, hj⟩ := List.getElem?_of_mem h
    exact (mfind_some hn hj rfl).1
  · intro h
    exact mfind_mem h
/-- A sorted permutation of a report's tallies is the document's. -/
theorem tal_sorted {l : List An} {T S : LT} (h : Ct T (toN l) (toB l)) (hn : (T.map (·.1)).Nodup) (hp : S.Perm T) (hs : S.Pairwise fun x y => ltP y.1 x.1 = false) : S = talL l := by
  have hnS : (S.map (·.1)).Nodup := ((hp.map _).nodup_iff).2 hn
  obtain ⟨h1, h2⟩ := talL_ok l
  have hsS : srtT S := by
    unfold List.Nodup at hnS
    rw [List.pairwise_map] at hnS
    refine (hs.and hnS).imp fun {x y} ⟨h3, h4⟩ => ?_
    cases h5 : ltP x.1 y.1
    · exact absurd (ltP_eq h5 h3) h4
    · rfl
  refine strict_uniq (r := fun x y : (Int × Int) × (Int × Int) => ltP x.1 y.1 = true) (fun a b h1 h2 => by rw [ltP_iff] at h1 h2; omega) (fun a h => by rw [ltP_iff] at h; omega) (fun x => ?_) hsS h1
  rw [hp.mem_iff, mem_find hn, mem_find (srtT_nodup h1), (h x.1).2, (h2 x.1).2]
/-! ### The text -/
def spc (n : Int) : List UInt8 := 32 :: Lib.itoa n
def nameL (k : Int) : List UInt8 := if k = 1 then [115, 101, 110, 116] else if k = 2 then [114, 101, 112, 108, 121] else if k = 3 then [98, 97, 100] else if k = 4 then [117, 110, 107, 110, 111, 119, 110] else if k = 5 then [110, 111, 119, 104, 101, 114, 101] else if k = 6 then [102, 117, 108, 108] else [116, 97, 107, 101, 110]
def lineW (l : List An) (k : Int) : List UInt8 := nameL k ++ spc (whyN l k) ++ [10]
def lineE (l : List An) (e : Int) : List UInt8 := [101, 114, 114, 111, 114] ++ spc e ++ spc (errN l e) ++ [10]
def lineT (x : (Int × Int) × (Int × Int)) : List UInt8 := [116, 111] ++ spc x.1.1 ++ spc x.1.2 ++ spc x.2.1 ++ spc x.2.2 ++ [10]
def lineP (l : List An) : List UInt8 := [112, 97, 99, 107, 101, 116, 115] ++ spc (l.countP cntA : Int) ++ [10]
def txtL (l : List An) : List UInt8 := lineP l ++ ((whysL l).map (lineW l)).flatten ++ ((errsL l).map (lineE l)).flatten ++ ((talL l).map lineT).flatten
end Go.Proofs.YtagedgcdonodfaaDoor
/- The contracts of Go library functions, laid at this program (written by a tool). -/
namespace Go.Proofs
open Go.Shelf
def Tryd.sortedA_ren : Go.Shelf.Ren := ⟨fun | 6 => 44 | 8 => 53 | 9 => 54 | 11 => 70 | 13 => 48 | 12 => 71 | 23 => 66 | 24 => 67 | 14 => 82 | 15 => 83 | 16 => 84 | 17 => 85 | 18 => 86 | 19 => 87 | 20 => 88 | 21 => 89 | 22 => 90 | 25 => 98 | 26 => 74 | 27 => 75 | 28 => 99 | 29 => 100 | 30 => 49 | 31 => 103 | n => n, fun | 26 => 3 | 28 => 90 | 24 => 72 | 0 => 0 | 3 => 3 | 37 => 96 | 48 => 113 | 50 => 99 | 4 => 4 | 40 => 106 | 39 => 105 | 45 => 110 | 5 => 5 | 9 => 9 | 51 => 125 | 55 => 129 | 57 => 152 | 58 => 153 | 33 => 97 | n => n, fun | n => n⟩
theorem Tryd.sortedA : Go.Proofs.SlLaysZI.n6 Tryd.prog Tryd.sortedA_ren := {
  mixed := by kernel_rfl
  f6 := ⟨Tryd.f44.name, by decide, Tryd.func44.trans (congrArg some (by kernel_rfl))⟩
  f8 := ⟨Tryd.f53.name, by decide, Tryd.func53.trans (congrArg some (by kernel_rfl))⟩
  f11 := ⟨Tryd.f70.name, by decide, Tryd.func70.trans (congrArg some (by kernel_rfl))⟩
  t0 := Tryd.underlying0
  a0 := Tryd.isAgg0
  z0 := Tryd.sizeOf0
  v0 := Tryd.zeroValue0
  t24 := Tryd.underlying72
  a24 := Tryd.isAgg72
  z24 := Tryd.sizeOf72
  v24 := Tryd.zeroValue72
  t26 := Tryd.underlying3
  a26 := Tryd.isAgg3
  z26 := Tryd.sizeOf3
  v26 := Tryd.zeroValue3
  t28 := Tryd.underlying90
  a28 := Tryd.isAgg90
  z28 := Tryd.sizeOf90
  v28 := Tryd.zeroValue90
  i26 := by kernel_rfl }
def Tryd.keysA_ren : Go.Shelf.Ren := ⟨fun | 7 => 45 | 10 => 55 | n => n, fun | 23 => 48 | 26 => 3 | 3 => 3 | 28 => 90 | 0 => 0 | 27 => 89 | 33 => 97 | 4 => 4 | n => n, fun | n => n⟩
theorem Tryd.keysA : Go.Proofs.SlLaysZI.n7 Tryd.prog Tryd.keysA_ren := {
  mixed := by kernel_rfl
  f7 := ⟨Tryd.f45.name, by decide, Tryd.func45.trans (congrArg some (by kernel_rfl))⟩
  f10 := ⟨Tryd.f55.name, by decide, Tryd.func55.trans (congrArg some (by kernel_rfl))⟩
  t0 := Tryd.underlying0
  a0 := Tryd.isAgg0
  z0 := Tryd.sizeOf0
  v0 := Tryd.zeroValue0
  t4 := Tryd.underlying4
  a4 := Tryd.isAgg4
  z4 := Tryd.sizeOf4
  v4 := Tryd.zeroValue4
  t23 := Tryd.underlying48
  a23 := Tryd.isAgg48
  z23 := Tryd.sizeOf48
  v23 := Tryd.zeroValue48
  t26 := Tryd.underlying3
  a26 := Tryd.isAgg3
  z26 := Tryd.sizeOf3
  v26 := Tryd.zeroValue3
  t27 := Tryd.underlying89
  a27 := Tryd.isAgg89
  z27 := Tryd.sizeOf89
  v27 := Tryd.zeroValue89
  t28 := Tryd.underlying90
  a28 := Tryd.isAgg90
  z28 := Tryd.sizeOf90
  v28 := Tryd.zeroValue90
  t33 := Tryd.underlying97
  a33 := Tryd.isAgg97
  z33 := Tryd.sizeOf97
  v33 := Tryd.zeroValue97 }
def Tryd.cloneC_ren : Go.Shelf.Ren := ⟨fun | 5 => 29 | 7 => 41 | n => n, fun | 23 => 49 | 25 => 3 | 3 => 3 | 4 => 4 | 20 => 20 | n => n, fun | n => n⟩
theorem Tryd.cloneC : Go.Proofs.SlLaysW.n5 Tryd.prog Tryd.cloneC_ren := {
  mixed := by kernel_rfl
  f5 := ⟨Tryd.f29.name, by decide, Tryd.func29.trans (congrArg some (by kernel_rfl))⟩
  f7 := Tryd.func41.trans (congrArg some (by kernel_rfl))
  t4 := Tryd.underlying4
  a4 := Tryd.isAgg4
  z4 := Tryd.sizeOf4
  v4 := Tryd.zeroValue4
  t20 := Tryd.underlying20
  a20 := Tryd.isAgg20
  z20 := Tryd.sizeOf20
  v20 := Tryd.zeroValue20
  t23 := Tryd.underlying49
  a23 := Tryd.isAgg49
  z23 := Tryd.sizeOf49
  v23 := Tryd.zeroValue49 }
def Tryd.cloneP_ren : Go.Shelf.Ren := ⟨fun | 5 => 30 | 7 => 41 | n => n, fun | 23 => 50 | 25 => 56 | 3 => 58 | 4 => 4 | 20 => 20 | n => n, fun | n => n⟩
theorem Tryd.cloneP : Go.Proofs.SlLaysW.n5 Tryd.prog Tryd.cloneP_ren := {
  mixed := by kernel_rfl
  f5 := ⟨Tryd.f30.name, by decide, Tryd.func30.trans (congrArg some (by kernel_rfl))⟩
  f7 := Tryd.func41.trans (congrArg some (by kernel_rfl))
  t4 := Tryd.underlying4
  a4 := Tryd.isAgg4
  z4 := Tryd.sizeOf4
  v4 := Tryd.zeroValue4
  t20 := Tryd.underlying20
  a20 := Tryd.isAgg20
  z20 := Tryd.sizeOf20
  v20 := Tryd.zeroValue20
  t23 := Tryd.underlying50
  a23 := Tryd.isAgg50
  z23 := Tryd.sizeOf50
  v23 := Tryd.zeroValue50 }
def Tryd.itoaM_ren : Go.Shelf.Ren := ⟨fun | 171 => 43 | 243 => 52 | 246 => 69 | 283 => 78 | 284 => 79 | 285 => 80 | 286 => 81 | 129 => 67 | 317 => 94 | 318 => 95 | 319 => 96 | 320 => 97 | 337 => 101 | 338 => 102 | n => n, fun | 3 => 3 | 9 => 9 | 2 => 2 | 4 => 4 | 171 => 131 | 0 => 0 | 53 => 99 | 37 => 37 | 5 => 5 | 173 => 133 | 212 => 156 | 51 => 113 | 20 => 20 | 213 => 157 | 46 => 96 | 232 => 163 | 233 => 164 | n => n, fun | 17 => 2 | 18 => 3 | 19 => 4 | n => n⟩
theorem Tryd.itoaM : Go.Proofs.LaysM.n171 Tryd.prog Tryd.itoaM_ren := {
  mixed := by kernel_rfl
  f129 := Tryd.func67.trans (congrArg some (by kernel_rfl))
  f171 := Tryd.func43.trans (congrArg some (by kernel_rfl))
  f243 := Tryd.func52.trans (congrArg some (by kernel_rfl))
  f246 := Tryd.func69.trans (congrArg some (by kernel_rfl))
  f283 := Tryd.func78.trans (congrArg some (by kernel_rfl))
  f284 := Tryd.func79.trans (congrArg some (by kernel_rfl))
  f285 := Tryd.func80.trans (congrArg some (by kernel_rfl))
  f286 := Tryd.func81.trans (congrArg some (by kernel_rfl))
  f317 := Tryd.func94.trans (congrArg some (by kernel_rfl))
  f318 := Tryd.func95.trans (congrArg some (by kernel_rfl))
  f319 := Tryd.func96.trans (congrArg some (by kernel_rfl))
  f320 := Tryd.func97.trans (congrArg some (by kernel_rfl))
  f337 := Tryd.func101.trans (congrArg some (by kernel_rfl))
  f338 := Tryd.func102.trans (congrArg some (by kernel_rfl))
  t0 := Tryd.underlying0
  a0 := Tryd.isAgg0
  z0 := Tryd.sizeOf0
  v0 := Tryd.zeroValue0
  t2 := Tryd.underlying2
  a2 := Tryd.isAgg2
  z2 := Tryd.sizeOf2
  v2 := Tryd.zeroValue2
  t3 := Tryd.underlying3
  a3 := Tryd.isAgg3
  z3 := Tryd.sizeOf3
  v3 := Tryd.zeroValue3
  t4 := Tryd.underlying4
  a4 := Tryd.isAgg4
  z4 := Tryd.sizeOf4
  v4 := Tryd.zeroValue4
  t5 := Tryd.underlying5
  a5 := Tryd.isAgg5
  z5 := Tryd.sizeOf5
  v5 := Tryd.zeroValue5
  t9 := Tryd.underlying9
  a9 := Tryd.isAgg9
  z9 := Tryd.sizeOf9
  v9 := Tryd.zeroValue9
  t20 := Tryd.underlying20
  a20 := Tryd.isAgg20
  z20 := Tryd.sizeOf20
  v20 := Tryd.zeroValue20
  t37 := Tryd.underlying37
  a37 := Tryd.isAgg37
  z37 := Tryd.sizeOf37
  v37 := Tryd.zeroValue37
  t46 := Tryd.underlying96
  a46 := Tryd.isAgg96
  z46 := Tryd.sizeOf96
  v46 := Tryd.zeroValue96
  t51 := Tryd.underlying113
  a51 := Tryd.isAgg113
  z51 := Tryd.sizeOf113
  v51 := Tryd.zeroValue113
  t53 := Tryd.underlying99
  a53 := Tryd.isAgg99
  z53 := Tryd.sizeOf99
  v53 := Tryd.zeroValue99
  t171 := Tryd.underlying131
  a171 := Tryd.isAgg131
  z171 := Tryd.sizeOf131
  v171 := Tryd.zeroValue131
  t173 := Tryd.underlying133
  a173 := Tryd.isAgg133
  z173 := Tryd.sizeOf133
  v173 := Tryd.zeroValue133
  t212 := Tryd.underlying156
  a212 := Tryd.isAgg156
  z212 := Tryd.sizeOf156
  v212 := Tryd.zeroValue156
  t213 := Tryd.underlying157
  a213 := Tryd.isAgg157
  z213 := Tryd.sizeOf157
  t232 := Tryd.underlying163
  a232 := Tryd.isAgg163
  z232 := Tryd.sizeOf163
  v232 := Tryd.zeroValue163
  t233 := Tryd.underlying164
  a233 := Tryd.isAgg164
  z233 := Tryd.sizeOf164
  v233 := Tryd.zeroValue164
  g17 := by kernel_rfl
  g18 := by kernel_rfl
  g19 := by kernel_rfl
  i0 := by kernel_rfl
  i2 := by kernel_rfl
  i3 := by kernel_rfl
  i4 := by kernel_rfl
  i5 := by kernel_rfl
  i9 := by kernel_rfl
  i20 := by kernel_rfl
  i37 := by kernel_rfl
  i46 := by kernel_rfl
  i51 := by kernel_rfl
  i53 := by kernel_rfl
  i171 := by kernel_rfl
  i173 := by kernel_rfl
  i212 := by kernel_rfl
  i232 := by kernel_rfl
  i233 := by kernel_rfl
  m17 := by kernel_rfl
  m18 := by kernel_rfl
  m19 := by kernel_rfl }
def Tryd.cmpI_ren : Go.Shelf.Ren := ⟨fun | 122 => 38 | 215 => 49 | n => n, fun | 3 => 3 | 4 => 4 | n => n, fun | n => n⟩
theorem Tryd.cmpI : Go.Proofs.Lays.n122 Tryd.prog Tryd.cmpI_ren := {
  mixed := by kernel_rfl
  f122 := Tryd.func38.trans (congrArg some (by kernel_rfl))
  f215 := Tryd.func49.trans (congrArg some (by kernel_rfl))
  t3 := Tryd.underlying3
  a3 := Tryd.isAgg3
  z3 := Tryd.sizeOf3
  v3 := Tryd.zeroValue3
  t4 := Tryd.underlying4
  a4 := Tryd.isAgg4
  z4 := Tryd.sizeOf4
  v4 := Tryd.zeroValue4 }
def Tryd.fieldsM_ren : Go.Shelf.Ren := ⟨fun | 157 => 46 | 229 => 56 | 199 => 57 | 261 => 72 | 311 => 91 | 312 => 92 | n => n, fun | 9 => 9 | 31 => 74 | 3 => 3 | 5 => 5 | 4 => 4 | 119 => 101 | 0 => 0 | 40 => 103 | 152 => 120 | 21 => 21 | 154 => 122 | 51 => 113 | 141 => 124 | 196 => 144 | 193 => 141 | 198 => 147 | 49 => 145 | 194 => 142 | 201 => 150 | 226 => 160 | 46 => 96 | 227 => 161 | n => n, fun | 0 => 0 | 6 => 1 | n => n⟩
theorem Tryd.fieldsM : Go.Proofs.LaysM.n157 Tryd.prog Tryd.fieldsM_ren := {
  mixed := by kernel_rfl
  f157 := Tryd.func46.trans (congrArg some (by kernel_rfl))
  f199 := Tryd.func57.trans (congrArg some (by kernel_rfl))
  f229 := Tryd.func56.trans (congrArg some (by kernel_rfl))
  f261 := Tryd.func72.trans (congrArg some (by kernel_rfl))
  f311 := Tryd.func91.trans (congrArg some (by kernel_rfl))
  f312 := Tryd.func92.trans (congrArg some (by kernel_rfl))
  t0 := Tryd.underlying0
  a0 := Tryd.isAgg0
  z0 := Tryd.sizeOf0
  v0 := Tryd.zeroValue0
  t3 := Tryd.underlying3
  a3 := Tryd.isAgg3
  z3 := Tryd.sizeOf3
  v3 := Tryd.zeroValue3
  t4 := Tryd.underlying4
  a4 := Tryd.isAgg4
  z4 := Tryd.sizeOf4
  v4 := Tryd.zeroValue4
  t5 := Tryd.underlying5
  a5 := Tryd.isAgg5
  z5 := Tryd.sizeOf5
  v5 := Tryd.zeroValue5
  t9 := Tryd.underlying9
  a9 := Tryd.isAgg9
  z9 := Tryd.sizeOf9
  v9 := Tryd.zeroValue9
  t21 := Tryd.underlying21
  a21 := Tryd.isAgg21
  z21 := Tryd.sizeOf21
  v21 := Tryd.zeroValue21
  t31 := Tryd.underlying74
  a31 := Tryd.isAgg74
  z31 := Tryd.sizeOf74
  v31 := Tryd.zeroValue74
  t40 := Tryd.underlying103
  a40 := Tryd.isAgg103
  z40 := Tryd.sizeOf103
  v40 := Tryd.zeroValue103
  t46 := Tryd.underlying96
  a46 := Tryd.isAgg96
  z46 := Tryd.sizeOf96
  v46 := Tryd.zeroValue96
  t49 := Tryd.underlying145
  a49 := Tryd.isAgg145
  z49 := Tryd.sizeOf145
  v49 := Tryd.zeroValue145
  t51 := Tryd.underlying113
  a51 := Tryd.isAgg113
  z51 := Tryd.sizeOf113
  v51 := Tryd.zeroValue113
  t119 := Tryd.underlying101
  a119 := Tryd.isAgg101
  z119 := Tryd.sizeOf101
  t141 := Tryd.underlying124
  a141 := Tryd.isAgg124
  z141 := Tryd.sizeOf124
  v141 := Tryd.zeroValue124
  t152 := Tryd.underlying120
  a152 := Tryd.isAgg120
  z152 := Tryd.sizeOf120
  v152 := Tryd.zeroValue120
  t154 := Tryd.underlying122
  a154 := Tryd.isAgg122
  z154 := Tryd.sizeOf122
  v154 := Tryd.zeroValue122
  t193 := Tryd.underlying141
  a193 := Tryd.isAgg141
  z193 := Tryd.sizeOf141
  v193 := Tryd.zeroValue141
  t194 := Tryd.underlying142
  a194 := Tryd.isAgg142
  z194 := Tryd.sizeOf142
  v194 := Tryd.zeroValue142
  t196 := Tryd.underlying144
  a196 := Tryd.isAgg144
  z196 := Tryd.sizeOf144
  v196 := Tryd.zeroValue144
  t198 := Tryd.underlying147
  a198 := Tryd.isAgg147
  z198 := Tryd.sizeOf147
  v198 := Tryd.zeroValue147
  t201 := Tryd.underlying150
  a201 := Tryd.isAgg150
  z201 := Tryd.sizeOf150
  v201 := Tryd.zeroValue150
  t226 := Tryd.underlying160
  a226 := Tryd.isAgg160
  z226 := Tryd.sizeOf160
  v226 := Tryd.zeroValue160
  t227 := Tryd.underlying161
  a227 := Tryd.isAgg161
  z227 := Tryd.sizeOf161
  v227 := Tryd.zeroValue161
  g0 := by kernel_rfl
  g6 := by kernel_rfl
  i0 := by kernel_rfl
  i3 := by kernel_rfl
  i4 := by kernel_rfl
  i5 := by kernel_rfl
  i9 := by kernel_rfl
  i21 := by kernel_rfl
  i31 := by kernel_rfl
  i40 := by kernel_rfl
  i46 := by kernel_rfl
  i49 := by kernel_rfl
  i51 := by kernel_rfl
  i141 := by kernel_rfl
  i152 := by kernel_rfl
  i154 := by kernel_rfl
  i193 := by kernel_rfl
  i194 := by kernel_rfl
  i196 := by kernel_rfl
  i198 := by kernel_rfl
  i201 := by kernel_rfl
  i226 := by kernel_rfl
  i227 := by kernel_rfl
  m0 := by kernel_rfl
  m6 := by kernel_rfl }
end Go.Proofs
/- Report: strings, a builder, tables that are laid, maps that are cloned: rules. -/
namespace Go.Proofs.YtagedgcdonodfaaDoor
open Go.RowKit
set_option linter.unusedSimpArgs false
set_option linter.unusedVariables false
set_option linter.unusedSectionVars false
/-- A string of bytes. -/
def sV (l : List UInt8) : Value := .string ⟨l.toArray⟩
theorem sV_size (l : List UInt8) : (⟨l.toArray⟩ : ByteArray).size = l.length := by simp [ByteArray.size]
theorem sV_app (a b : List UInt8) : (⟨a.toArray⟩ : ByteArray) ++ ⟨b.toArray⟩ = ⟨(a ++ b).toArray⟩ := by
  apply ByteArray.ext
  simp
theorem sV_list (l : List UInt8) : (⟨l.toArray⟩ : ByteArray).toList = l := by rw [ba_toList]
theorem BinR.sAdd {P : Program} {T : TypeId} {a b : List UInt8} (h : a.length + b.length ≤ 9223372036854775807) : BinR P .add T (sV a) (sV b) (sV (a ++ b)) := fun X Y w => by
  have h1 : ¬ IntKind.i64.max < ((a.length + b.length : Nat) : Int) := by
    show ¬ (9223372036854775807 : Int) < _
    omega
  unfold sV
  simp only [eqGuard, binOp, Op.stringOp, sV_size]
  rw [sV_app]
  have h2 : ¬ (9223372036854775807 : Int) < (a.length : Int) + (b.length : Int) := by omega
  simp [h1, h2, Sem.run_bind, go_sem, show IntKind.i64.max = 9223372036854775807 from rfl]
theorem BinR.sEql {P : Program} {T : TypeId} {a b : List UInt8} : BinR P .eql T (sV a) (sV b) (.bool (decide (a = b))) := by
  have := BinR.strE (P := P) (T := T) (a := ⟨a.toArray⟩) (b := ⟨b.toArray⟩)
  rw [sV_list, sV_list] at this
  rwa [show (a == b) = decide (a = b) by rw [Bool.eq_iff_iff]; simp] at this
theorem strCells_u8s (l : List UInt8) : Lib.strCells ⟨l.toArray⟩ = u8s l := by
  unfold Lib.strCells u8s
  simp
section
variable {P : Program} {n : Nat} {W : World} {S : Nat → Prop} {Γ : List Asn} {F : List (Nat × Value)} {Q : Exit → Act → World → Prop} {ops : Array Oper} {os : List Oper}
variable {d : Option Tmp} {ty : TypeId} {pos : String} {af : Array Edge} {gd : Option (Nat × Bool)}
theorem ReadR.lenStr {x : Operand} {T : TypeId} {l : List UInt8} (hT : P.underlying T = some .string) (hx : evF F x = some (sV l)) : ReadR P n Γ F ⟨d, .call { callee := .builtin .len, args := #[x], argTypes := #[T] }, ty, pos, af, gd⟩ (.int .i64 (l.length : Int)) := fun ρ w hf hw => by
  have := sV_size l
  unfold sV at hx
  simp only [execOp, resolve, invoke, builtin, Sem.run_bind, Sem.run_pure, Result.andThen_ok, List.map_toArray, List.map_cons, List.map_nil, hf.eval hx]
  simp [Builtin.len_, run_underlying hT, this, go_sem, Result.andThen]
/-- The length of a slice that is written out. -/
theorem ReadR.lenLit {x : Operand} {T e : TypeId} [hT : SliI P T e] {a : Option Addr} {m c : Nat} (hx : evF F x = some (.slice a m c)) : ReadR P n Γ F ⟨d, .call { callee := .builtin .len, args := #[x], argTypes := #[T] }, ty, pos, af, gd⟩ (.int .i64 (m : Int)) := fun ρ w hf hw => by
  simp only [execOp, resolve, invoke, builtin, Sem.run_bind, Sem.run_pure, Result.andThen_ok, List.map_toArray, List.map_cons, List.map_nil, hf.eval hx]
  simp [Builtin.len_, run_underlying hT.und, go_sem, Result.andThen]
theorem bx_shape {g : Nat} {T : TypeId} {cs : Ch} {w : World} (h : (bx g T cs).holds w) : w.shape? g = some (T, (flat cs).length) := by
  unfold World.shape?
  rw [h.1]
  simp
theorem ReadR.toUnsafe {T1 T2 t T : TypeId} {x : Operand} {g : Nat} {cs : Ch} (hs : P.underlying T1 = some (.pointer t)) (hd : P.underlying T2 = some .unsafePointer) (hz : ((P.info? t).map fun j => decide (j.size ≠ 0)) = some true) (hm : bx g T cs ∈ Γ) (hl : 0 < (flat cs).length) (hx : evF F x = some (.pointer (some ⟨g, 0, none⟩))) :
    ReadR P n Γ F ⟨d, .convert T1 T2 x, ty, pos, af, gd⟩ (.pointer (some ⟨g, 0, none⟩)) := fun ρ w hf hw => by
  obtain ⟨j, hj, hj0⟩ := Option.map_eq_some_iff.1 hz
  have := Lib.run_to_unsafe (P := P) w ⟨g, 0, none⟩ hs hd hj (by simpa using hj0) (bx_shape (hw _ hm)) hl
  simp [execOp, hf.eval hx, this]
theorem ReadR.ofUnsafe {T1 T2 u T : TypeId} {x : Operand} {g m : Nat} {cs : Ch} (hs : P.underlying T1 = some .unsafePointer) (hd : P.underlying T2 = some (.pointer u)) (hu : (P.info? u).isSome = true) (hm : bx g T cs ∈ Γ) (hn : (flat cs).length = m) (hlies : liesAt P P.depth T (m / P.cellsOf T) 0 u 1 = true) (hx : evF F x = some (.pointer (some ⟨g, 0, none⟩))) :
    ReadR P n Γ F ⟨d, .convert T1 T2 x, ty, pos, af, gd⟩ (.pointer (some ⟨g, 0, none⟩)) := fun ρ w hf hw => by
  obtain ⟨j, hj⟩ := Option.isSome_iff_exists.1 hu
  have := Lib.run_from_unsafe (P := P) w ⟨g, 0, none⟩ hs hd hj (bx_shape (hw _ hm)) (by rw [hn]; exact hlies)
  simp [execOp, hf.eval hx, this]
/-- A call of a function that the model stands in for. -/
theorem run_callE {d : Option Tmp} {f : FuncId} {xs : List Operand} {ts : Array TypeId} {a : Act} {w : World} :
    (execOp a.eval ⟨d, .call { callee := .value (.func f), args := xs.toArray, argTypes := ts }, ty, pos, af, gd⟩).run P w = (callFunc f (xs.map a.eval).toArray).run P w := by
  simp [execOp, resolve, invoke, Act.eval, Deferred.ofValue, Sem.run_bind, go_sem]
theorem ReadR.noEscape {f : FuncId} {fn : Func} {x : Operand} {ts : Array TypeId} {v : Value} (hf : P.funcs[f]? = some fn) (hname : (fn.name == "runtime.NumGoroutine") = false) (hb : fn.body.isNone = true) (hn : Extern.findNext fn = none) (he : Extern.find fn = some Extern.AbiNoEscape.same) (hx : evF F x = some v) :
    ReadR P n Γ F ⟨d, .call { callee := .value (.func f), args := #[x], argTypes := ts }, ty, pos, af, gd⟩ v := fun ρ w hff hw => by
  have h0 := run_callE (P := P) (d := d) (f := f) (xs := [x]) (ts := ts) (a := ρ) (w := w) (ty := ty) (pos := pos) (af := af) (gd := gd)
  refine h0.trans ?_
  have h1 : ([x].map ρ.eval).toArray = #[v] := by simp [hff.eval hx]
  rw [h1, run_callFunc_extern hf hname hb hn he, Lib.run_noEscape]
  rfl
/-- A string's bytes behind bytes of one's own. -/
theorem OpT.appendS {T U : TypeId} {z : Value} {bytes : Nat} [hT : SliI P T 5] [he : EltI P 5 z bytes] (hz8 : z = .int .u8 0) (hb1 : bytes = 1) (hU : P.underlying U = some .string) {s x : Operand} {v : Value} {l l2 : List UInt8} {Γf : List Asn} (hs : evF F s = some v) (hx : evF F x = some (sV l2)) (hp : Takes Γ [ob v l] Γf) (h63 : l.length + l2.length ≤ 1099511627776) :
    OpT P n Γ F ⟨d, .call { callee := .builtin .append, args := #[s, x], argTypes := #[T, U] }, ty, pos, af, gd⟩ [ob v l] (RRow 5 1 (l ++ l2).length (u8s (l ++ l2))) := fun ρ w hf hw _ => by
  rw [u8s_append, List.length_append]
  have hb : (ob v l).holds w := hw _ (hp.mem_iff.2 (List.mem_cons_self ..))
  obtain ⟨i0, hi, hz0, hz1, hz2⟩ := info_parts he.info
  subst hz8 hb1
  have hxl : (u8s l).length = l.length := u8s_length l
  have hsl : (Lib.strCells ⟨l2.toArray⟩).length = l2.length := by rw [strCells_u8s, u8s_length]
  have hcl : (u8s l ++ Lib.strCells ⟨l2.toArray⟩).length = (l.length + l2.length) * 1 := by rw [List.length_append, hxl, hsl, Nat.mul_one]
  have grown : ∀ (old : Nat), old < l.length + l2.length → ∀ (row : Option Nat),
      (w.drew.alloc (.cells ((u8s l).toArray ++ (Lib.strCells ⟨l2.toArray⟩).toArray ++ Builtin.zeroCells (Value.int .u8 0).cells (grownCap w (l.length + l2.length) old 5 - (l.length + l2.length))) 5)).ownsRow 0 5 1
        (.slice (some ⟨w.heap.size, 0, none⟩) (l.length + l2.length) (grownCap w (l.length + l2.length) old 5)) (l.length + l2.length) (u8s l ++ Lib.strCells ⟨l2.toArray⟩) ∧
      w.grownBy (w.drew.alloc (.cells ((u8s l).toArray ++ (Lib.strCells ⟨l2.toArray⟩).toArray ++ Builtin.zeroCells (Value.int .u8 0).cells (grownCap w (l.length + l2.length) old 5 - (l.length + l2.length))) 5)) row := by
    intro old ho row
    have hge := grownCap_ge w (l.length + l2.length) old 5
    have hcm : grownCap w (l.length + l2.length) old 5 ≤ maxLen := grownCap_le_maxLen w (l.length + l2.length) old 5 (by unfold maxLen; omega)
    refine ⟨⟨hcl, .inr ⟨w.heap.size, _, _, rfl, Nat.zero_le _, heap_alloc_new w.drew _, hge, hcm, ?_, ?_⟩⟩, ⟨rfl, rfl, rfl, by simp, fun k hk _ => Lib.alloc_old w.drew _ k hk⟩⟩
    · have hz1' : (Value.int IntKind.u8 0).cells.size = 1 := rfl
      simp only [Array.size_append, List.size_toArray, size_zeroCells, hz1', hxl, hsl]
      omega
    · simp only [Array.toList_append, List.append_assoc]
      rw [← List.append_assoc, ← hcl]
      exact List.take_left
  have key : ∃ v' w', (Builtin.append_ #[T, U] ty #[v, sV l2]).run P w = .ok v' w' ∧ w'.ownsRow 0 5 1 v' (l.length + l2.length) (u8s l ++ u8s l2) ∧ w.grownBy w' v.ownBlock ∧ (v'.ownBlock = v.ownBlock ∨ ∀ g, v'.ownBlock = some g → w.heap.size ≤ g) := by
    rw [← strCells_u8s l2]
    have hss := sV_size l2
    rcases hb.2 with ⟨rfl, hl0⟩ | ⟨g, cap, cur, rfl, hbg, hg, hnc, hcm, hcs, htake⟩
    · have hx : l = [] := List.length_eq_zero_iff.1 hl0
      subst hx
      by_cases hm : l2.length = 0
      · have hl2 : l2 = [] := List.length_eq_zero_iff.1 hm
        subst hl2
        have hf := Lib.run_firstCells_string (P := P) w 1 ⟨([] : List UInt8).toArray⟩
        rw [hss] at hf
        refine ⟨.slice none 0 0, w, ?_, World.ownsRow_nil w 0 5 1, ⟨rfl, rfl, rfl, Nat.le_refl _, fun _ _ _ => rfl⟩, .inl rfl⟩
        unfold sV
        have hf0 : (Builtin.firstCells 1 0 (Value.string { data := #[] })).run P w = .ok (Lib.strCells { data := #[] }).toArray w := hf
        simp [Builtin.append_, run_underlying hT.und, run_underlying hU, sizeOf, typeInfo, hi, hz1, Builtin.lenOf, hss, hf0]
      · have hr := run_append_nil_string (P := P) w T U ty 5 i0 (.int .u8 0) hT.und hU hi hz0 ⟨l2.toArray⟩ (by omega) (by rw [hss]; omega) (by rw [hz2, hss]; omega)
        rw [hss] at hr
        have hgr := grown 0 (by simp only [List.length_nil]; omega) (Value.ownBlock (.slice none 0 0))
        have e1 : ((⟨l2.toArray⟩ : ByteArray).data.map fun b => Value.int .u8 b.toNat) = (Lib.strCells ⟨l2.toArray⟩).toArray := by
          apply Array.ext'
          simp [Lib.strCells]
        rw [e1] at hr
        have e2 : u8s [] = [] := rfl
        simp only [e2, List.length_nil, Nat.zero_add, List.nil_append, Array.empty_append] at hgr ⊢
        exact ⟨_, _, hr, hgr.1, hgr.2, .inr fun g hg => by cases hg; exact Nat.le_refl _⟩
    · by_cases hroom : l.length + l2.length ≤ cap
      · have hcs' : cur.size = cap := by simpa using hcs
        have hr := Lib.run_append_room_string (P := P) w T U ty 5 i0 hT.und hU hi hz1 g l.length cap cur hg ⟨l2.toArray⟩ (by rw [hss]; omega) (by rw [hss]; omega)
        rw [hss] at hr
        refine ⟨_, _, hr, ⟨hcl, .inr ⟨g, cap, _, rfl, hbg, setRow_heap w g cur _ 5 _ hg, hroom, hcm, ?_, ?_⟩⟩, ⟨rfl, rfl, rfl, by simp, fun k _ hk => setRow_other w g k _ (fun e => hk (by simp [Value.ownBlock, e]))⟩, .inl rfl⟩
        · simp only [List.size_toArray, List.length_append, List.length_take, List.length_drop, Array.length_toList, hsl]
          omega
        · have ht' : cur.toList.take l.length = u8s l := by simpa using htake
          rw [ht', ← hcl]
          exact List.take_left
      · have holds : ∀ j u, (u8s l)[j]? = some u → w.cell? ((⟨g, 0, none⟩ : Addr).add j) = some u := World.ownsRow.cells (g := g) hb rfl
        have hr := Lib.run_append_grow_string (P := P) w T U ty 5 i0 (.int .u8 0) hT.und hU hi hz0 ⟨g, 0, none⟩ l.length cap (u8s l) (by rw [hz1]; omega) holds ⟨l2.toArray⟩ (by rw [hss]; omega) (by rw [hss]; omega) (by rw [hz2, hss]; exact growslice_fits (by omega) (by omega))
        rw [hss] at hr
        have hgr := grown cap (by omega) (Value.ownBlock (.slice (some ⟨g, 0, none⟩) l.length cap))
        exact ⟨_, _, hr, hgr.1, hgr.2, .inr fun g' hg' => by cases hg'; exact Nat.le_refl _⟩
  obtain ⟨v', w', hrun, h3, h4, h5⟩ := key
  have : (execOp ρ.eval ⟨d, .call { callee := .builtin .append, args := #[s, x], argTypes := #[T, U] }, ty, pos, af, gd⟩).run P w = .ok (.value v') w' := by
    simp only [execOp, resolve, invoke, builtin, Sem.run_bind, Sem.run_pure, Result.andThen_ok, List.map_toArray, List.map_cons, List.map_nil, hf.eval hs, hf.eval hx, hrun]
  unfold DoesW
  rw [this]
  have hone : v'.oneCell' = true := by
    rcases h3.2 with ⟨rfl, _⟩ | ⟨g, c, cu, rfl, _⟩ <;> rfl
  refine ⟨_, ⟨hone, rfl⟩, .one ⟨h4.os, h4.tape, h4.output, h4.size, h4.size, fun g hg hn => h4.block g hg fun hh => hn ⟨_, List.mem_singleton.2 rfl, rfl, hh.symm⟩⟩ h3 fun g hg => ?_⟩
  rcases h5 with h5 | h5
  · exact .inr ⟨_, List.mem_singleton.2 rfl, rfl, h5.symm.trans hg⟩
  · exact .inl (h5 g hg)
theorem WPl.appS {T U : TypeId} {z : Value} {bytes : Nat} [hT : SliI P T 5] [he : EltI P 5 z bytes] {s x : Operand} {v : Value} {l l2 : List UInt8} {Γf : List Asn} {d : Tmp} (k : ∀ v, v.oneCell' = true → WPl P n W S (ob v (l ++ l2) :: Γf) ((d, v) :: F) ops os Q) (h63 : l.length + l2.length ≤ 1099511627776) (hU : P.underlying U = some .string) (hz8 : z = .int .u8 0 := by rfl) (hb1 : bytes = 1 := by rfl)
    (hlt : Nat.blt d n = true := by first | rfl | fail) (hw : wantG F ops gd = some true := by first | rfl | fail) (hs : evF F s = some v := by first | rfl | fail) (hx : evF F x = some (sV l2) := by first | rfl | fail) (hp : Take Γ (ob v l) Γf := by first | exact takeA | fail) :
    WPl P n W S Γ F ops (⟨some d, .call { callee := .builtin .append, args := #[s, x], argTypes := #[T, U] }, ty, pos, af, gd⟩ :: os) Q :=
  WPl.row (.cons hp .nil) rfl hlt hw (OpT.appendS hz8 hb1 hU hs hx (.cons hp .nil) h63) k
theorem BinR.ptrSame {T : TypeId} {te : TypeId} {a : Addr} (hp : P.underlying T = some (.pointer te)) (hte : (P.info? te).isSome = true) : BinR P .neq T (.pointer (some a)) (.pointer (some a)) (.bool false) := fun X Y w => by
  obtain ⟨j, hj⟩ := Option.isSome_iff_exists.1 hte
  simp [eqGuard, Lib.run_neq_ptr_same w a hp hj]
/-- unsafe.SliceData of bytes of one's own. -/
theorem ReadR.sliceData {ts : Array TypeId} {x : Operand} {v : Value} {l : List UInt8} (h0 : l ≠ []) (hx : evF F x = some v) (hm : ob v l ∈ Γ) :
    ReadR P n Γ F ⟨d, .call { callee := .builtin .unsafeSliceData, args := #[x], argTypes := ts }, ty, pos, af, gd⟩ (.pointer (some (ela v 0))) := fun ρ w hf hw => by
  have hb : (ob v l).holds w := hw _ hm
  have hl : l.length ≠ 0 := by simpa using h0
  rcases hb.2 with ⟨rfl, hl0⟩ | ⟨g, cap, cur, rfl, hbg, hg, hnc, hcm, hcs, htake⟩
  · exact absurd hl0 hl
  · have := Lib.run_unsafeSliceData_row (P := P) w ts ty ⟨g, 0, none⟩ l.length cap (by omega)
    simp only [execOp, resolve, invoke, builtin, Sem.run_bind, Sem.run_pure, Result.andThen_ok, List.map_toArray, List.map_cons, List.map_nil, hf.eval hx, this]
    simp [ela, add_mk]
theorem mod_freeze {w : World} {g k : Nat} {T : Nat → Prop} (hg : T g) : Mod T w (w.freeze ⟨g, 0, none⟩ k) := by
  unfold World.freeze
  split
  · exact Mod.refl _ _
  · exact ⟨rfl, rfl, rfl, by simp, by simp, fun i hi hn => by
      have : g ≠ i := fun e => hn (e ▸ hg)
      simp [Array.getElem?_modify, this]⟩
/-- unsafe.String over bytes of one's own, which are given away. -/
theorem OpT.unsafeStr {pt it e : TypeId} (hpt : P.underlying pt = some (.pointer 5)) (hc : P.cellsOf 5 = 1) {x y : Operand} {v : Value} {l : List UInt8} {Γf : List Asn} (h0 : l ≠ []) (h63 : l.length ≤ 9223372036854775807) (hx : evF F x = some (.pointer (some (ela v 0)))) (hy : evF F y = some (.int .i64 (l.length : Int))) (hp : Takes Γ [ob v l] Γf) :
    OpT P n Γ F ⟨d, .call { callee := .builtin .unsafeString, args := #[x, y], argTypes := #[pt, it] }, ty, pos, af, gd⟩ [ob v l] (RTurns (sV l) []) := fun ρ w hf hw _ => by
  have hb : (ob v l).holds w := hw _ (hp.mem_iff.2 (List.mem_cons_self ..))
  have hl : l.length ≠ 0 := by simpa using h0
  rcases hb.2 with ⟨rfl, hl0⟩ | ⟨g, cap, cur, rfl, hbg, hg, hnc, hcm, hcs, htake⟩
  · exact absurd hl0 hl
  · have hcell : ∀ j u, (u8s l)[j]? = some u → w.cell? ((⟨g, 0, none⟩ : Addr).add j) = some u := World.ownsRow.cells (g := g) hb rfl
    have hcur : l.length ≤ cur.size := by omega
    have hrun := Lib.run_unsafeString_row (P := P) w pt it ty 5 hpt hc g cur.size (by simp [World.shape?, hg]) l h0 hcur h63 fun j u hj => hcell j _ (by unfold u8s; rw [List.getElem?_map, hj]; rfl)
    have hx' : evF F x = some (.pointer (some ⟨g, 0, none⟩)) := by rw [hx]; simp [ela, add_mk]
    have : (execOp ρ.eval ⟨d, .call { callee := .builtin .unsafeString, args := #[x, y], argTypes := #[pt, it] }, ty, pos, af, gd⟩).run P w = .ok (.value (sV l)) (w.freeze ⟨g, 0, none⟩ l.length) := by
      simp only [execOp, resolve, invoke, builtin, Sem.run_bind, Sem.run_pure, Result.andThen_ok, List.map_toArray, List.map_cons, List.map_nil, hf.eval hx', hf.eval hy, hrun]
      rfl
    unfold DoesW
    rw [this]
    refine ⟨_, ⟨rfl, rfl⟩, Post.nil (mod_freeze ⟨_, List.mem_singleton.2 rfl, rfl, rfl⟩)⟩
/-! ### Tables that are laid -/
def tabA (P : Program) (name : String) (k : IntKind) (zs : List Int) : Asn where
  own := false
  fp := fun g => P.globalNamed name = some g
  holds := fun w => Lib.TabIs P w name k zs
  lt := fun w h g hg => by
    unfold Lib.TabIs World.var? at h
    rw [hg] at h
    simp only [Option.bind_some] at h
    split at h
    · rename_i hh; exact (Array.getElem?_eq_some_iff.1 hh).1
    · cases h
  loc := fun w w' h hl => by
    unfold Lib.TabIs World.var? at h ⊢
    cases hg : P.globalNamed name with
    | none => rw [hg] at h; cases h
    | some g =>
      rw [hg] at h
      simp only [Option.bind_some] at h ⊢
      rw [hl g hg]
      exact h
theorem Prov.tab {P' : Program} {name : String} {k : IntKind} {zs : List Int} (h : tabA P' name k zs ∈ Γ) : Prov Γ (tabA P' name k zs) := ⟨rfl, fun w hw => hw _ h⟩
end
/-- The powers of ten. -/
abbrev tP : Asn := tabA Tryd.prog "internal/strconv.uint64pow10" .u64 Lib.pow10Tab
/-- The blanks. -/
abbrev tS : Asn := tabA Tryd.prog "strings.asciiSpace" .u8 Lib.asciiSpaceTab
theorem provsR {Γ Δ : List Asn} (h : Provs Γ Δ := by ((repeat' (first | exact Provs.nil | apply Provs.cons | exact Prov.tab memA | exact Prov.bx memA | exact Prov.mp memA | exact Prov.rbx memA | exact Prov.rmp memA | exact provA | fail)) <;> fail)) : Provs Γ Δ := h
theorem mod_grow {T : Nat → Prop} {w : World} {k : Nat} {os : Array Obj} : Mod T w (Sort.grow (w.drewN k) os) :=
  ⟨rfl, rfl, rfl, by simp [Sort.grow, World.drewN], by simp [Sort.grow, World.drewN], fun g hg _ => by
    simp only [Sort.grow, World.drewN]
    rw [Array.getElem?_append_left hg]⟩
end Go.Proofs.YtagedgcdonodfaaDoor
/- Sorted by Go's library: slices.SortFunc at structs, slices.Sort at ints, in separation's words. -/
namespace Go.Proofs.YtagedgcdonodfaaDoor
open Go.RowKit Go.Sort Go.Lib Go.Shelf
set_option linter.unusedSimpArgs false
set_option linter.unusedVariables false
set_option linter.unusedSectionVars false

section
variable {α : Type} [Inhabited α] {enc : α → List Value} {k : Nat}
theorem flen (hk : ∀ x, (enc x).length = k) (l : List α) : (l.map enc).flatten.length = l.length * k := by
  induction l with
  | nil => simp
  | cons a l ih => rw [List.map_cons, List.flatten_cons, List.length_append, ih, hk, List.length_cons, Nat.succ_mul, Nat.add_comm]
theorem flat_get (hk : ∀ x, (enc x).length = k) : ∀ (l : List α) (t : Nat), t < l.length * k → (l.map enc).flatten[t]? = (enc l[t / k]!)[t % k]?
  | [], t, h => by simp at h
  | a :: l, t, h => by
    have k0 : 0 < k := by rcases Nat.eq_zero_or_pos k with h0 | h0; · subst h0; simp at h
                          · exact h0
    rw [List.map_cons, List.flatten_cons]
    by_cases ht : t < k
    · rw [List.getElem?_append_left (by rw [hk]; exact ht), Nat.div_eq_of_lt ht, Nat.mod_eq_of_lt ht]; rfl
    · obtain ⟨s, rfl⟩ : ∃ s, t = s + k := ⟨t - k, by omega⟩
      rw [List.getElem?_append_right (by rw [hk]; omega), hk, Nat.add_sub_cancel, flat_get hk l s (by rw [List.length_cons, Nat.succ_mul] at h; omega), Nat.add_div_right _ k0, Nat.add_mod_right]
      rfl
theorem flatK_eq (hk : ∀ x, (enc x).length = k) (l : List α) : Go.Sort.flatK enc k l.toArray = (l.map enc).flatten.toArray := by
  have hl : (l.map enc).flatten.length = l.length * k := flen hk l
  apply ext_get!
  · rw [size_flatK]; simp only [List.size_toArray]; exact hl.symm
  · intro t ht
    rw [size_flatK] at ht
    simp only [List.size_toArray] at ht
    rw [get_flatK enc k _ t (by simpa using ht)]
    have h1 := flat_get hk l t ht
    have h2 : (l.map enc).flatten.toArray[t]! = (l.map enc).flatten[t]! := by simp
    have k0 : 0 < k := by rcases Nat.eq_zero_or_pos k with h0 | h0; · subst h0; simp at ht
                          · exact h0
    have hm : t % k < (enc l[t / k]!).length := by rw [hk]; exact Nat.mod_lt _ k0
    rw [h2, show l.toArray[t / k]! = l[t / k]! by simp]
    generalize enc l[t / k]! = A at h1
    generalize (l.map enc).flatten = B at h1
    rw [List.getElem!_eq_getElem?_getD, List.getElem!_eq_getElem?_getD, h1]

/-- How a row of one's own lies, as the sort's laws ask it. -/
theorem row_holds {w : World} {g k : Nat} {cur : Array Value} {T : TypeId} {xs : List Value} (hb : w.heap[g]? = some (.cells cur T (0, 0))) (ht : cur.toList.take xs.length = xs) : Sort.Holds id w g 0 xs.toArray := by
  intro j hj
  have hj' : j < xs.length := by simpa using hj
  refine ⟨?_, by simp [World.frozen?, hb]⟩
  have h1 : (cur.toList.take xs.length)[j]? = xs[j]? := by rw [ht]
  rw [List.getElem?_take_of_lt hj'] at h1
  simp only [World.cell?, hb, Nat.zero_add]
  simp only [Option.isSome_none, Bool.false_eq_true, if_false]
  rw [← Array.getElem?_toList, h1]
  simp [hj']
theorem row_put {w : World} {g n : Nat} {os : Array Obj} {cur : Array Value} {T : TypeId} {k cap m : Nat} {ys : List Value} (hb : w.heap[g]? = some (.cells cur T (0, 0))) (h1 : m ≤ cap) (h2 : cap ≤ maxLen) (h3 : cur.size = cap * k) (hl : ys.length = m * k) (Q : Nat → Prop) (hQ : Q g) :
    (rowN T k (.slice (some ⟨g, 0, none⟩) m cap) m ys).holds (Sort.grow (putRow id (Sort.ahead w n) g 0 ys.toArray) os) ∧ Mod Q w (Sort.grow (putRow id (Sort.ahead w n) g 0 ys.toArray) os) := by
  have hg : g < w.heap.size := (Array.getElem?_eq_some_iff.1 hb).1
  have hle : m * k ≤ cap * k := Nat.mul_le_mul_right k h1
  constructor
  · refine ⟨hl, .inr ⟨g, cap, putCells id 0 ys.toArray cur, rfl, Nat.zero_le _, ?_, h1, h2, by simp [putCells, h3], ?_⟩⟩
    · rw [heap_grow_old _ _ (by simpa using hg)]
      simp [putRow, mapBlock, Sort.ahead, Array.getElem?_modify, hb, onCells]
    · apply List.ext_getElem?
      intro j
      by_cases hj : j < m * k
      · rw [List.getElem?_take_of_lt hj, Array.getElem?_toList]
        simp [putCells, hl, hj, show j < cur.size by omega, show j < ys.length by omega]
      · rw [List.getElem?_take_eq_none (by omega), List.getElem?_eq_none (by omega)]
  · refine ⟨rfl, rfl, rfl, by simp, by simp, fun j hj hn => ?_⟩
    rw [heap_grow_old _ _ (by simpa using hj)]
    have : g ≠ j := fun e => hn (e ▸ hQ)
    simp [putRow, mapBlock, Sort.ahead, Array.getElem?_modify, this]
end
section
variable {P : Program} {ρ : Ren} {α : Type} [Inhabited α]
theorem enters_isCode {g : FuncId} (hc : isCode P g = true) (args : Array Value) (w : World) : (callFunc g args).run P w = .ok (.enter g args) w := by
  unfold isCode at hc
  cases hf : P.funcs[g]? with
  | none => rw [hf] at hc; cases hc
  | some fn =>
    rw [hf] at hc
    simp only [Bool.and_eq_true, decide_eq_true_eq] at hc
    obtain ⟨h1, h2⟩ := hc
    obtain ⟨b, hb⟩ := Option.isSome_iff_exists.1 h2
    simp [callFunc, Sem.run_bind, hf, h1, hb, go_sem]
def intsV (l : List Int) : List Value := l.map (Value.int .i64)
end
end Go.Proofs.YtagedgcdonodfaaDoor
/- Sorted by Go's library at structs: which of equals comes first is left open. -/
namespace Go.Proofs.YtagedgcdonodfaaDoor
open Go.RowKit Go.Sort Go.Lib Go.Shelf
set_option linter.unusedSimpArgs false
set_option linter.unusedVariables false
section
variable {P : Program} {ρ : Ren} {α : Type} [Inhabited α]
theorem perm_of_in {d d' : Array α} (h : PermIn 0 d.size d d') : d'.toList.Perm d.toList := by
  obtain ⟨h1, _, h3⟩ := h
  have e1 : d'.extract 0 d.size = d' := by rw [← h1]; exact Array.extract_size
  have e2 : d.extract 0 d.size = d := Array.extract_size
  rw [e1, e2] at h3
  exact h3
theorem pair_of_in {lt : α → α → Bool} {d : Array α} (h : SortedIn lt 0 d.size d) : d.toList.Pairwise (fun a b => lt b a = false) := by
  rw [List.pairwise_iff_getElem]
  intro i j hi hj hij
  have hi' : i < d.size := by simpa using hi
  have hj' : j < d.size := by simpa using hj
  have := h i j (Nat.zero_le _) hij hj'
  rwa [getElem!_pos d i hi', getElem!_pos d j hj'] at this
def RSortP (T : TypeId) (k : Nat) (enc : α → List Value) (cf : α → α → Int) (v : Value) (l : List α) : Value → List Asn → Prop := fun r Γ => ∃ l' : List α, r = .tuple #[] ∧ Γ = [rowN T k v l'.length (l'.map enc).flatten] ∧ l'.Perm l ∧ l'.Pairwise (fun a b => ltOf cf b a = false)
theorem sortPg_t (L : SlLaysF0.n6 P ρ) {k : Nat} (aE : ∀ w, (isAgg (ρ.t 24)).run P w = .ok true w) (zE : ∀ w, (Go.sizeOf (ρ.t 24)).run P w = .ok k w) (enc : α → List Value) (hk : ∀ x, (enc x).length = k) (h1 : ∀ x, ∀ v ∈ enc x, v.oneCell' = true) (cf : α → α → Int) (hO : SWO (ltOf cf))
    (g : FuncId) (hc : isCode P g = true) (hcl : ∀ x y w, Calls P g #[.agg (enc x).toArray, .agg (enc y).toArray] w fun e w' => e = .returned (.int .i64 (cf x y)) ∧ ∃ q os, w' = Sort.grow (w.drewN q) os) {T : TypeId} (v : Value) (l : List α) (hl : l.length < 4611686018427387904) :
    Triple P (ρ.f 6) #[v, .func (.func g) #[] #[]] [rowN T k v l.length (l.map enc).flatten] (RSortP T k enc cf v l) := by
  intro w hw ha
  have hrow := hw _ (List.mem_cons_self ..)
  have hlen : (l.map enc).flatten.length = l.length * k := flen hk l
  rcases hrow.2 with ⟨hv, h0⟩ | ⟨g0, cap, cur, hv, hB, hb, hnc, hcm, hcs, ht⟩
  · subst hv
    have : l = [] := List.eq_nil_of_length_eq_zero h0
    subst this
    refine (AnyF.slices_SortFunc_none { L with } none 0 _ w).mono ?_
    rintro e w' ⟨rfl, rfl⟩
    exact ⟨_, _, rfl, ⟨[], rfl, rfl, .refl _, .nil⟩, .one (Mod.refl _ _) hrow fun g hg => by cases hg⟩
  · subst hv
    have hblk : g0 < w.heap.size := (Array.getElem?_eq_some_iff.1 hb).1
    have hH : HoldsK enc k w g0 0 l.toArray := by
      unfold HoldsK
      rw [flatK_eq hk]
      exact row_holds (k := k) hb (by rw [hlen]; exact ht)
    have hcmp : CmpLays P g #[] enc k cf g0 0 l.toArray.size w := fun m os dk _ x y => hcl x y _
    have h := AnyQ.slices_SortFunc L k aE zE enc hk h1 cf hO g #[] g0 0 cap l.toArray w (fun args w => enters_isCode hc args w) hcmp hH hblk (by simpa using hl)
    refine Calls.mono (by simpa using h) ?_
    rintro e w' ⟨rfl, d', hp, hs, n, os, rfl⟩
    obtain ⟨l', rfl⟩ : ∃ l' : List α, d' = l'.toArray := ⟨d'.toList, by simp⟩
    have hp0 : PermIn 0 l.toArray.size l.toArray l'.toArray := by simpa using hp
    have hp' : l'.Perm l := by simpa using perm_of_in hp0
    have hsz : l'.toArray.size = l.length := by simpa using hp'.length_eq
    have hs' : l'.Pairwise (fun a b => ltOf cf b a = false) := by
      have := pair_of_in (lt := ltOf cf) (d := l'.toArray) (by rw [hsz]; exact hs)
      simpa using this
    have hll : l'.length = l.length := hp'.length_eq
    have hsl : (l'.map enc).flatten.length = l.length * k := by rw [flen hk, hll]
    have hfin := row_put (n := n) (os := os) (ys := (l'.map enc).flatten) hb hnc hcm hcs hsl (ownFp [rowN T k (.slice (some ⟨g0, 0, none⟩) l.length cap) l.length (l.map enc).flatten]) ⟨_, List.mem_singleton.2 rfl, rfl, rfl⟩
    unfold sortWorldK putRowK
    rw [flatK_eq hk]
    exact ⟨_, _, rfl, ⟨l', rfl, rfl, hp', hs'⟩, .one (by exact hfin.2) (by rw [hll]; exact hfin.1) fun g' hg' => .inr (by cases hg'; exact ⟨_, List.mem_singleton.2 rfl, rfl, rfl⟩)⟩
end
end Go.Proofs.YtagedgcdonodfaaDoor
/- The contracts of Go library functions, laid at this program (written by a tool). -/
namespace Go.Proofs
open Go.Shelf
def Tryd.sortF35_ren : Go.Shelf.Ren := ⟨fun | 6 => 35 | 15 => 48 | 14 => 47 | 28 => 66 | 29 => 67 | 20 => 58 | 21 => 59 | 22 => 60 | 23 => 61 | 24 => 62 | 25 => 63 | 26 => 64 | 27 => 65 | 46 => 73 | 47 => 74 | 48 => 75 | 49 => 76 | 50 => 77 | 57 => 93 | n => n, fun | 22 => 27 | 24 => 31 | 25 => 79 | 3 => 3 | 39 => 96 | 0 => 0 | 53 => 113 | 55 => 99 | 4 => 4 | 46 => 106 | 45 => 105 | 50 => 110 | 5 => 5 | 9 => 9 | 66 => 125 | 70 => 129 | 76 => 152 | 77 => 153 | n => n, fun | n => n⟩
theorem Tryd.sortF35 : Go.Proofs.SlLaysF0.n6 Tryd.prog Tryd.sortF35_ren := {
  mixed := by kernel_rfl
  f6 := ⟨Tryd.f35.name, by decide, Tryd.func35.trans (congrArg some (by kernel_rfl))⟩
  f14 := ⟨Tryd.f47.name, by decide, Tryd.func47.trans (congrArg some (by kernel_rfl))⟩
  f15 := Tryd.func48.trans (congrArg some (by kernel_rfl))
  f20 := ⟨Tryd.f58.name, by decide, Tryd.func58.trans (congrArg some (by kernel_rfl))⟩
  f21 := ⟨Tryd.f59.name, by decide, Tryd.func59.trans (congrArg some (by kernel_rfl))⟩
  f22 := ⟨Tryd.f60.name, by decide, Tryd.func60.trans (congrArg some (by kernel_rfl))⟩
  f23 := ⟨Tryd.f61.name, by decide, Tryd.func61.trans (congrArg some (by kernel_rfl))⟩
  f24 := ⟨Tryd.f62.name, by decide, Tryd.func62.trans (congrArg some (by kernel_rfl))⟩
  f25 := ⟨Tryd.f63.name, by decide, Tryd.func63.trans (congrArg some (by kernel_rfl))⟩
  f26 := ⟨Tryd.f64.name, by decide, Tryd.func64.trans (congrArg some (by kernel_rfl))⟩
  f27 := ⟨Tryd.f65.name, by decide, Tryd.func65.trans (congrArg some (by kernel_rfl))⟩
  f28 := Tryd.func66.trans (congrArg some (by kernel_rfl))
  f29 := Tryd.func67.trans (congrArg some (by kernel_rfl))
  f46 := ⟨Tryd.f73.name, by decide, Tryd.func73.trans (congrArg some (by kernel_rfl))⟩
  f47 := Tryd.func74.trans (congrArg some (by kernel_rfl))
  f48 := Tryd.func75.trans (congrArg some (by kernel_rfl))
  f49 := ⟨Tryd.f76.name, by decide, Tryd.func76.trans (congrArg some (by kernel_rfl))⟩
  f50 := ⟨Tryd.f77.name, by decide, Tryd.func77.trans (congrArg some (by kernel_rfl))⟩
  f57 := ⟨Tryd.f93.name, by decide, Tryd.func93.trans (congrArg some (by kernel_rfl))⟩
  t0 := Tryd.underlying0
  a0 := Tryd.isAgg0
  z0 := Tryd.sizeOf0
  v0 := Tryd.zeroValue0
  t3 := Tryd.underlying3
  a3 := Tryd.isAgg3
  z3 := Tryd.sizeOf3
  v3 := Tryd.zeroValue3
  t4 := Tryd.underlying4
  a4 := Tryd.isAgg4
  z4 := Tryd.sizeOf4
  v4 := Tryd.zeroValue4
  t5 := Tryd.underlying5
  a5 := Tryd.isAgg5
  z5 := Tryd.sizeOf5
  v5 := Tryd.zeroValue5
  t9 := Tryd.underlying9
  a9 := Tryd.isAgg9
  z9 := Tryd.sizeOf9
  v9 := Tryd.zeroValue9
  t22 := Tryd.underlying27
  a22 := Tryd.isAgg27
  z22 := Tryd.sizeOf27
  v22 := Tryd.zeroValue27
  t25 := Tryd.underlying79
  a25 := Tryd.isAgg79
  z25 := Tryd.sizeOf79
  v25 := Tryd.zeroValue79
  t39 := Tryd.underlying96
  a39 := Tryd.isAgg96
  z39 := Tryd.sizeOf96
  v39 := Tryd.zeroValue96
  t45 := Tryd.underlying105
  a45 := Tryd.isAgg105
  z45 := Tryd.sizeOf105
  v45 := Tryd.zeroValue105
  t46 := Tryd.underlying106
  a46 := Tryd.isAgg106
  z46 := Tryd.sizeOf106
  v46 := Tryd.zeroValue106
  t50 := Tryd.underlying110
  a50 := Tryd.isAgg110
  z50 := Tryd.sizeOf110
  v50 := Tryd.zeroValue110
  t53 := Tryd.underlying113
  a53 := Tryd.isAgg113
  z53 := Tryd.sizeOf113
  v53 := Tryd.zeroValue113
  t55 := Tryd.underlying99
  a55 := Tryd.isAgg99
  z55 := Tryd.sizeOf99
  v55 := Tryd.zeroValue99
  t66 := Tryd.underlying125
  a66 := Tryd.isAgg125
  z66 := Tryd.sizeOf125
  v66 := Tryd.zeroValue125
  t70 := Tryd.underlying129
  a70 := Tryd.isAgg129
  z70 := Tryd.sizeOf129
  v70 := Tryd.zeroValue129
  t76 := Tryd.underlying152
  a76 := Tryd.isAgg152
  z76 := Tryd.sizeOf152
  v76 := Tryd.zeroValue152
  t77 := Tryd.underlying153
  a77 := Tryd.isAgg153
  z77 := Tryd.sizeOf153
  v77 := Tryd.zeroValue153 }
def Tryd.sortI_ren : Go.Shelf.Ren := ⟨fun | 189 => 54 | 125 => 48 | 257 => 71 | 128 => 66 | 129 => 67 | 294 => 82 | 295 => 83 | 296 => 84 | 297 => 85 | 298 => 86 | 299 => 87 | 216 => 88 | 300 => 89 | 301 => 90 | 328 => 98 | 329 => 74 | 330 => 75 | 331 => 99 | 332 => 100 | 215 => 49 | 343 => 103 | n => n, fun | 28 => 72 | 3 => 3 | 46 => 96 | 0 => 0 | 51 => 113 | 53 => 99 | 4 => 4 | 183 => 106 | 182 => 105 | 131 => 110 | 5 => 5 | 9 => 9 | 218 => 125 | 222 => 129 | 228 => 152 | 229 => 153 | n => n, fun | n => n⟩
theorem Tryd.sortI : Go.Proofs.Lays.n189 Tryd.prog Tryd.sortI_ren := {
  mixed := by kernel_rfl
  f125 := Tryd.func48.trans (congrArg some (by kernel_rfl))
  f128 := Tryd.func66.trans (congrArg some (by kernel_rfl))
  f129 := Tryd.func67.trans (congrArg some (by kernel_rfl))
  f189 := Tryd.func54.trans (congrArg some (by kernel_rfl))
  f215 := Tryd.func49.trans (congrArg some (by kernel_rfl))
  f216 := Tryd.func88.trans (congrArg some (by kernel_rfl))
  f257 := Tryd.func71.trans (congrArg some (by kernel_rfl))
  f294 := Tryd.func82.trans (congrArg some (by kernel_rfl))
  f295 := Tryd.func83.trans (congrArg some (by kernel_rfl))
  f296 := Tryd.func84.trans (congrArg some (by kernel_rfl))
  f297 := Tryd.func85.trans (congrArg some (by kernel_rfl))
  f298 := Tryd.func86.trans (congrArg some (by kernel_rfl))
  f299 := Tryd.func87.trans (congrArg some (by kernel_rfl))
  f300 := Tryd.func89.trans (congrArg some (by kernel_rfl))
  f301 := Tryd.func90.trans (congrArg some (by kernel_rfl))
  f328 := Tryd.func98.trans (congrArg some (by kernel_rfl))
  f329 := Tryd.func74.trans (congrArg some (by kernel_rfl))
  f330 := Tryd.func75.trans (congrArg some (by kernel_rfl))
  f331 := Tryd.func99.trans (congrArg some (by kernel_rfl))
  f332 := Tryd.func100.trans (congrArg some (by kernel_rfl))
  f343 := Tryd.func103.trans (congrArg some (by kernel_rfl))
  t0 := Tryd.underlying0
  a0 := Tryd.isAgg0
  z0 := Tryd.sizeOf0
  v0 := Tryd.zeroValue0
  t3 := Tryd.underlying3
  a3 := Tryd.isAgg3
  z3 := Tryd.sizeOf3
  v3 := Tryd.zeroValue3
  t4 := Tryd.underlying4
  a4 := Tryd.isAgg4
  z4 := Tryd.sizeOf4
  v4 := Tryd.zeroValue4
  t5 := Tryd.underlying5
  a5 := Tryd.isAgg5
  z5 := Tryd.sizeOf5
  v5 := Tryd.zeroValue5
  t9 := Tryd.underlying9
  a9 := Tryd.isAgg9
  z9 := Tryd.sizeOf9
  v9 := Tryd.zeroValue9
  t28 := Tryd.underlying72
  a28 := Tryd.isAgg72
  z28 := Tryd.sizeOf72
  v28 := Tryd.zeroValue72
  t46 := Tryd.underlying96
  a46 := Tryd.isAgg96
  z46 := Tryd.sizeOf96
  v46 := Tryd.zeroValue96
  t51 := Tryd.underlying113
  a51 := Tryd.isAgg113
  z51 := Tryd.sizeOf113
  v51 := Tryd.zeroValue113
  t53 := Tryd.underlying99
  a53 := Tryd.isAgg99
  z53 := Tryd.sizeOf99
  v53 := Tryd.zeroValue99
  t131 := Tryd.underlying110
  a131 := Tryd.isAgg110
  z131 := Tryd.sizeOf110
  v131 := Tryd.zeroValue110
  t182 := Tryd.underlying105
  a182 := Tryd.isAgg105
  z182 := Tryd.sizeOf105
  v182 := Tryd.zeroValue105
  t183 := Tryd.underlying106
  a183 := Tryd.isAgg106
  z183 := Tryd.sizeOf106
  v183 := Tryd.zeroValue106
  t218 := Tryd.underlying125
  a218 := Tryd.isAgg125
  z218 := Tryd.sizeOf125
  v218 := Tryd.zeroValue125
  t222 := Tryd.underlying129
  a222 := Tryd.isAgg129
  z222 := Tryd.sizeOf129
  v222 := Tryd.zeroValue129
  t228 := Tryd.underlying152
  a228 := Tryd.isAgg152
  z228 := Tryd.sizeOf152
  v228 := Tryd.zeroValue152
  t229 := Tryd.underlying153
  a229 := Tryd.isAgg153
  z229 := Tryd.sizeOf153
  v229 := Tryd.zeroValue153 }
def Tryd.bitsLen_ren : Go.Shelf.Ren := ⟨fun | 125 => 48 | 128 => 66 | 129 => 67 | n => n, fun | 46 => 96 | 3 => 3 | 51 => 113 | 53 => 99 | 4 => 4 | 5 => 5 | 9 => 9 | n => n, fun | n => n⟩
end Go.Proofs
/- Report: Go's library: numerals, words, maps that are cloned, keys that are sorted: contracts. -/
namespace Go.Proofs.YtagedgcdonodfaaDoor
open Go.RowKit Go.Sort Go.Shelf
set_option linter.unusedSimpArgs false
set_option linter.unusedVariables false
theorem itoa_t (n : Int) (h : in64 n) : Triple Tryd.prog 43 #[.int .i64 n] [tP] (RVal (sV (Lib.itoa n))) := by
  intro w hw ha
  refine Calls.mono (Any.strconv_Itoa Tryd.itoaM n h.1 h.2 w (hw _ (List.mem_cons_self ..))) ?_
  rintro e w' ⟨rfl, k, os, rfl⟩
  exact ⟨_, [], rfl, ⟨rfl, rfl⟩, Post.nil mod_grow⟩
def wordsB : List UInt8 := [110, 111, 110, 101, 32, 115, 101, 110, 116, 32, 114, 101, 112, 108, 121, 32, 98, 97, 100, 32, 117, 110, 107, 110, 111, 119, 110, 32, 110, 111, 119, 104, 101, 114, 101, 32, 102, 117, 108, 108, 32, 116, 97, 107, 101, 110]
def wordsL : List (List UInt8) := [[110, 111, 110, 101], nameL 1, nameL 2, nameL 3, nameL 4, nameL 5, nameL 6, nameL 7]
theorem words_ok : Lib.fields wordsB = wordsL := by decide +kernel
theorem words_ascii : ∀ (j : Nat) b, wordsB[j]? = some b → b.toNat < 128 := by
  intro j b h
  have := List.mem_of_getElem? h
  revert b
  have key : ∀ b ∈ wordsB, b.toNat < 128 := by decide +kernel
  exact fun b h hb => key b hb
theorem fields_t : Triple Tryd.prog 46 #[sV wordsB] [tS] (RRow 9 1 8 (wordsL.map sV)) := by
  intro w hw ha
  refine Calls.mono (Any.strings_Fields_laid Tryd.fieldsM ⟨wordsB.toArray⟩ w (by rw [sV_size]; decide) (by simpa using words_ascii) (hw _ (List.mem_cons_self ..))) ?_
  rintro e w' ⟨rfl, rfl⟩
  have e1 : Lib.fields (⟨wordsB.toArray⟩ : ByteArray).data.toList = wordsL := by simpa using words_ok
  rw [e1]
  refine ⟨_, _, rfl, ⟨rfl, rfl⟩, .one (Mod.alloc _ _ _) ?_ fun g hg => ?_⟩
  · refine ⟨rfl, .inr ⟨w.heap.size, 8, _, rfl, Nat.zero_le _, alloc_new _ _, Nat.le_refl _, by unfold maxLen; omega, ?_, ?_⟩⟩
    · rfl
    · rfl
  · cases hg
    exact .inl (Nat.le_refl _)
/-! ### Clones -/
theorem cloneC_t (m : Nat) (W : LN) : Triple Tryd.prog 29 #[.map (some m)] [rmp whM m W] (RMap whM W) := by
  intro w hw ha
  have hm : (mp whM m W).holds w := hw (rmp whM m W) (List.mem_cons_self ..)
  obtain ⟨es, clock, hb, hrest⟩ := hm
  refine Calls.mono (AnyW.maps_Clone Tryd.cloneC m es clock w hb) ?_
  rintro e w' ⟨rfl, rfl⟩
  exact ⟨_, _, rfl, ⟨_, rfl, rfl⟩, .one (Mod.alloc _ _ _) ⟨es, clock, alloc_new _ _, hrest⟩ fun g hg => by cases hg; exact .inl (Nat.le_refl _)⟩
theorem cloneP_t (m : Nat) (T : LT) : Triple Tryd.prog 30 #[.map (some m)] [rmp toM m T] (RMap toM T) := by
  intro w hw ha
  have hm : (mp toM m T).holds w := hw (rmp toM m T) (List.mem_cons_self ..)
  obtain ⟨es, clock, hb, hrest⟩ := hm
  refine Calls.mono (AnyW.maps_Clone Tryd.cloneP m es clock w hb) ?_
  rintro e w' ⟨rfl, rfl⟩
  exact ⟨_, _, rfl, ⟨_, rfl, rfl⟩, .one (Mod.alloc _ _ _) ⟨es, clock, alloc_new _ _, hrest⟩ fun g hg => by cases hg; exact .inl (Nat.le_refl _)⟩
/-! ### Keys, sorted -/
/-- A map of ints, whatever it holds. -/
theorem mapI_int {V : Type} {P : Program} {T kT eT : TypeId} {M : MK Int V} (hu : P.underlying T = some (.map kT eT)) (hk : P.underlying kT = some (.int .i64)) (hkt : P.keyType kT = true) (hM : ∀ k, M.kc k = .int .i64 k) (hwf : ∀ k, M.wf k → in64 k) (hz : (P.info? eT).bind (·.zero) = some (M.vc M.v0)) : MapI P T M where
  law := ⟨kT, eT, hu, Go.Maps.int_keyed hk, fun k h => by
    have h1 := hwf k h
    have h2 : (Lit.int .i64 k).wf = true := in64_wf h1
    rw [hM]
    exact ⟨.int .i64 k, by simp [keyOf, hk, mapKey, h2]⟩, fun w => run_zero hz w⟩
  inj := fun a b h => by rw [hM, hM] at h; simpa using h
theorem mod_below {T : Nat → Prop} {w w' : World} (h : Below w.heap.size w w') : Mod T w w' := ⟨h.os, h.tape, h.output, h.size, h.size, fun g hg _ => h.block g hg⟩
/-- How its values are read: not at all. -/
def anyR : Value → Option (DataW Unit × List MemPlace) := fun _ => some (.nil, [])
theorem mp_owns {V : Type} {P : Program} {M : MK Int V} {m : Nat} {l : List (Int × V)} {w : World} {k : TypeId} (hk : P.underlying k = some (.int .i64)) (hM : ∀ k, M.kc k = .int .i64 k) (hwf : ∀ k, M.wf k → in64 k) (hl : l.length ≤ maxLen) (h : (mp M m l).holds w) :
    ∃ D : DataW Unit, w.ownsMap P k anyR m l.length D ∧ (intKeys D).Perm (l.map (·.1)) ∧ Maps.size D = l.length := by
  obtain ⟨es, clock, hb, he, h1, h2, hn, hw⟩ := h
  have hlen : es.toList.length = l.length := by have := congrArg List.length he; simpa using this
  have hsz : es.size = l.length := by simpa using hlen
  have hrd : ∀ x ∈ es.toList, ∃ k0 : Int, x.key = .int .i64 k0 ∧ Go.WideElems.rd P k anyR x = some (.int .i64 k0, .nil) := fun x hx => by
    obtain ⟨y, hy, hyk⟩ := mp_key he hx
    have h3 : (Lit.int .i64 y.1).wf = true := in64_wf (hwf _ (hw y hy))
    refine ⟨y.1, by rw [hyk, hM], ?_⟩
    unfold Go.WideElems.rd
    rw [hyk, hM]
    simp [keyOf, hk, mapKey, h3, anyR]
  have hkeys : es.toList.map (·.key) = l.map (fun x => Value.int .i64 x.1) := by
    have := congrArg (List.map Prod.fst) he
    rw [List.map_map, List.map_map] at this
    refine this.trans (List.map_congr_left fun x _ => ?_)
    simp [hM]
  refine ⟨_, ⟨es, clock, hb, ⟨by omega, ⟨h2, h1.imp (fun h => Nat.ne_of_lt h), ?_⟩, fun x hx => ?_⟩, Nat.le_of_eq hsz, rfl⟩, ?_, ?_⟩
  · rw [hkeys]
    have : (l.map (fun x => Value.int .i64 x.1)) = (l.map (·.1)).map (Value.int .i64) := by rw [List.map_map]; rfl
    rw [this]
    exact hn.map _ (fun a b hab h => hab (by simpa using h))
  · obtain ⟨k0, _, h4⟩ := hrd x hx
    exact ⟨_, h4⟩
  · show (List.map (fun p : Lit × DataW Unit => Go.intOf p.1) (List.foldr DataW.insert [] (List.map (Go.WideElems.rg P k anyR) es.toList))).Perm _
    refine ((Go.WideShapes.sorted_perm _).map _).trans (.of_eq ?_)
    rw [List.map_map]
    have h5 : es.toList.map (fun x => Go.intOf (Go.WideElems.rg P k anyR x).1) = es.toList.map (fun x => match x.key with | .int _ a => a | _ => 0) := List.map_congr_left fun x hx => by
      obtain ⟨k0, h6, h7⟩ := hrd x hx
      rw [Go.WideElems.rg_of h7, h6]
      rfl
    refine h5.trans ?_
    have h8 : es.toList.map (fun x => match x.key with | .int _ a => a | _ => 0) = (es.toList.map (·.key)).map (fun v => match v with | Value.int _ a => a | _ => 0) := by rw [List.map_map]; rfl
    rw [h8, hkeys, List.map_map]
    rfl
  · show (List.foldr DataW.insert [] (List.map (Go.WideElems.rg P k anyR) es.toList)).length = _
    rw [(Go.WideShapes.sorted_perm _).length_eq, List.length_map, hlen]
def RKeys (m : Nat) : Value → List Asn → Prop := fun v Γ => ∃ g, v = .func (.func 55) #[] #[.pointer (some ⟨g, 0, none⟩)] ∧ Γ = [bx g 48 [(1, [.map (some m)])]]
theorem keys_t (m : Nat) : Triple Tryd.prog 45 #[.map (some m)] [] (RKeys m) := by
  intro w hw ha
  have h := callsIn_wide.1 (AnyZI.keys_in Tryd.keysA Fence.wide 5 trivial rfl (some m) w)
  refine Calls.mono h ?_
  rintro e w' ⟨rfl, rfl⟩
  exact ⟨_, _, rfl, ⟨_, rfl, rfl⟩, .one (Mod.alloc _ _ _) ⟨alloc_new _ _, fokA⟩ fun g hg => by cases hg; exact .inl (Nat.le_refl _)⟩
theorem sorts_a (m : Nat) : AnyZI.SortsIn Tryd.prog Tryd.sortedA_ren Fence.wide m :=
  ⟨fun blk off cap ss W hH hblk hsz => callsIn_wide.2 (Any.slices_Sort_int Tryd.sortI blk off cap ss W hH hblk hsz),
   fun p cap W => callsIn_wide.2 (Any.slices_Sort_int_none Tryd.sortI p cap W)⟩
theorem sorted_t {V : Type} {M : MK Int V} (hM : ∀ k, M.kc k = .int .i64 k) (hwf : ∀ k, M.wf k → in64 k) (g m : Nat) (l : List (Int × V)) (hl : l.length ≤ 1000000000) :
    Triple Tryd.prog 44 #[.func (.func 55) #[] #[.pointer (some ⟨g, 0, none⟩)]] [rbx g 48 [(1, [.map (some m)])], rmp M m l] (RRow 3 1 l.length (intsV ((l.map (·.1)).mergeSort (fun x y => decide (x ≤ y))))) := by
  intro w hw ha
  have hg := hw _ (List.mem_cons_self ..)
  have hm0 : (rmp M m l).holds w := hw _ (List.mem_cons_of_mem _ (List.mem_cons_self ..))
  have hm : (mp M m l).holds w := hm0
  obtain ⟨D, hown, hperm, hsize⟩ := mp_owns (P := Tryd.prog) (k := 3) Tryd.underlying3 hM hwf (by unfold maxLen; omega) hm
  have hcell : w.cell? ⟨g, 0, none⟩ = some (.map (some m)) := by
    rw [bx_cell hg]; rfl
  have hglt := (rbx g 48 [(1, [.map (some m)])]).lt w hg g rfl
  have hseq : SeqGives Fence.wide 2 Tryd.prog 55 #[.pointer (some ⟨g, 0, none⟩)] encZ (fun ss => ss.Perm (intKeys D)) (Maps.size D) w :=
    AnyZI.keys_gives (ρ := Tryd.keysA_ren) { Tryd.keysA with } Fence.wide _ trivial rfl (by omega) g m l.length D w hglt hcell hown
  have h := AnyZI.sorted_in Tryd.sortedA Fence.wide 5 trivial trivial trivial trivial rfl (by omega) (sorts_a _) (fun args w => enters_isCode (by kernel_rfl) args w) 55 #[.pointer (some ⟨g, 0, none⟩)] trivial (fun args w => enters_isCode (by kernel_rfl) args w) _ (Maps.size D) (by rw [hsize]; unfold maxLen; omega) (by rw [hsize]; omega) w hseq
  refine Calls.mono (callsIn_wide.1 h) ?_
  rintro e w' ⟨v, ss, rfl, hS, hrow, hnil, hb⟩
  have hp2 : ss.Perm (l.map (·.1)) := hS.trans hperm
  have hlen : ss.length = l.length := by have := hp2.length_eq; simpa using this
  have hone : v.oneCell' = true := by
    rcases hrow.2 with ⟨rfl, _⟩ | ⟨g, c, cu, rfl, _⟩ <;> rfl
  refine ⟨_, _, rfl, ⟨hone, rfl⟩, .one (mod_below hb) ?_ fun g' hg' => .inl ?_⟩
  · show w'.ownsRow 0 _ _ _ _ _
    rw [← mergeSort_of_perm_i hp2, ← hlen]
    obtain ⟨h1, h2 | ⟨g2, c, cu, h3, hB, h4⟩⟩ := hrow
    · exact ⟨h1, .inl h2⟩
    · exact ⟨h1, .inr ⟨g2, c, cu, h3, Nat.zero_le _, h4⟩⟩
  · rcases hrow.2 with ⟨rfl, _⟩ | ⟨g2, c, cu, rfl, hB, _⟩
    · cases hg'
    · cases hg'; exact hB
end Go.Proofs.YtagedgcdonodfaaDoor
/- Report: a builder of text: contracts. -/
namespace Go.Proofs.YtagedgcdonodfaaDoor
open Go.RowKit
set_option linter.unusedSimpArgs false
set_option linter.unusedVariables false
set_option maxRecDepth 20000
set_option maxHeartbeats 4000000
attribute [local irreducible] WPc WPl WPq ReadR OpT BinR HasS bx rdN rowN Take Takes Prov Triple ResF BuildP Done ag Int.decLt Int.decLe Int.instDecidableEq
attribute [local irreducible] mp rmp rg rgo
abbrev pB0 (g : Nat) : Value := .pointer (some ⟨g, 0, none⟩)
/-- A builder within lines. -/
abbrev bdC (b : Bool) (g : Nat) (v : Value) : Ch := [(1, [.pointer (if b then some ⟨g, 0, none⟩ else none)]), (1, [v])]
theorem copy0_t (g : Nat) (v : Value) (hv : v.oneCell' = true) : Triple Tryd.prog 51 #[pB0 g] [bx g 70 (bdC false g v)] (RTurns (resV []) [bx g 70 (bdC true g v)]) := by
  refine Triple.enter Tryd.func51 rfl Tryd.ntmps51 rfl (fun W => ?_)
  dsimp only [argsF, Nat.reduceAdd]
  repeat' (first
   | refine WPl.nil ?_ | refine WPq.then ?_ | refine WPq.thenR ?_ | refine WPq.thenE ?_ | refine WPq.blockN ?_ | refine WPq.blockR ?_ | refine WPq.blockE ?_ | refine WPq.blockO rfl ?_ | refine WPc.seq ?_ | refine WPc.block ?_ | refine WPc.ret ?_ | refine WPc.exit ?_ | refine WPc.skip ?_ | refine WPc.region ?_
   | (refine isCond ?_; first | refine WPc.cT ?_ | refine WPc.cF ?_ | (refine WPc.cQ (fun hc => ?_) (fun hc => ?_) <;> try exact prA))
   | (refine isD 6 ?_; refine WPl.rdX (readP) ?_)
   | (refine isD 9 ?_; refine WPl.rdX (ReadR.toUnsafe Tryd.underlying66 Tryd.underlying115 (by kernel_rfl) memA (by exact Nat.zero_lt_succ 1) rfl) ?_)
   | (refine isD 10 ?_; refine WPl.rdX (ReadR.noEscape Tryd.func68 (by kernel_rfl) (by kernel_rfl) (by kernel_rfl) (by kernel_rfl) rfl) ?_)
   | (refine isD 11 ?_; refine WPl.rdX (ReadR.ofUnsafe (m := 2) Tryd.underlying115 Tryd.underlying66 (by kernel_rfl) memA rfl (by kernel_rfl) rfl) ?_)
   | (refine isOp ?_; first | refine WPl.rd ?_ | refine WPl.sk ?_ | refine WPl.rdB ?_)
   | (refine isSt ?_; first | refine WPl.st1 ?_ | refine WPl.stA ?_ | refine WPl.stEB ?_ | refine WPl.stRB ?_)
   | (show WPl _ _ _ _ _ _ _ (⟨_, .indexAddr _ _ _, _, _, _, _⟩ :: _) _; refine WPl.rdX (ReadR.indexE rfl rfl hasA (by first | assumption | omega)) ?_)
   | (show WPl _ _ _ _ _ _ _ (⟨_, .fieldAddr _ _ _, _, _, _, _⟩ :: _) _; refine WPl.rdX (ReadR.fieldE rfl hasA (by first | assumption | omega)) ?_)
   | (show WPl _ _ _ _ _ _ _ (⟨_, .load _ _, _, _, _, _⟩ :: _) _; first | refine WPl.rdX (ReadR.loadE rfl hasA (by assumption)) ?_ | refine WPl.rdX (ReadR.loadES (by assumption) (by first | assumption | omega) rfl hasA) ?_)
   | (show WPl _ _ _ _ _ _ _ (⟨_, .slice _ _ _ _ _, _, _, _, _⟩ :: _) _; first | refine WPl.rdX (ReadR.sliceH rfl rfl hasA (by omega)) ?_ | refine WPl.rdX (ReadR.sliceL rfl rfl hasA (by omega)) ?_ | refine WPl.rdX (ReadR.sliceLH rfl rfl rfl hasA (by omega) (by omega)) ?_)
   | (refine WPl.spQ (fun hc => ?_) (fun hc => ?_) <;> try exact prA)
   | fail)
  all_goals try (first | exact WPq.dTp | exact WPq.dTs | exact WPq.dV | exact WPq.dR | exact WPq.dR2 | exact WPq.dH | exact WPq.dBH | exact WPq.dT)
theorem copy1_t (g : Nat) (v : Value) (hv : v.oneCell' = true) : Triple Tryd.prog 51 #[pB0 g] [bx g 70 (bdC true g v)] (RTurns (resV []) [bx g 70 (bdC true g v)]) := by
  refine Triple.enter Tryd.func51 rfl Tryd.ntmps51 rfl (fun W => ?_)
  dsimp only [argsF, Nat.reduceAdd]
  repeat' (first
   | refine WPl.nil ?_ | refine WPq.then ?_ | refine WPq.thenR ?_ | refine WPq.thenE ?_ | refine WPq.blockN ?_ | refine WPq.blockR ?_ | refine WPq.blockE ?_ | refine WPq.blockO rfl ?_ | refine WPc.seq ?_ | refine WPc.block ?_ | refine WPc.ret ?_ | refine WPc.exit ?_ | refine WPc.skip ?_ | refine WPc.region ?_
   | (refine isCond ?_; first | refine WPc.cT ?_ | refine WPc.cF ?_ | (refine WPc.cQ (fun hc => ?_) (fun hc => ?_) <;> try exact prA))
   | (refine isD 6 ?_; refine WPl.rdX (readP) ?_)
   | (refine isD 19 ?_; refine WPl.rdX (ReadR.bin rfl rfl (BinR.ptrSame Tryd.underlying66 (by kernel_rfl))) ?_)
   | (refine isOp ?_; first | refine WPl.rd ?_ | refine WPl.sk ?_ | refine WPl.rdB ?_)
   | (refine isSt ?_; first | refine WPl.st1 ?_ | refine WPl.stA ?_ | refine WPl.stEB ?_ | refine WPl.stRB ?_)
   | (show WPl _ _ _ _ _ _ _ (⟨_, .indexAddr _ _ _, _, _, _, _⟩ :: _) _; refine WPl.rdX (ReadR.indexE rfl rfl hasA (by first | assumption | omega)) ?_)
   | (show WPl _ _ _ _ _ _ _ (⟨_, .fieldAddr _ _ _, _, _, _, _⟩ :: _) _; refine WPl.rdX (ReadR.fieldE rfl hasA (by first | assumption | omega)) ?_)
   | (show WPl _ _ _ _ _ _ _ (⟨_, .load _ _, _, _, _, _⟩ :: _) _; first | refine WPl.rdX (ReadR.loadE rfl hasA (by assumption)) ?_ | refine WPl.rdX (ReadR.loadES (by assumption) (by first | assumption | omega) rfl hasA) ?_)
   | (show WPl _ _ _ _ _ _ _ (⟨_, .slice _ _ _ _ _, _, _, _, _⟩ :: _) _; first | refine WPl.rdX (ReadR.sliceH rfl rfl hasA (by omega)) ?_ | refine WPl.rdX (ReadR.sliceL rfl rfl hasA (by omega)) ?_ | refine WPl.rdX (ReadR.sliceLH rfl rfl rfl hasA (by omega) (by omega)) ?_)
   | (refine WPl.spQ (fun hc => ?_) (fun hc => ?_) <;> try exact prA)
   | fail)
  all_goals try (first | exact WPq.dTp | exact WPq.dTs | exact WPq.dV | exact WPq.dR | exact WPq.dR2 | exact WPq.dH | exact WPq.dBH | exact WPq.dT)
def RWs (g : Nat) (l s : List UInt8) : Value → List Asn → Prop := fun v Γ => ∃ v' : Value, v'.oneCell' = true ∧ v = .tuple #[.int .i64 (s.length : Int), .nilIface] ∧ Γ = [bx g 70 (bdC true g v'), ob v' (l ++ s)]
theorem ws_t (b : Bool) (g : Nat) (v : Value) (hv : v.oneCell' = true) (l s : List UInt8) (h63 : l.length + s.length ≤ 1099511627776) : Triple Tryd.prog 42 #[pB0 g, sV s] [bx g 70 (bdC b g v), ob v l] (RWs g l s) := by
  have c7 : Triple Tryd.prog 51 #[pB0 g] [bx g 70 (bdC b g v)] (RTurns (resV []) [bx g 70 (bdC true g v)]) := by
    cases b
    · exact copy0_t g v hv
    · exact copy1_t g v hv
  refine Triple.enter Tryd.func42 rfl Tryd.ntmps42 rfl (fun W => ?_)
  dsimp only [argsF, Nat.reduceAdd]
  repeat' (first
   | refine WPl.nil ?_ | refine WPq.then ?_ | refine WPq.thenR ?_ | refine WPq.thenE ?_ | refine WPq.blockN ?_ | refine WPq.blockR ?_ | refine WPq.blockE ?_ | refine WPq.blockO rfl ?_ | refine WPc.seq ?_ | refine WPc.block ?_ | refine WPc.ret ?_ | refine WPc.exit ?_ | refine WPc.skip ?_ | refine WPc.region ?_
   | (refine isCond ?_; first | refine WPc.cT ?_ | refine WPc.cF ?_ | (refine WPc.cQ (fun hc => ?_) (fun hc => ?_) <;> try exact prA))
   | (refine isC 7 ?_; refine WPl.cTs (c7) ?_; (try dsimp only [putF, List.cons_append, List.nil_append]))
   | (refine isD 14 ?_; refine WPl.appS (fun v14 hv14 => ?_) h63 Tryd.underlying9)
   | (refine isD 18 ?_; refine WPl.rdX (ReadR.lenStr Tryd.underlying9 rfl) ?_)
   | (refine isOp ?_; first | refine WPl.rd ?_ | refine WPl.sk ?_ | refine WPl.rdB ?_)
   | (refine isSt ?_; first | refine WPl.st1 ?_ | refine WPl.stA ?_ | refine WPl.stEB ?_ | refine WPl.stRB ?_)
   | (show WPl _ _ _ _ _ _ _ (⟨_, .indexAddr _ _ _, _, _, _, _⟩ :: _) _; refine WPl.rdX (ReadR.indexE rfl rfl hasA (by first | assumption | omega)) ?_)
   | (show WPl _ _ _ _ _ _ _ (⟨_, .fieldAddr _ _ _, _, _, _, _⟩ :: _) _; refine WPl.rdX (ReadR.fieldE rfl hasA (by first | assumption | omega)) ?_)
   | (show WPl _ _ _ _ _ _ _ (⟨_, .load _ _, _, _, _, _⟩ :: _) _; first | refine WPl.rdX (ReadR.loadE rfl hasA (by assumption)) ?_ | refine WPl.rdX (ReadR.loadES (by assumption) (by first | assumption | omega) rfl hasA) ?_)
   | (show WPl _ _ _ _ _ _ _ (⟨_, .slice _ _ _ _ _, _, _, _, _⟩ :: _) _; first | refine WPl.rdX (ReadR.sliceH rfl rfl hasA (by omega)) ?_ | refine WPl.rdX (ReadR.sliceL rfl rfl hasA (by omega)) ?_ | refine WPl.rdX (ReadR.sliceLH rfl rfl rfl hasA (by omega) (by omega)) ?_)
   | (refine WPl.spQ (fun hc => ?_) (fun hc => ?_) <;> try exact prA)
   | fail)
  exact WPq.dX (vs := [.int .i64 (s.length : Int), .nilIface]) [bx g 70 (bdC true g v14), ob v14 (l ++ s)] ⟨v14, hv14, rfl, rfl⟩
theorem bstr_t (g : Nat) (v : Value) (hv : v.oneCell' = true) (l : List UInt8) (h0 : l ≠ []) (h63 : l.length ≤ 9223372036854775807) : Triple Tryd.prog 34 #[pB0 g] [bx g 70 (bdC true g v), ob v l] (RVal (sV l)) := by
  refine Triple.enter Tryd.func34 rfl Tryd.ntmps34 rfl (fun W => ?_)
  dsimp only [argsF, Nat.reduceAdd]
  repeat' (first
   | refine WPl.nil ?_ | refine WPq.then ?_ | refine WPq.thenR ?_ | refine WPq.thenE ?_ | refine WPq.blockN ?_ | refine WPq.blockR ?_ | refine WPq.blockE ?_ | refine WPq.blockO rfl ?_ | refine WPc.seq ?_ | refine WPc.block ?_ | refine WPc.ret ?_ | refine WPc.exit ?_ | refine WPc.skip ?_ | refine WPc.region ?_
   | (refine isReg 1 ?_; refine WPc.drA [([12], [8, 9, 10, 11, 12]), ([0, 12], [3, 8, 9, 10, 11, 12]), ([0, 1, 12], [3, 4, 8, 9, 10, 11, 12]), ([0, 1, 2, 12], [3, 4, 5, 8, 9, 10, 11, 12]), ([0, 1, 2, 3, 12], [3, 4, 5, 6, 8, 9, 10, 11, 12]), ([12], [3, 4, 5, 6, 7]), ([5, 12], [3, 4, 5, 6, 7, 8]), ([5, 6, 12], [3, 4, 5, 6, 7, 8, 9]), ([5, 6, 7, 12], [3, 4, 5, 6, 7, 8, 9, 10]), ([5, 6, 7, 8, 12], [3, 4, 5, 6, 7, 8, 9, 10, 11]), ([0, 1, 2, 3, 4, 5, 6, 7, 8, 9, 12], [3, 4, 5, 6, 7, 8, 9, 10, 11, 12]), ([0, 1, 2, 3, 4, 5, 6, 7, 8, 9, 10, 12], [3, 4, 5, 6, 7, 8, 9, 10, 11, 12, 13])] [(12, 10), (12, 0), (12, 1), (12, 2), (12, 3), (12, 4), (12, 5), (12, 6), (12, 7), (12, 8), (12, 9)] (Γx := [ob v l]) ?_; dsimp only [prev0, List.length_nil, List.length_cons])
   | (refine gAny ?_; first | (refine gD 7 ?_; refine RGl.rdX (fun e hk => by (try dsimp only [bndR, ensR, oksR, fcutR, List.append_nil, List.nil_append, List.cons_append, List.append_assoc] at hk ⊢); exact ReadR.sliceData h0 rfl memA) ?_) | ((refine gD 13 ?_; refine RGl.turns (fun e hk => by (try dsimp only [bndR, ensR, oksR, fcutR, List.append_nil, List.nil_append, List.cons_append, List.append_assoc] at hk ⊢); exact OpT.unsafeStr (e := 5) Tryd.underlying93 (by kernel_rfl) h0 h63 rfl rfl takesA) ?_)) | (refine gOp ?_; first | refine RGl.rdA ?_ | refine RGl.rdX (fun e hk => by (try dsimp only [bndR, ensR, oksR, fcutR, List.append_nil, List.nil_append, List.cons_append, List.append_assoc] at hk ⊢); exact readB) ?_) | (refine RGl.fin (fun e hk => ?_); (try dsimp only [bndA, ensAR, oksA, List.append_nil, List.nil_append, List.cons_append, List.append_assoc] at hk ⊢); (repeat (obtain ⟨hk1, hk⟩ := hk))) | fail)
   | (refine isCond ?_; first | refine WPc.cT ?_ | refine WPc.cF ?_ | (refine WPc.cQ (fun hc => ?_) (fun hc => ?_) <;> try exact prA))
   | (refine isOp ?_; first | refine WPl.rd ?_ | refine WPl.sk ?_ | refine WPl.rdB ?_)
   | (show WPl _ _ _ _ _ _ _ (⟨_, .indexAddr _ _ _, _, _, _, _⟩ :: _) _; refine WPl.rdX (ReadR.indexE rfl rfl hasA (by first | assumption | omega)) ?_)
   | (show WPl _ _ _ _ _ _ _ (⟨_, .fieldAddr _ _ _, _, _, _, _⟩ :: _) _; refine WPl.rdX (ReadR.fieldE rfl hasA (by first | assumption | omega)) ?_)
   | (show WPl _ _ _ _ _ _ _ (⟨_, .load _ _, _, _, _, _⟩ :: _) _; first | refine WPl.rdX (ReadR.loadE rfl hasA (by assumption)) ?_ | refine WPl.rdX (ReadR.loadES (by assumption) (by first | assumption | omega) rfl hasA) ?_)
   | (show WPl _ _ _ _ _ _ _ (⟨_, .slice _ _ _ _ _, _, _, _, _⟩ :: _) _; first | refine WPl.rdX (ReadR.sliceH rfl rfl hasA (by omega)) ?_ | refine WPl.rdX (ReadR.sliceL rfl rfl hasA (by omega)) ?_ | refine WPl.rdX (ReadR.sliceLH rfl rfl rfl hasA (by omega) (by omega)) ?_)
   | (refine WPl.spQ (fun hc => ?_) (fun hc => ?_) <;> try exact prA)
   | fail)
  all_goals try (first | exact WPq.dTp | exact WPq.dTs | exact WPq.dV | exact WPq.dR | exact WPq.dR2 | exact WPq.dH | exact WPq.dBH | exact WPq.dT)
def spcs (ns : List Int) : List UInt8 := (ns.map spc).flatten
theorem spcs_len {ns : List Int} (h : ∀ n ∈ ns, in64 n) : (spcs ns).length ≤ 22 * ns.length := by
  induction ns with
  | nil => simp [spcs]
  | cons n ns ih =>
    have h1 := ih fun m hm => h m (List.mem_cons_of_mem _ hm)
    have h2 := Lib.itoa_length_le n (h n (List.mem_cons_self ..)).1 (h n (List.mem_cons_self ..)).2
    unfold spcs at h1 ⊢
    rw [List.map_cons, List.flatten_cons, List.length_append, List.length_cons]
    unfold spc
    rw [List.length_cons]
    unfold spc at h1
    omega
theorem spcs_take {ns : List Int} {i : Nat} {n : Int} (h : ns[i]? = some n) : spcs (ns.take (i + 1)) = spcs (ns.take i) ++ spc n := by
  unfold spcs
  rw [List.take_add_one, h]
  simp
def RPut (g : Nat) (l : List UInt8) : Value → List Asn → Prop := fun v Γ => ∃ v' : Value, v'.oneCell' = true ∧ v = resV [] ∧ Γ = [bx g 70 (bdC true g v'), ob v' l]
theorem put_t (b : Bool) (g : Nat) (v : Value) (hv : v.oneCell' = true) (l word : List UInt8) (vn : Value) (ns : List Int) (hns : ∀ n ∈ ns, in64 n) (hw : word.length ≤ 100) (hl : l.length ≤ 1000000000) (hn : ns.length ≤ 10) :
    Triple Tryd.prog 31 #[pB0 g, sV word, vn] [bx g 70 (bdC b g v), ob v l, rdN vn ns.length (intsV ns), tP] (RPut g (l ++ word ++ spcs ns ++ [10])) := by
  have c12 := ws_t b g v hv l word (by omega)
  have hsl : ∀ i, (spcs (ns.take i)).length ≤ 220 := fun i => by
    have := spcs_len (ns := ns.take i) fun n h => hns n (List.mem_of_mem_take h)
    have h2 : (ns.take i).length ≤ 10 := by rw [List.length_take]; omega
    omega
  have hvl : (intsV ns).length = ns.length := by unfold intsV; rw [List.length_map]
  refine Triple.enter Tryd.func31 rfl Tryd.ntmps31 rfl (fun W => ?_)
  dsimp only [argsF, Nat.reduceAdd]
  repeat' (first
   | refine WPl.nil ?_ | refine WPq.then ?_ | refine WPq.thenR ?_ | refine WPq.thenE ?_ | refine WPq.blockN ?_ | refine WPq.blockR ?_ | refine WPq.blockE ?_ | refine WPq.blockO rfl ?_ | refine WPc.seq ?_ | refine WPc.block ?_ | refine WPc.ret ?_ | refine WPc.exit ?_ | refine WPc.skip ?_ | refine WPc.region ?_
   | (refine isReg 4 ?_; refine WPc.drA [([], [22, 23, 24]), ([0], [19, 22, 23, 24]), ([0, 1], [19, 20, 22, 23, 24]), ([], [19, 20, 21]), ([3], [19, 20, 21, 22]), ([3, 4], [19, 20, 21, 22, 23]), ([0, 1, 2, 3, 4, 5], [19, 20, 21, 22, 23, 24])] [] (Γx := []) ?_; dsimp only [prev0, List.length_nil, List.length_cons])
   | (refine gAny ?_; first | (refine gOp ?_; first | refine RGl.rdA ?_ | refine RGl.rdX (fun e hk => by (try dsimp only [bndR, ensR, oksR, fcutR, List.append_nil, List.nil_append, List.cons_append, List.append_assoc] at hk ⊢); exact readB) ?_) | (refine RGl.fin (fun e hk => ?_); (try dsimp only [bndA, ensAR, oksA, List.append_nil, List.nil_append, List.cons_append, List.append_assoc] at hk ⊢); (repeat (obtain ⟨hk1, hk⟩ := hk))) | fail)
   | (refine isCond ?_; first | refine WPc.cT ?_ | refine WPc.cF ?_ | (refine WPc.cQ (fun hc => ?_) (fun hc => ?_) <;> try exact prA))
   | (refine isC 12 ?_; refine WPl.cXs (c12) fun v Γ1 hR => ?_; obtain ⟨v1, hv1, rfl, rfl⟩ := hR; (try dsimp only [putF, List.cons_append, List.nil_append]))
   | (refine isOp ?_; first | refine WPl.rd ?_ | refine WPl.sk ?_ | refine WPl.rdB ?_)
   | (show WPl _ _ _ _ _ _ _ (⟨_, .indexAddr _ _ _, _, _, _, _⟩ :: _) _; refine WPl.rdX (ReadR.indexE rfl rfl hasA (by first | assumption | omega)) ?_)
   | (show WPl _ _ _ _ _ _ _ (⟨_, .fieldAddr _ _ _, _, _, _, _⟩ :: _) _; refine WPl.rdX (ReadR.fieldE rfl hasA (by first | assumption | omega)) ?_)
   | (show WPl _ _ _ _ _ _ _ (⟨_, .load _ _, _, _, _, _⟩ :: _) _; first | refine WPl.rdX (ReadR.loadE rfl hasA (by assumption)) ?_ | refine WPl.rdX (ReadR.loadES (by assumption) (by first | assumption | omega) rfl hasA) ?_)
   | (show WPl _ _ _ _ _ _ _ (⟨_, .slice _ _ _ _ _, _, _, _, _⟩ :: _) _; first | refine WPl.rdX (ReadR.sliceH rfl rfl hasA (by omega)) ?_ | refine WPl.rdX (ReadR.sliceL rfl rfl hasA (by omega)) ?_ | refine WPl.rdX (ReadR.sliceLH rfl rfl rfl hasA (by omega) (by omega)) ?_)
   | (refine WPl.spQ (fun hc => ?_) (fun hc => ?_) <;> try exact prA)
   | fail)
  first | refine WPc.loop (σ := Nat × Value × List UInt8) (fun st => st.1 ≤ ns.length ∧ st.2.1.oneCell' = true ∧ st.2.2 = l ++ word ++ spcs (ns.take st.1)) (fun st => [bx g 70 (bdC true g st.2.1), ob st.2.1 st.2.2, rdN vn ns.length (intsV ns), tP]) (fun st => [(0, pB0 g), (13, vn), (14, .int .i64 (ns.length : Int)), (15, .int .i64 (st.1 : Int))]) (fun st => ns.length - st.1) (⟨0, v1, l ++ word⟩) ?_ takesA frsA (fun st km hx hk => ?_)
  · exact ⟨Nat.zero_le _, hv1, by simp [spcs]⟩
  obtain ⟨i, v2, tx⟩ := st
  obtain ⟨hi, hv2, htx⟩ := hx
  dsimp only at hi hv2 htx hk ⊢
  have htl : tx.length ≤ 1000000400 := by
    rw [htx]
    have := hsl i
    simp only [List.length_append]; omega
  by_cases hin : i < ns.length
  · obtain ⟨n, hn1⟩ : ∃ n, ns[i]? = some n := ⟨_, List.getElem?_eq_getElem hin⟩
    have hnv : (intsV ns)[i]? = some (.int .i64 n) := by unfold intsV; rw [List.getElem?_map, hn1]; rfl
    have hn64 := hns n (List.mem_of_getElem? hn1)
    have c23 := itoa_t n hn64
    have hil := Lib.itoa_length_le n hn64.1 hn64.2
    have hspl : (spc n).length = (Lib.itoa n).length + 1 := rfl
    have c25 := ws_t true g v2 hv2 tx (spc n) (by omega)
    have hv25 : ∀ v Γ', RWs g tx (spc n) v Γ' → v = .tuple #[.int .i64 ((spc n).length : Int), .nilIface] ∧ ∃ s : Value, Γ' = [bx g 70 (bdC true g s), ob s (tx ++ spc n)] ∧ s.oneCell' = true := fun v Γ' h => by
      obtain ⟨v', h1, h2, h3⟩ := h
      exact ⟨h2, v', h3, h1⟩
    have hsum : [32].length + (Lib.itoa n).length ≤ 9223372036854775807 := by simp only [List.length_cons, List.length_nil]; omega
    have htx2 : tx ++ spc n = l ++ word ++ spcs (ns.take (i + 1)) := by rw [htx, spcs_take hn1, List.append_assoc]
    repeat' (first
     | refine WPl.nil ?_ | refine WPq.then ?_ | refine WPq.thenR ?_ | refine WPq.thenE ?_ | refine WPq.blockN ?_ | refine WPq.blockR ?_ | refine WPq.blockE ?_ | refine WPq.blockO rfl ?_ | refine WPc.seq ?_ | refine WPc.block ?_ | refine WPc.ret ?_ | refine WPc.exit ?_ | refine WPc.skip ?_ | refine WPc.region ?_
     | (refine isReg 4 ?_; refine WPc.drA [([7, 8], [22, 23, 24]), ([0, 7, 8], [19, 22, 23, 24]), ([0, 1, 7, 8], [19, 20, 22, 23, 24]), ([7, 8], [19, 20, 21]), ([3, 7, 8], [19, 20, 21, 22]), ([3, 4, 7, 8], [19, 20, 21, 22, 23]), ([0, 1, 2, 3, 4, 5, 7, 8], [19, 20, 21, 22, 23, 24])] [(7, 6), (8, 6), (7, 0), (7, 1), (7, 2), (7, 3), (7, 4), (7, 5), (8, 0), (8, 1), (8, 2), (8, 3), (8, 4), (8, 5)] (Γx := [bx g 70 (bdC true g v2), ob v2 tx]) ?_; dsimp only [prev0, List.length_nil, List.length_cons])
     | (refine gAny ?_; first | (refine gC 25 ?_; refine RGl.relG (.tuple #[.int .i64 ((spc n).length : Int), .nilIface]) (fun s : Value => [bx g 70 (bdC true g s), ob s (tx ++ spc n)]) (fun s => s.oneCell' = true) (hv25) (fun e hk => by (try dsimp only [bndR, ensR, oksR, fcutR, List.append_nil, List.nil_append, List.cons_append, List.append_assoc] at hk ⊢); exact OpT.callTs (c25)) ?_) | (refine gD 16 ?_; refine RGl.rdX (fun e hk => by (try dsimp only [bndR, ensR, oksR, fcutR, List.append_nil, List.nil_append, List.cons_append, List.append_assoc] at hk ⊢); exact ReadR.binE rfl rfl BinR.lss (congrArg Value.bool (decide_eq_true (show (i : Int) < (ns.length : Int) by omega)))) ?_) | (refine gD 17 ?_; refine RGl.rdX (fun e hk => by (try dsimp only [bndR, ensR, oksR, fcutR, List.append_nil, List.nil_append, List.cons_append, List.append_assoc] at hk ⊢); exact ReadR.indexE1 (i := i) rfl rfl hasA (by omega)) ?_) | (refine gD 18 ?_; refine RGl.rdX (fun e hk => by (try dsimp only [bndR, ensR, oksR, fcutR, List.append_nil, List.nil_append, List.cons_append, List.append_assoc] at hk ⊢); exact ReadR.loadE rfl hasA hnv) ?_) | ((refine gC 23 ?_; refine RGl.vl (fun e hk => OpT.callN c23 (hΔ := by (try dsimp only [bndR, ensR, oksR, fcutR, List.append_nil, List.nil_append, List.cons_append, List.append_assoc] at hk ⊢); exact provsR)) ?_)) | (refine gD 24 ?_; refine RGl.rdX (fun e hk => by (try dsimp only [bndR, ensR, oksR, fcutR, List.append_nil, List.nil_append, List.cons_append, List.append_assoc] at hk ⊢); exact ReadR.binE rfl rfl (BinR.sAdd hsum) rfl) ?_) | (refine gOp ?_; first | refine RGl.rdA ?_ | refine RGl.rdX (fun e hk => by (try dsimp only [bndR, ensR, oksR, fcutR, List.append_nil, List.nil_append, List.cons_append, List.append_assoc] at hk ⊢); exact readB) ?_) | (refine RGl.fin (fun e hk => ?_); (try dsimp only [bndA, ensAR, oksA, List.append_nil, List.nil_append, List.cons_append, List.append_assoc] at hk ⊢); (repeat (obtain ⟨hk1, hk⟩ := hk))) | fail)
     | (refine isCond ?_; first | refine WPc.cT ?_ | refine WPc.cF ?_ | (refine WPc.cQ (fun hc => ?_) (fun hc => ?_) <;> try exact prA))
     | (refine isD 16 ?_; refine WPl.rdX (ReadR.binE rfl rfl BinR.lss (congrArg Value.bool (decide_eq_true (show (i : Int) < (ns.length : Int) by omega)))) ?_)
     | (refine isD 17 ?_; refine WPl.rdX (ReadR.indexE1 (i := i) rfl rfl hasA (by omega)) ?_)
     | (refine isD 18 ?_; refine WPl.rdX (ReadR.loadE rfl hasA hnv) ?_)
     | (refine isOp ?_; first | refine WPl.rd ?_ | refine WPl.sk ?_ | refine WPl.rdB ?_)
     | (show WPl _ _ _ _ _ _ _ (⟨_, .indexAddr _ _ _, _, _, _, _⟩ :: _) _; refine WPl.rdX (ReadR.indexE rfl rfl hasA (by first | assumption | omega)) ?_)
     | (show WPl _ _ _ _ _ _ _ (⟨_, .fieldAddr _ _ _, _, _, _, _⟩ :: _) _; refine WPl.rdX (ReadR.fieldE rfl hasA (by first | assumption | omega)) ?_)
     | (show WPl _ _ _ _ _ _ _ (⟨_, .load _ _, _, _, _, _⟩ :: _) _; first | refine WPl.rdX (ReadR.loadE rfl hasA (by assumption)) ?_ | refine WPl.rdX (ReadR.loadES (by assumption) (by first | assumption | omega) rfl hasA) ?_)
     | (show WPl _ _ _ _ _ _ _ (⟨_, .slice _ _ _ _ _, _, _, _, _⟩ :: _) _; first | refine WPl.rdX (ReadR.sliceH rfl rfl hasA (by omega)) ?_ | refine WPl.rdX (ReadR.sliceL rfl rfl hasA (by omega)) ?_ | refine WPl.rdX (ReadR.sliceLH rfl rfl rfl hasA (by omega) (by omega)) ?_)
     | (refine WPl.spQ (fun hc => ?_) (fun hc => ?_) <;> try exact prA)
     | fail)
    dsimp only [Nat.reduceAdd]
    have hA : (pickG (fun s : Value => [bx g 70 (bdC true g s), ob s (tx ++ spc n)]) (fun s => s.oneCell' = true) (e 6).2).oneCell' = true := by assumption
    generalize pickG (fun s : Value => [bx g 70 (bdC true g s), ob s (tx ++ spc n)]) (fun s => s.oneCell' = true) (e 6).2 = v3 at hA ⊢
    exact WPq.rnd (i + 1, v3, tx ++ spc n) ⟨by dsimp only; omega, hA, htx2⟩ (by dsimp only; omega)
  · have hie : i = ns.length := by omega
    subst hie
    rw [List.take_length] at htx
    have c30 := ws_t true g v2 hv2 tx [10] (by simp only [List.length_cons, List.length_nil]; omega)
    repeat' (first
     | refine WPl.nil ?_ | refine WPq.then ?_ | refine WPq.thenR ?_ | refine WPq.thenE ?_ | refine WPq.blockN ?_ | refine WPq.blockR ?_ | refine WPq.blockE ?_ | refine WPq.blockO rfl ?_ | refine WPc.seq ?_ | refine WPc.block ?_ | refine WPc.ret ?_ | refine WPc.exit ?_ | refine WPc.skip ?_ | refine WPc.region ?_
     | (refine isCond ?_; first | refine WPc.cT ?_ | refine WPc.cF ?_ | (refine WPc.cQ (fun hc => ?_) (fun hc => ?_) <;> try exact prA))
     | (refine isD 16 ?_; refine WPl.rdX (ReadR.binE rfl rfl BinR.lss (congrArg Value.bool (decide_eq_false (show ¬ (ns.length : Int) < (ns.length : Int) by omega)))) ?_)
     | (refine isC 30 ?_; refine WPl.cXs (c30) fun v Γ1 hR => ?_; obtain ⟨v3, hv3, rfl, rfl⟩ := hR; (try dsimp only [putF, List.cons_append, List.nil_append]))
     | (refine isOp ?_; first | refine WPl.rd ?_ | refine WPl.sk ?_ | refine WPl.rdB ?_)
     | (show WPl _ _ _ _ _ _ _ (⟨_, .indexAddr _ _ _, _, _, _, _⟩ :: _) _; refine WPl.rdX (ReadR.indexE rfl rfl hasA (by first | assumption | omega)) ?_)
     | (show WPl _ _ _ _ _ _ _ (⟨_, .fieldAddr _ _ _, _, _, _, _⟩ :: _) _; refine WPl.rdX (ReadR.fieldE rfl hasA (by first | assumption | omega)) ?_)
     | (show WPl _ _ _ _ _ _ _ (⟨_, .load _ _, _, _, _, _⟩ :: _) _; first | refine WPl.rdX (ReadR.loadE rfl hasA (by assumption)) ?_ | refine WPl.rdX (ReadR.loadES (by assumption) (by first | assumption | omega) rfl hasA) ?_)
     | (show WPl _ _ _ _ _ _ _ (⟨_, .slice _ _ _ _ _, _, _, _, _⟩ :: _) _; first | refine WPl.rdX (ReadR.sliceH rfl rfl hasA (by omega)) ?_ | refine WPl.rdX (ReadR.sliceL rfl rfl hasA (by omega)) ?_ | refine WPl.rdX (ReadR.sliceLH rfl rfl rfl hasA (by omega) (by omega)) ?_)
     | (refine WPl.spQ (fun hc => ?_) (fun hc => ?_) <;> try exact prA)
     | fail)
    exact WPq.dX (vs := []) [bx g 70 (bdC true g v3), ob v3 (tx ++ [10])] ⟨v3, hv3, rfl, by rw [htx]⟩
end Go.Proofs.YtagedgcdonodfaaDoor
/- Bags: what belongs to the elements of a list, as one assertion. -/
namespace Go.Proofs.YtagedgcdonodfaaDoor
open Go.RowKit
set_option linter.unusedSimpArgs false
set_option linter.unusedVariables false
/-- What belongs to the elements of a list. -/
def gbag {α : Type} (row : α → List Asn) (es : List α) : Asn := star (es.flatMap row)
theorem gbag_own {α : Type} {row : α → List Asn} {es : List α} : (gbag row es).own = true := rfl
section
variable {P : Program} {n : Nat} {W : World} {S : Nat → Prop} {Γ : List Asn} {F : List (Nat × Value)} {Q : Exit → Act → World → Prop} {ops : Array Oper} {os : List Oper}
theorem gbag_all {α : Type} {row : α → List Asn} (ho : ∀ x A, A ∈ row x → A.own = true) (es : List α) : ∀ A, A ∈ es.flatMap row → A.own = true := by
  intro A hA
  obtain ⟨x, _, h⟩ := List.mem_flatMap.1 hA
  exact ho x A h
theorem gbag_perm {α : Type} {row : α → List Asn} {es es' : List α} {x : α} (hp : es.Perm (x :: es')) (Γf : List Asn) : (es.flatMap row ++ Γf).Perm (es'.flatMap row ++ (row x ++ Γf)) := by
  have h1 : (es.flatMap row).Perm (row x ++ es'.flatMap row) := by
    have := hp.flatMap_right row
    rwa [List.flatMap_cons] at this
  refine (h1.append_right Γf).trans ?_
  rw [← List.append_assoc]
  exact (List.perm_append_comm).append_right Γf
theorem Good.gbagIn {α : Type} {row : α → List Asn} {es es' : List α} {x : α} {Γf : List Asn} {w : World} (ho : ∀ x A, A ∈ row x → A.own = true) (hp : es.Perm (x :: es')) (h : Good W S (gbag row es' :: (row x ++ Γf)) w) : Good W S (gbag row es :: Γf) w :=
  ((h.open' (gbag_all ho es')).perm (gbag_perm hp Γf).symm).close (gbag_all ho es)
theorem Good.gbag0 {α : Type} {row : α → List Asn} {w : World} (h : Good W S Γ w) : Good W S (gbag row [] :: Γ) w := Good.close (Γ1 := []) (by intro A hA; cases hA) h
theorem WPq.gbagI {α : Type} {row : α → List Asn} {es es' : List α} {x : α} {e : Exit} {Γf : List Asn} (ho : ∀ x A, A ∈ row x → A.own = true) (hp : es.Perm (x :: es')) (ht : Takes Γ (gbag row es' :: row x) Γf) (k : WPq n W S (gbag row es :: Γf) F Q e) : WPq n W S Γ F Q e := fun a w hf hg => k a w hf (Good.gbagIn ho hp (hg.perm ht))
theorem WPc.gbag0 {α : Type} (row : α → List Asn) {c : Code} (k : WPc P n W S (gbag row [] :: Γ) F c Q) : WPc P n W S Γ F c Q := fun a w hf hg => k a w hf hg.gbag0
section
variable {K V : Type} [DecidableEq K] {M : MK K V} {T : TypeId} {ty : TypeId} {pos : String} {af : Array Edge} {gd : Option (Nat × Bool)}
theorem ReadR.lookM [h : MapI P T M] {d : Option Tmp} {x i : Operand} {g : Nat} {l : List (K × V)} {k : K} {c : Value} (hkw : M.wf k) (hx : evF F x = some (.map (some g))) (hi : evF F i = some (M.kc k)) (hm : rmp M g l ∈ Γ) (hc : M.vc (mget M l k) = c) :
    ReadR P n Γ F ⟨d, .lookup T x i false, ty, pos, af, gd⟩ c := fun ρ w hf hw =>
  ReadR.look (Γ := [mp M g l]) hkw hx hi (List.mem_cons_self ..) hc ρ w hf (fun A hA => by rw [List.mem_singleton.1 hA]; have h0 : (rmp M g l).holds w := hw _ hm; exact h0)
end
end
end Go.Proofs.YtagedgcdonodfaaDoor
