/- What the row of farmPlays_holds needs: part 4. -/
import Derived.Test.YtpjfkomicehinaaFPl3
import Derived.Shelf.SlGeneric
import Derived.Shelf.SlIterI.Sorted
import Derived.Shelf.Sort.Plain
import Derived.Test.YtpjfkomicehinaaProg
import Derived.Shelf.Slices.In.SortNone
/- Drawn regions with calls that are told by a relation; stores of structs into rows. -/
namespace Go.Proofs.Ytpjfkomicehinaa
open Go.RowKit
set_option linter.unusedSimpArgs false
set_option linter.unusedVariables false
/-- What a list of what is owned is told by. -/
noncomputable def pickG {σ : Type} [Inhabited σ] (G : σ → List Asn) (ok : σ → Prop) (Γ : List Asn) : σ := Classical.epsilon (fun x => Γ = G x ∧ ok x)
section
variable {P : Program} {n : Nat} {Γ : List Asn} {F : List (Nat × Value)} {ops : Array Oper} {eats : List (Nat × Nat)} {K : Prev → Prop} {j : Nat} {os : List Oper} {o : Oper} {D bad : List Nat} {Ds : List (List Nat × List Nat)} {prev : Prev}
/-- The same, told by a state. -/
theorem RGl.relG {σ : Type} [Inhabited σ] {R : Value → List Asn → Prop} (c : Value) (G : σ → List Asn) (ok : σ → Prop) {Γ1 : Env → List Asn} (hR : ∀ v Γ', R v Γ' → v = c ∧ ∃ x, Γ' = G x ∧ ok x) (h : ∀ e, oksR D e prev → OpT P n (ensR eats D j e prev ++ Γ) (bndR D e prev ++ fcutR bad F) o (Γ1 e) R)
    (k : RGl P n Γ F ops eats K (j + 1) os Ds ((j, o.dst, ⟨fun _ _ => c, fun _ r => G (pickG G ok r.2), fun _ r => ok (pickG G ok r.2)⟩) :: prev)) (hs : ∀ e, ∀ A, A ∈ Γ1 e → A ∈ eaten1R eats j e prev := by intro e A hA; first | exact hA | simpa [eaten1R, psp, or_comm] using hA) (hw : ∀ e, wantG (bndR D e prev ++ fcutR bad F) ops o.guard = some true := by intro e; first | rfl | fail) :
    RGl P n Γ F ops eats K j (o :: os) ((D, bad) :: Ds) prev :=
  RGl.stepR (fun e he => .op (hw e) (h e he) (hs e) (by intro v Γ' hr; obtain ⟨h1, hx⟩ := hR v Γ' hr; have h2 := Classical.epsilon_spec hx; exact ⟨h1, h2.1, h2.2⟩)) (fun e _ => ⟨rfl, rfl, rfl⟩) k
variable {d : Option Tmp} {ty : TypeId} {pos : String} {af : Array Edge} {gd : Option (Nat × Bool)}
end
end Go.Proofs.Ytpjfkomicehinaa
/- Separation: maps that are only read; clear; calls that read and own at once; function values that only read. -/
namespace Go.Proofs.Ytpjfkomicehinaa
section
open Go.RowKit
set_option linter.unusedSimpArgs false
set_option linter.unusedVariables false
def rmp {K V : Type} (M : MK K V) (g : Nat) (l : List (K × V)) : Asn where
  own := false
  fp := (mp M g l).fp
  holds := (mp M g l).holds
  lt := (mp M g l).lt
  loc := (mp M g l).loc
/-- The same, its entries told. -/
def rme {K V : Type} (M : MK K V) (m : Nat) (l : List (K × V)) (es : Array MapEntry) (clock : Nat) : Asn where
  own := false
  fp := fun g' => g' = m
  holds := fun w => w.heap[m]? = some (.map es clock) ∧ es.toList.map (fun e => (e.key, e.val)) = l.map (fun x => (M.kc x.1, M.vc x.2)) ∧ (es.toList.map (fun e : MapEntry => e.born)).Pairwise (fun a b : Nat => a < b) ∧ (∀ e ∈ es.toList, e.born < clock) ∧ (l.map (fun x : K × V => x.1)).Nodup ∧ ∀ x ∈ l, M.wf x.1
  lt := fun w h g' hg => by
    subst hg
    exact (Array.getElem?_eq_some_iff.1 h.1).1
  loc := fun w w' h hl => ⟨by rw [hl m rfl]; exact h.1, h.2⟩
/-- An iterator of a map that is only read. -/
def rgo {K V : Type} (M : MK K V) (m r : Nat) (l : List (K × V)) (es : Array MapEntry) (clock : Nat) (td : List (K × V)) (c : Option (K × V)) : Asn where
  own := true
  fp := fun g => g = r
  holds := fun w => ∃ since seen c0, w.heap[r]? = some (.mapIter (some m) since seen c0) ∧
    (since ≤ c0 ∧ since ≤ clock) ∧ (∀ e ∈ es.toList, e.born < since) ∧ (leftOf es seen).toList.map (fun e => (e.key, e.val)) = td.map (fun x => (M.kc x.1, M.vc x.2)) ∧ td.Sublist l ∧
    (∀ x, c = some x → c0 = clock ∧ ∃ e ∈ es.toList, seen.back? = some e.born ∧ e.key = M.kc x.1 ∧ e.val = M.vc x.2)
  lt := fun w h g hg => by
    obtain ⟨since, seen, c0, h1, _⟩ := h
    subst hg
    exact (Array.getElem?_eq_some_iff.1 h1).1
  loc := fun w w' h hl => by
    obtain ⟨since, seen, c0, h1, h3⟩ := h
    exact ⟨since, seen, c0, by rw [hl r rfl]; exact h1, h3⟩
theorem Prov.mp {K V : Type} {M : MK K V} {Γ : List Asn} {g : Nat} {l : List (K × V)} (h : Go.Proofs.Ytpjfkomicehinaa.mp M g l ∈ Γ) : Prov Γ (rmp M g l) := ⟨rfl, fun w hw => hw (Go.Proofs.Ytpjfkomicehinaa.mp M g l) h⟩
theorem Prov.rmp {K V : Type} {M : MK K V} {Γ : List Asn} {g : Nat} {l : List (K × V)} (h : Go.Proofs.Ytpjfkomicehinaa.rmp M g l ∈ Γ) : Prov Γ (Go.Proofs.Ytpjfkomicehinaa.rmp M g l) := ⟨rfl, fun w hw => hw _ h⟩
theorem provsM {Γ Δ : List Asn} (h : Provs Γ Δ := by ((repeat' (first | exact Provs.nil | apply Provs.cons | exact Prov.bx memA | exact Prov.mp memA | exact Prov.rbx memA | exact Prov.rmp memA | exact provA | fail)) <;> fail)) : Provs Γ Δ := h
section
variable {P : Program} {n : Nat} {W : World} {S : Nat → Prop} {Γ : List Asn} {F : List (Nat × Value)} {Q : Exit → Act → World → Prop} {ops : Array Oper} {os : List Oper}
variable {ty : TypeId} {pos : String} {af : Array Edge} {gd : Option (Nat × Bool)}
variable {K V : Type} {T : TypeId} {M : MK K V}
def RRgo (M : MK K V) (m : Nat) (l : List (K × V)) (es : Array MapEntry) (clock : Nat) : Value → List Asn → Prop := fun v Γ => ∃ r, v = .pointer (some ⟨r, 0, none⟩) ∧ Γ = [rgo M m r l es clock l none]
def RNxtO (M : MK K V) (m r : Nat) (l : List (K × V)) (es : Array MapEntry) (clock : Nat) (td : List (K × V)) (c : Option (K × V)) : Value → List Asn → Prop := fun v Γ =>
  (td = [] ∧ v = .tuple #[.bool false] ∧ Γ = [rgo M m r l es clock td c]) ∨ ∃ A x B, td = A ++ x :: B ∧ v = .tuple #[.bool true, M.kc x.1, M.vc x.2] ∧ Γ = [rgo M m r l es clock (A ++ B) (some x)]
end
end
section
open Go.RowKit
set_option linter.unusedSimpArgs false
set_option linter.unusedVariables false
/-- So many elements of no value. -/
def clr (P : Program) (e : TypeId) (j : Nat) : List Value := match (P.info? e).bind (·.zero) with
  | some z => (Builtin.zeroCells z.cells j).toList
  | none => []
section
variable {P : Program} {n : Nat} {W : World} {S : Nat → Prop} {Γ : List Asn} {F : List (Nat × Value)} {Q : Exit → Act → World → Prop} {ops : Array Oper} {os : List Oper}
variable {d : Option Tmp} {ty : TypeId} {pos : String} {af : Array Edge} {gd : Option (Nat × Bool)}
theorem OpT.clearN {T e : TypeId} {sz k j m : Nat} [hT : SliI P T e] [he : EltN P e sz] {x : Operand} {s : Value} {xs : List Value} {Γf : List Asn} (hz1 : ((P.info? e).bind (·.zero)).map (fun z => z.cells.toList.all (fun v => v.oneCell')) = some true) (hx : evF F x = some (subv sz s k j)) (hp : Takes Γ [rowN e sz s m xs] Γf) (hkj : k + j = m) :
    OpT P n Γ F ⟨d, .call { callee := .builtin .clear, args := #[x], argTypes := #[T] }, ty, pos, af, gd⟩ [rowN e sz s m xs] (RLeave [rowN e sz s m (xs.take (k * sz) ++ clr P e j)]) := fun ρ w hf hw _ => by
  obtain ⟨i0, z, hi, hz0, hz2, hzs, hby, hsz⟩ := he.parts
  have hb : (rowN e sz s m xs).holds w := hw _ (hp.mem_iff.2 (List.mem_cons_self ..))
  have hone : ∀ v ∈ z.cells.toList, v.oneCell' = true := by
    rw [hi] at hz1
    simp only [Option.bind_some, hz0, Option.map_some, Option.some.injEq, List.all_eq_true] at hz1
    exact hz1
  have hcl : clr P e j = (Builtin.zeroCells z.cells j).toList := by unfold clr; rw [hi]; simp [hz0]
  have hlen : (clr P e j).length = j * sz := by rw [hcl]; simp [Builtin.zeroCells, hzs]
  have hall : ∀ v ∈ clr P e j, v.oneCell' = true := by
    intro v hv
    rw [hcl] at hv
    simp only [Builtin.zeroCells, Array.toList_map, List.mem_map] at hv
    obtain ⟨i, _, rfl⟩ := hv
    have hlt : i % z.cells.size < z.cells.size := Nat.mod_lt _ (by rw [hzs]; exact hsz)
    rw [getElem!_pos z.cells _ hlt]
    exact hone _ (by simp)
  have hzv : (zeroValue e).run P w = .ok z w := by simp [zeroValue, typeInfo, hi, hz0]
  obtain ⟨h2, h3⟩ := hb
  have hxl : xs.length = m * sz := h2
  by_cases hj : j = 0
  · subst hj
    have e1 : xs.take (k * sz) ++ clr P e 0 = xs := by
      have : clr P e 0 = [] := List.length_eq_zero_iff.1 (by rw [hlen]; simp)
      rw [this, List.append_nil, List.take_of_length_le (by rw [hxl, ← hkj]; simp)]
    have hrun : (execOp ρ.eval ⟨d, .call { callee := .builtin .clear, args := #[x], argTypes := #[T] }, ty, pos, af, gd⟩).run P w = .ok (.value (.tuple #[])) w := by
      rcases h3 with ⟨rfl, h0⟩ | ⟨g, cap, cur, rfl, _⟩
      · simp [execOp, resolve, invoke, builtin, hf.eval hx, subv, Builtin.clear_, run_underlying hT.und, Sem.run_bind]
      · simp [execOp, resolve, invoke, builtin, hf.eval hx, subv, Builtin.clear_, run_underlying hT.und, Sem.run_bind]
    unfold DoesW
    rw [hrun, e1]
    exact ⟨_, rfl, .one (Mod.refl _ _) ⟨h2, h3⟩ fun g hg => .inr ⟨_, List.mem_singleton.2 rfl, rfl, hg⟩⟩
  · have hm : m ≠ 0 := by omega
    rcases h3 with ⟨_, h0⟩ | ⟨g, cap, cur, rfl, hB, hg, hnc, hcm, hcs, ht⟩
    · exact absurd h0 hm
    have hck : ¬ cap = k := by omega
    have e2 : m * sz ≤ cap * sz := Nat.mul_le_mul_right sz hnc
    have e3 : k * sz + j * sz = m * sz := by rw [← Nat.add_mul, hkj]
    have hst := run_storeCells_at P g (k * sz) e (clr P e j) 0 cur w hg (by rw [hlen]; omega) hall
    simp only [Nat.add_zero, hlen] at hst
    obtain ⟨j', rfl⟩ : ∃ j', j = j' + 1 := ⟨j - 1, by omega⟩
    have hrun : (execOp ρ.eval ⟨d, .call { callee := .builtin .clear, args := #[x], argTypes := #[T] }, ty, pos, af, gd⟩).run P w = .ok (.value (.tuple #[])) (w.setRow g (cur.toList.take (k * sz) ++ clr P e (j' + 1) ++ cur.toList.drop (k * sz + (j' + 1) * sz)).toArray) := by
      simp [execOp, resolve, invoke, builtin, hf.eval hx, subv, hck, Builtin.clear_, run_underlying hT.und, Sem.run_bind, hzv, ← hcl, add_mk, hst]
    unfold DoesW
    rw [hrun]
    have hg' : ownFp [rowN e sz (.slice (some ⟨g, 0, none⟩) m cap) m xs] g := ⟨_, List.mem_singleton.2 rfl, rfl, rfl⟩
    have hA : (cur.toList.take (k * sz)).length = k * sz := by rw [List.length_take]; simp; omega
    have hX : (xs.take (k * sz)).length = k * sz := by rw [List.length_take]; omega
    refine ⟨_, rfl, .one (Mod.setRow hg' _ _) ⟨?_, .inr ⟨g, cap, _, rfl, hB, setRow_heap w g _ _ e (0, 0) hg, hnc, hcm, ?_, ?_⟩⟩ fun k hk => .inr (by cases hk; exact hg')⟩
    · rw [List.length_append, hX, hlen]; exact e3
    · simp only [List.size_toArray, List.length_append, hA, hlen, List.length_drop, Array.length_toList]
      omega
    · have e5 : cur.toList.take (k * sz) = xs.take (k * sz) := by rw [← ht, List.take_take]; congr 1; omega
      rw [List.toList_toArray, List.take_append_of_le_length (by rw [List.length_append, hA, hlen]; omega), List.take_of_length_le (by rw [List.length_append, hA, hlen]; omega), e5]
theorem WPl.clearN {T e : TypeId} {sz k j m : Nat} [hT : SliI P T e] [he : EltN P e sz] {x : Operand} {s : Value} {xs : List Value} {Γf : List Asn} (hz1 : ((P.info? e).bind (·.zero)).map (fun z => z.cells.toList.all (fun v => v.oneCell')) = some true) (hkj : k + j = m) (k0 : WPl P n W S (rowN e sz s m (xs.take (k * sz) ++ clr P e j) :: Γf) F ops os Q)
    (hx : evF F x = some (subv sz s k j) := by first | rfl | fail) (hp : Take Γ (rowN e sz s m xs) Γf := by first | exact takeA | fail) (hw : wantG F ops gd = some true := by first | rfl | fail) :
    WPl P n W S Γ F ops (⟨none, .call { callee := .builtin .clear, args := #[x], argTypes := #[T] }, ty, pos, af, gd⟩ :: os) Q := WPl.turn (.cons hp .nil) rfl hw (OpT.clearN hz1 hx (.cons hp .nil) hkj) k0
end
end
section
open Go.RowKit
set_option linter.unusedSimpArgs false
set_option linter.unusedVariables false
section
variable {P : Program} {n : Nat} {W : World} {S : Nat → Prop} {Γ : List Asn} {F : List (Nat × Value)} {Q : Exit → Act → World → Prop} {ops : Array Oper} {os : List Oper}
variable {ty : TypeId} {pos : String} {af : Array Edge} {gd : Option (Nat × Bool)}
theorem OpT.callM {d : Option Tmp} {f : FuncId} {xs : List Operand} {ts : Array TypeId} {vs : List Value} {Δ Γo Γf : List Asn} {R : Value → List Asn → Prop}
    (h : Triple P f vs.toArray (Δ ++ Γo) R) (hx : evFs F xs vs) (hp : Takes Γ Γo Γf) (hΔ : Provs Γf Δ) (hB : ∀ A, A ∈ Δ → ∃ B, B ∈ Γf ∧ ∀ g, A.fp g → B.fp g) (hc : isCode P f = true) : OpT P n Γ F ⟨d, .call { callee := .value (.func f), args := xs.toArray, argTypes := ts }, ty, pos, af, gd⟩ Γo R := by
  intro ρ w hf hw ha
  unfold DoesW
  rw [run_call hc, hx.map hf]
  have hap := apart_perm hp ha
  refine (Triple.frame (Δ := Δ) (Γo := Γo) (Γf := Γf) h (fun A hA => hw A (hp.mem_iff.2 hA)) hap hΔ (fun A hA g hg ho => ?_)).mono ?_
  · obtain ⟨B, hB1, hB2⟩ := hB A hA
    obtain ⟨C, hC, hCo, hCg⟩ := ho
    exact (List.pairwise_append.1 hap).2.2 C hC B hB1 (.inl hCo) g hCg (hB2 g hg)
  · rintro e w' ⟨v, Γ', he, hR, hp⟩
    exact ⟨v, he, Γ', hR, hp⟩
theorem OpT.callFV {d : Option Tmp} {f : FuncId} {x : Operand} {xs : List Operand} {ts : Array TypeId} {vs : List Value} {cb : List Value} {Δ : List Asn} {R : Value → List Asn → Prop}
    (h : Triple P f (vs ++ cb).toArray Δ R) (hf0 : evF F x = some (.func (.func f) #[] cb.toArray)) (hx : evFs F xs vs) (hΔ : Provs Γ Δ) (hc : isCode P f = true) : OpT P n Γ F ⟨d, .call { callee := .value x, args := xs.toArray, argTypes := ts }, ty, pos, af, gd⟩ [] R := by
  intro ρ w hf hw ha
  unfold DoesW
  rw [run_callF hc (hf.eval hf0), hx.map hf, show vs.toArray ++ cb.toArray = (vs ++ cb).toArray by simp]
  refine (Triple.frame (Δ := Δ) (Γo := []) (Γf := Γ) (by rw [List.append_nil]; exact h) hw ha hΔ (fun A _ g _ ho => by obtain ⟨C, hC, _⟩ := ho; cases hC)).mono ?_
  rintro e w' ⟨v, Γ', he, hR, hp⟩
  exact ⟨v, he, Γ', hR, hp⟩
theorem WPl.cFV {d : Nat} {f : FuncId} {x : Operand} {xs : List Operand} {ts : Array TypeId} {Δ : List Asn} {c : Value} (vs cb : List Value)
    (h : Triple P f (vs ++ cb).toArray Δ (RVal c)) (k : WPl P n W S Γ ((d, c) :: F) ops os Q) (hf0 : evF F x = some (.func (.func f) #[] cb.toArray) := by first | rfl | assumption | fail) (hx : evFs F xs vs := by first | exact evsA | fail) (hΔ : Provs Γ Δ := by first | exact provsM | fail) (hc : isCode P f = true := by first | kernel_rfl | assumption | fail) (hd : Nat.blt d n = true := by first | rfl | fail) (hw : wantG F ops gd = some true := by first | rfl | fail) :
    WPl P n W S Γ F ops (⟨some d, .call { callee := .value x, args := xs.toArray, argTypes := ts }, ty, pos, af, gd⟩ :: os) Q :=
  WPl.op .nil hd hw (OpT.callFV h hf0 hx hΔ hc) (by rintro v Γ' ⟨rfl, rfl⟩; exact k)
end
end
end Go.Proofs.Ytpjfkomicehinaa
/- The contracts of Go library functions, laid at this program (written by a tool). -/
namespace Go.Proofs
open Go.Shelf
def Try.sortedA_ren : Go.Shelf.Ren := ⟨fun | 6 => 30 | 8 => 54 | 9 => 55 | 11 => 61 | 13 => 63 | 12 => 62 | 23 => 75 | 24 => 76 | 14 => 66 | 15 => 67 | 16 => 68 | 17 => 69 | 18 => 70 | 19 => 71 | 20 => 72 | 21 => 73 | 22 => 74 | 25 => 77 | 26 => 78 | 27 => 79 | 28 => 80 | 29 => 81 | 30 => 59 | 31 => 82 | n => n, fun | 26 => 3 | 28 => 82 | 24 => 40 | 0 => 0 | 3 => 3 | 37 => 105 | 48 => 121 | 50 => 27 | 4 => 4 | 40 => 114 | 39 => 113 | 45 => 55 | 5 => 5 | 9 => 9 | 51 => 123 | 55 => 127 | 57 => 129 | 58 => 130 | 33 => 74 | n => n, fun | n => n⟩
theorem Try.sortedA : Go.Proofs.SlLaysZI.n6 Try.prog Try.sortedA_ren := {
  mixed := by kernel_rfl
  f6 := ⟨Try.f30.name, by decide, Try.func30.trans (congrArg some (by kernel_rfl))⟩
  f8 := ⟨Try.f54.name, by decide, Try.func54.trans (congrArg some (by kernel_rfl))⟩
  f11 := ⟨Try.f61.name, by decide, Try.func61.trans (congrArg some (by kernel_rfl))⟩
  t0 := Try.underlying0
  a0 := Try.isAgg0
  z0 := Try.sizeOf0
  v0 := Try.zeroValue0
  t24 := Try.underlying40
  a24 := Try.isAgg40
  z24 := Try.sizeOf40
  v24 := Try.zeroValue40
  t26 := Try.underlying3
  a26 := Try.isAgg3
  z26 := Try.sizeOf3
  v26 := Try.zeroValue3
  t28 := Try.underlying82
  a28 := Try.isAgg82
  z28 := Try.sizeOf82
  v28 := Try.zeroValue82
  i26 := by kernel_rfl }
def Try.keysA_ren : Go.Shelf.Ren := ⟨fun | 7 => 31 | 10 => 56 | n => n, fun | 23 => 63 | 26 => 3 | 3 => 68 | 28 => 82 | 0 => 0 | 27 => 81 | 33 => 74 | 4 => 4 | n => n, fun | n => n⟩
theorem Try.keysA : Go.Proofs.SlLaysZI.n7 Try.prog Try.keysA_ren := {
  mixed := by kernel_rfl
  f7 := ⟨Try.f31.name, by decide, Try.func31.trans (congrArg some (by kernel_rfl))⟩
  f10 := ⟨Try.f56.name, by decide, Try.func56.trans (congrArg some (by kernel_rfl))⟩
  t0 := Try.underlying0
  a0 := Try.isAgg0
  z0 := Try.sizeOf0
  v0 := Try.zeroValue0
  t4 := Try.underlying4
  a4 := Try.isAgg4
  z4 := Try.sizeOf4
  v4 := Try.zeroValue4
  t23 := Try.underlying63
  a23 := Try.isAgg63
  z23 := Try.sizeOf63
  v23 := Try.zeroValue63
  t26 := Try.underlying3
  a26 := Try.isAgg3
  z26 := Try.sizeOf3
  v26 := Try.zeroValue3
  t27 := Try.underlying81
  a27 := Try.isAgg81
  z27 := Try.sizeOf81
  v27 := Try.zeroValue81
  t28 := Try.underlying82
  a28 := Try.isAgg82
  z28 := Try.sizeOf82
  v28 := Try.zeroValue82
  t33 := Try.underlying74
  a33 := Try.isAgg74
  z33 := Try.sizeOf74
  v33 := Try.zeroValue74 }
def Try.sortI_ren : Go.Shelf.Ren := ⟨fun | 189 => 55 | 125 => 63 | 257 => 62 | 128 => 75 | 129 => 76 | 294 => 66 | 295 => 67 | 296 => 68 | 297 => 69 | 298 => 70 | 299 => 71 | 216 => 72 | 300 => 73 | 301 => 74 | 328 => 77 | 329 => 78 | 330 => 79 | 331 => 80 | 332 => 81 | 215 => 59 | 343 => 82 | n => n, fun | 28 => 40 | 3 => 3 | 46 => 105 | 0 => 0 | 51 => 121 | 53 => 27 | 4 => 4 | 183 => 114 | 182 => 113 | 131 => 55 | 5 => 5 | 9 => 9 | 218 => 123 | 222 => 127 | 228 => 129 | 229 => 130 | n => n, fun | n => n⟩
theorem Try.sortI : Go.Proofs.Lays.n189 Try.prog Try.sortI_ren := {
  mixed := by kernel_rfl
  f125 := Try.func63.trans (congrArg some (by kernel_rfl))
  f128 := Try.func75.trans (congrArg some (by kernel_rfl))
  f129 := Try.func76.trans (congrArg some (by kernel_rfl))
  f189 := Try.func55.trans (congrArg some (by kernel_rfl))
  f215 := Try.func59.trans (congrArg some (by kernel_rfl))
  f216 := Try.func72.trans (congrArg some (by kernel_rfl))
  f257 := Try.func62.trans (congrArg some (by kernel_rfl))
  f294 := Try.func66.trans (congrArg some (by kernel_rfl))
  f295 := Try.func67.trans (congrArg some (by kernel_rfl))
  f296 := Try.func68.trans (congrArg some (by kernel_rfl))
  f297 := Try.func69.trans (congrArg some (by kernel_rfl))
  f298 := Try.func70.trans (congrArg some (by kernel_rfl))
  f299 := Try.func71.trans (congrArg some (by kernel_rfl))
  f300 := Try.func73.trans (congrArg some (by kernel_rfl))
  f301 := Try.func74.trans (congrArg some (by kernel_rfl))
  f328 := Try.func77.trans (congrArg some (by kernel_rfl))
  f329 := Try.func78.trans (congrArg some (by kernel_rfl))
  f330 := Try.func79.trans (congrArg some (by kernel_rfl))
  f331 := Try.func80.trans (congrArg some (by kernel_rfl))
  f332 := Try.func81.trans (congrArg some (by kernel_rfl))
  f343 := Try.func82.trans (congrArg some (by kernel_rfl))
  t0 := Try.underlying0
  a0 := Try.isAgg0
  z0 := Try.sizeOf0
  v0 := Try.zeroValue0
  t3 := Try.underlying3
  a3 := Try.isAgg3
  z3 := Try.sizeOf3
  v3 := Try.zeroValue3
  t4 := Try.underlying4
  a4 := Try.isAgg4
  z4 := Try.sizeOf4
  v4 := Try.zeroValue4
  t5 := Try.underlying5
  a5 := Try.isAgg5
  z5 := Try.sizeOf5
  v5 := Try.zeroValue5
  t9 := Try.underlying9
  a9 := Try.isAgg9
  z9 := Try.sizeOf9
  v9 := Try.zeroValue9
  t28 := Try.underlying40
  a28 := Try.isAgg40
  z28 := Try.sizeOf40
  v28 := Try.zeroValue40
  t46 := Try.underlying105
  a46 := Try.isAgg105
  z46 := Try.sizeOf105
  v46 := Try.zeroValue105
  t51 := Try.underlying121
  a51 := Try.isAgg121
  z51 := Try.sizeOf121
  v51 := Try.zeroValue121
  t53 := Try.underlying27
  a53 := Try.isAgg27
  z53 := Try.sizeOf27
  v53 := Try.zeroValue27
  t131 := Try.underlying55
  a131 := Try.isAgg55
  z131 := Try.sizeOf55
  v131 := Try.zeroValue55
  t182 := Try.underlying113
  a182 := Try.isAgg113
  z182 := Try.sizeOf113
  v182 := Try.zeroValue113
  t183 := Try.underlying114
  a183 := Try.isAgg114
  z183 := Try.sizeOf114
  v183 := Try.zeroValue114
  t218 := Try.underlying123
  a218 := Try.isAgg123
  z218 := Try.sizeOf123
  v218 := Try.zeroValue123
  t222 := Try.underlying127
  a222 := Try.isAgg127
  z222 := Try.sizeOf127
  v222 := Try.zeroValue127
  t228 := Try.underlying129
  a228 := Try.isAgg129
  z228 := Try.sizeOf129
  v228 := Try.zeroValue129
  t229 := Try.underlying130
  a229 := Try.isAgg130
  z229 := Try.sizeOf130
  v229 := Try.zeroValue130 }
end Go.Proofs
/- The keys of a map of ints, sorted: slices.Sorted(maps.Keys(m)). -/
namespace Go.Proofs.Ytpjfkomicehinaa
open Go.RowKit Go.Sort Go.Shelf
set_option linter.unusedSimpArgs false
set_option linter.unusedVariables false
def intsV (l : List Int) : List Value := l.map (Value.int .i64)
/-- A map of ints, whatever it holds. -/
theorem mapI_int {V : Type} {P : Program} {T kT eT : TypeId} {M : MK Int V} (hu : P.underlying T = some (.map kT eT)) (hk : P.underlying kT = some (.int .i64)) (hkt : P.keyType kT = true) (hM : ∀ k, M.kc k = .int .i64 k) (hwf : ∀ k, M.wf k → in64 k) (hz : (P.info? eT).bind (·.zero) = some (M.vc M.v0)) : MapI P T M where
  law := ⟨kT, eT, hu, Go.Maps.int_keyed hk, fun k h => by
    have h1 := hwf k h
    have h2 : (Lit.int .i64 k).wf = true := in64_wf h1
    rw [hM]
    exact ⟨.int .i64 k, by simp [keyOf, hk, mapKey, h2]⟩, fun w => run_zero hz w⟩
  inj := fun a b h => by rw [hM, hM] at h; simpa using h
theorem mod_below {T : Nat → Prop} {w w' : World} (h : Below w.heap.size w w') : Mod T w w' := ⟨h.os, h.tape, h.output, h.size, h.size, fun g hg _ => h.block g hg⟩
/-- How its values are read: not at all. -/
def anyR : Value → Option (DataW Unit × List MemPlace) := fun _ => some (.nil, [])
theorem mp_owns {V : Type} {P : Program} {M : MK Int V} {m : Nat} {l : List (Int × V)} {w : World} {k : TypeId} (hk : P.underlying k = some (.int .i64)) (hM : ∀ k, M.kc k = .int .i64 k) (hwf : ∀ k, M.wf k → in64 k) (hl : l.length ≤ maxLen) (h : (mp M m l).holds w) :
    ∃ D : DataW Unit, w.ownsMap P k anyR m l.length D ∧ (intKeys D).Perm (l.map (·.1)) ∧ Maps.size D = l.length := by
  obtain ⟨es, clock, hb, he, h1, h2, hn, hw⟩ := h
  have hlen : es.toList.length = l.length := by have := congrArg List.length he; simpa using this
  have hsz : es.size = l.length := by simpa using hlen
  have hrd : ∀ x ∈ es.toList, ∃ k0 : Int, x.key = .int .i64 k0 ∧ Go.WideElems.rd P k anyR x = some (.int .i64 k0, .nil) := fun x hx => by
    obtain ⟨y, hy, hyk⟩ := mp_key he hx
    have h3 : (Lit.int .i64 y.1).wf = true := in64_wf (hwf _ (hw y hy))
    refine ⟨y.1, by rw [hyk, hM], ?_⟩
    unfold Go.WideElems.rd
    rw [hyk, hM]
    simp [keyOf, hk, mapKey, h3, anyR]
  have hkeys : es.toList.map (·.key) = l.map (fun x => Value.int .i64 x.1) := by
    have := congrArg (List.map Prod.fst) he
    rw [List.map_map, List.map_map] at this
    refine this.trans (List.map_congr_left fun x _ => ?_)
    simp [hM]
  refine ⟨_, ⟨es, clock, hb, ⟨by omega, ⟨h2, h1.imp (fun h => Nat.ne_of_lt h), ?_⟩, fun x hx => ?_⟩, Nat.le_of_eq hsz, rfl⟩, ?_, ?_⟩
  · rw [hkeys]
    have : (l.map (fun x => Value.int .i64 x.1)) = (l.map (·.1)).map (Value.int .i64) := by rw [List.map_map]; rfl
    rw [this]
    exact hn.map _ (fun a b hab h => hab (by simpa using h))
  · obtain ⟨k0, _, h4⟩ := hrd x hx
    exact ⟨_, h4⟩
  · show (List.map (fun p : Lit × DataW Unit => Go.intOf p.1) (List.foldr DataW.insert [] (List.map (Go.WideElems.rg P k anyR) es.toList))).Perm _
    refine ((Go.WideShapes.sorted_perm _).map _).trans (.of_eq ?_)
    rw [List.map_map]
    have h5 : es.toList.map (fun x => Go.intOf (Go.WideElems.rg P k anyR x).1) = es.toList.map (fun x => match x.key with | .int _ a => a | _ => 0) := List.map_congr_left fun x hx => by
      obtain ⟨k0, h6, h7⟩ := hrd x hx
      rw [Go.WideElems.rg_of h7, h6]
      rfl
    refine h5.trans ?_
    have h8 : es.toList.map (fun x => match x.key with | .int _ a => a | _ => 0) = (es.toList.map (·.key)).map (fun v => match v with | Value.int _ a => a | _ => 0) := by rw [List.map_map]; rfl
    rw [h8, hkeys, List.map_map]
    rfl
  · show (List.foldr DataW.insert [] (List.map (Go.WideElems.rg P k anyR) es.toList)).length = _
    rw [(Go.WideShapes.sorted_perm _).length_eq, List.length_map, hlen]
theorem enters_isCode {P : Program} {g : FuncId} (hc : isCode P g = true) (args : Array Value) (w : World) : (callFunc g args).run P w = .ok (.enter g args) w := by
  unfold isCode at hc
  cases hf : P.funcs[g]? with
  | none => rw [hf] at hc; cases hc
  | some fn =>
    rw [hf] at hc
    simp only [Bool.and_eq_true, decide_eq_true_eq] at hc
    obtain ⟨h1, h2⟩ := hc
    obtain ⟨b, hb⟩ := Option.isSome_iff_exists.1 h2
    simp [callFunc, Sem.run_bind, hf, h1, hb, go_sem]
def RKeys (m : Nat) : Value → List Asn → Prop := fun v Γ => ∃ g, v = .func (.func 56) #[] #[.pointer (some ⟨g, 0, none⟩)] ∧ Γ = [bx g 63 [(1, [.map (some m)])]]
theorem keys_t (m : Nat) : Triple Try.prog 31 #[.map (some m)] [] (RKeys m) := by
  intro w hw ha
  have h := callsIn_wide.1 (AnyZI.keys_in Try.keysA Fence.wide 5 trivial rfl (some m) w)
  refine Calls.mono h ?_
  rintro e w' ⟨rfl, rfl⟩
  exact ⟨_, _, rfl, ⟨_, rfl, rfl⟩, .one (Mod.alloc _ _ _) ⟨alloc_new _ _, fokA⟩ fun g hg => by cases hg; exact .inl (Nat.le_refl _)⟩
theorem sorts_a (m : Nat) : AnyZI.SortsIn Try.prog Try.sortedA_ren Fence.wide m :=
  ⟨fun blk off cap ss W hH hblk hsz => callsIn_wide.2 (Any.slices_Sort_int Try.sortI blk off cap ss W hH hblk hsz),
   fun p cap W => callsIn_wide.2 (Any.slices_Sort_int_none Try.sortI p cap W)⟩
theorem sorted_t {V : Type} {M : MK Int V} (hM : ∀ k, M.kc k = .int .i64 k) (hwf : ∀ k, M.wf k → in64 k) (g m : Nat) (l : List (Int × V)) (hl : l.length ≤ 1000000000) :
    Triple Try.prog 30 #[.func (.func 56) #[] #[.pointer (some ⟨g, 0, none⟩)]] [rbx g 63 [(1, [.map (some m)])], rmp M m l] (RRow 3 1 l.length (intsV ((l.map (·.1)).mergeSort (fun x y => decide (x ≤ y))))) := by
  intro w hw ha
  have hg := hw _ (List.mem_cons_self ..)
  have hm0 : (rmp M m l).holds w := hw _ (List.mem_cons_of_mem _ (List.mem_cons_self ..))
  have hm : (mp M m l).holds w := hm0
  obtain ⟨D, hown, hperm, hsize⟩ := mp_owns (P := Try.prog) (k := 3) Try.underlying3 hM hwf (by unfold maxLen; omega) hm
  have hcell : w.cell? ⟨g, 0, none⟩ = some (.map (some m)) := by
    rw [bx_cell hg]; rfl
  have hglt := (rbx g 63 [(1, [.map (some m)])]).lt w hg g rfl
  have hseq : SeqGives Fence.wide 2 Try.prog 56 #[.pointer (some ⟨g, 0, none⟩)] encZ (fun ss => ss.Perm (intKeys D)) (Maps.size D) w :=
    AnyZI.keys_gives (ρ := Try.keysA_ren) { Try.keysA with } Fence.wide _ trivial rfl (by omega) g m l.length D w hglt hcell hown
  have h := AnyZI.sorted_in Try.sortedA Fence.wide 5 trivial trivial trivial trivial rfl (by omega) (sorts_a _) (fun args w => enters_isCode (by kernel_rfl) args w) 56 #[.pointer (some ⟨g, 0, none⟩)] trivial (fun args w => enters_isCode (by kernel_rfl) args w) _ (Maps.size D) (by rw [hsize]; unfold maxLen; omega) (by rw [hsize]; omega) w hseq
  refine Calls.mono (callsIn_wide.1 h) ?_
  rintro e w' ⟨v, ss, rfl, hS, hrow, hnil, hb⟩
  have hp2 : ss.Perm (l.map (·.1)) := hS.trans hperm
  have hlen : ss.length = l.length := by have := hp2.length_eq; simpa using this
  have hone : v.oneCell' = true := by
    rcases hrow.2 with ⟨rfl, _⟩ | ⟨g, c, cu, rfl, _⟩ <;> rfl
  refine ⟨_, _, rfl, ⟨hone, rfl⟩, .one (mod_below hb) ?_ fun g' hg' => .inl ?_⟩
  · show w'.ownsRow 0 _ _ _ _ _
    rw [← mergeSort_of_perm_i hp2, ← hlen]
    obtain ⟨h1, h2 | ⟨g2, c, cu, h3, hB, h4⟩⟩ := hrow
    · exact ⟨h1, .inl h2⟩
    · exact ⟨h1, .inr ⟨g2, c, cu, h3, Nat.zero_le _, h4⟩⟩
  · rcases hrow.2 with ⟨rfl, _⟩ | ⟨g2, c, cu, rfl, hB, _⟩
    · cases hg'
    · cases hg'; exact hB
end Go.Proofs.Ytpjfkomicehinaa
/- Bags: what belongs to the elements of a list, as one assertion. -/
namespace Go.Proofs.Ytpjfkomicehinaa
open Go.RowKit
set_option linter.unusedSimpArgs false
set_option linter.unusedVariables false
/-- What belongs to the elements of a list. -/
def gbag {α : Type} (row : α → List Asn) (es : List α) : Asn := star (es.flatMap row)
theorem gbag_own {α : Type} {row : α → List Asn} {es : List α} : (gbag row es).own = true := rfl
section
variable {P : Program} {n : Nat} {W : World} {S : Nat → Prop} {Γ : List Asn} {F : List (Nat × Value)} {Q : Exit → Act → World → Prop} {ops : Array Oper} {os : List Oper}
theorem gbag_all {α : Type} {row : α → List Asn} (ho : ∀ x A, A ∈ row x → A.own = true) (es : List α) : ∀ A, A ∈ es.flatMap row → A.own = true := by
  intro A hA
  obtain ⟨x, _, h⟩ := List.mem_flatMap.1 hA
  exact ho x A h
theorem gbag_perm {α : Type} {row : α → List Asn} {es es' : List α} {x : α} (hp : es.Perm (x :: es')) (Γf : List Asn) : (es.flatMap row ++ Γf).Perm (es'.flatMap row ++ (row x ++ Γf)) := by
  have h1 : (es.flatMap row).Perm (row x ++ es'.flatMap row) := by
    have := hp.flatMap_right row
    rwa [List.flatMap_cons] at this
  refine (h1.append_right Γf).trans ?_
  rw [← List.append_assoc]
  exact (List.perm_append_comm).append_right Γf
theorem Good.gbagOut {α : Type} {row : α → List Asn} {es es' : List α} {x : α} {Γf : List Asn} {w : World} (ho : ∀ x A, A ∈ row x → A.own = true) (hp : es.Perm (x :: es')) (h : Good W S (gbag row es :: Γf) w) : Good W S (gbag row es' :: (row x ++ Γf)) w :=
  ((h.open' (gbag_all ho es)).perm (gbag_perm hp Γf)).close (gbag_all ho es')
theorem Good.gbagIn {α : Type} {row : α → List Asn} {es es' : List α} {x : α} {Γf : List Asn} {w : World} (ho : ∀ x A, A ∈ row x → A.own = true) (hp : es.Perm (x :: es')) (h : Good W S (gbag row es' :: (row x ++ Γf)) w) : Good W S (gbag row es :: Γf) w :=
  ((h.open' (gbag_all ho es')).perm (gbag_perm hp Γf).symm).close (gbag_all ho es)
theorem Good.gbag0 {α : Type} {row : α → List Asn} {w : World} (h : Good W S Γ w) : Good W S (gbag row [] :: Γ) w := Good.close (Γ1 := []) (by intro A hA; cases hA) h
theorem WPc.gbagO {α : Type} {row : α → List Asn} {es es' : List α} {x : α} {c : Code} {Γf : List Asn} (ho : ∀ x A, A ∈ row x → A.own = true) (hp : es.Perm (x :: es')) (k : WPc P n W S (gbag row es' :: (row x ++ Γf)) F c Q) (ht : Take Γ (gbag row es) Γf := by first | exact takeA | fail) : WPc P n W S Γ F c Q := fun a w hf hg => k a w hf ((hg.perm ht).gbagOut ho hp)
theorem WPq.gbagI {α : Type} {row : α → List Asn} {es es' : List α} {x : α} {e : Exit} {Γf : List Asn} (ho : ∀ x A, A ∈ row x → A.own = true) (hp : es.Perm (x :: es')) (ht : Takes Γ (gbag row es' :: row x) Γf) (k : WPq n W S (gbag row es :: Γf) F Q e) : WPq n W S Γ F Q e := fun a w hf hg => k a w hf (Good.gbagIn ho hp (hg.perm ht))
theorem WPc.gbag0 {α : Type} (row : α → List Asn) {c : Code} (k : WPc P n W S (gbag row [] :: Γ) F c Q) : WPc P n W S Γ F c Q := fun a w hf hg => k a w hf hg.gbag0
theorem WPq.gbag0 {α : Type} (row : α → List Asn) {e : Exit} (k : WPq n W S (gbag row [] :: Γ) F Q e) : WPq n W S Γ F Q e := fun a w hf hg => k a w hf hg.gbag0
/-- What is only read of a bag. -/
theorem Prov.gbag {α : Type} {row : α → List Asn} {es : List α} {x : α} {A B : Asn} (h : Go.Proofs.Ytpjfkomicehinaa.gbag row es ∈ Γ) (hx : x ∈ es) (hA : A ∈ row x) (hB : B.own = false) (hh : ∀ w, A.holds w → B.holds w) : Prov Γ B :=
  ⟨hB, fun w hw => hh w ((hw _ h).1 A (List.mem_flatMap.2 ⟨x, hx, hA⟩))⟩
section
variable {ty : TypeId} {pos : String} {af : Array Edge} {gd : Option (Nat × Bool)} {T T' : TypeId}
theorem ReadR.loadOA {sz g off : Nat} {cs ds : Ch} [hT : TyI P T true sz] {d : Option Tmp} {x : Operand} (hm : rbx g T' cs ∈ Γ) (hs : sel cs off sz = some ds) (hx : evF F x = some (.pointer (some ⟨g, off, none⟩))) :
    ReadR P n Γ F ⟨d, .load T x, ty, pos, af, gd⟩ (ag ds) := fun ρ w hff hw => by
  have h0 : (bx g T' cs).holds w := hw (rbx g T' cs) hm
  simp [execOp, hff.eval hx, Instr.loadAt, Instr.sureAddr, run_loadA (T := T) hs h0]
end
section
variable {K V : Type} [DecidableEq K] {M : MK K V} {T : TypeId} {ty : TypeId} {pos : String} {af : Array Edge} {gd : Option (Nat × Bool)}
theorem ReadR.lookOkM [h : MapI P T M] {d : Option Tmp} {x i : Operand} {g : Nat} {l : List (K × V)} {k : K} {c : Value} {b : Bool} (hkw : M.wf k) (hx : evF F x = some (.map (some g))) (hi : evF F i = some (M.kc k)) (hm : rmp M g l ∈ Γ) (hc : M.vc (mget M l k) = c) (hb : mhas l k = b) :
    ReadR P n Γ F ⟨d, .lookup T x i true, ty, pos, af, gd⟩ (.tuple #[c, .bool b]) := fun ρ w hf hw =>
  ReadR.lookOk (Γ := [mp M g l]) hkw hx hi (List.mem_cons_self ..) hc hb ρ w hf (fun A hA => by rw [List.mem_singleton.1 hA]; have h0 : (rmp M g l).holds w := hw _ hm; exact h0)
end
end
end Go.Proofs.Ytpjfkomicehinaa
/- Layer 20 (farm): what it holds; bags of what is owned. -/
namespace Go.Proofs.Ytpjfkomicehinaa
open Go.RowKit
set_option linter.unusedSimpArgs false
set_option linter.unusedVariables false
set_option maxRecDepth 20000
set_option maxHeartbeats 4000000
attribute [local irreducible] WPc WPl WPq ReadR OpT BinR HasS bx rdN rowN Take Takes Prov Triple ResF BuildP Done ag Int.decLt Int.decLe Int.instDecidableEq
/-! ### Services, backends -/
structure Bk where
  id : Int
  ad : Adr
  port : Nat
  wt : Int
  dr : Bool
deriving DecidableEq
abbrev bkC (b : Bk) : Ch := [(1, [.int .i64 b.id]), (1, [.bool b.ad.six]), (16, u8s b.ad.b), (1, [.int .u16 (b.port : Int)]), (1, [.int .i64 b.wt]), (1, [.bool b.dr])]
def bks (l : List Bk) : List Value := (l.map fun b => flat (bkC b)).flatten
theorem bkC_len (b : Bk) : (flat (bkC b)).length = 21 := by simp [flat_eq, b.ad.len, u8s_length]
theorem bks_len {l : List Bk} : (bks l).length = l.length * 21 := rows_len bkC_len
theorem bks_at {l : List Bk} {i : Nat} {b : Bk} (h : l[i]? = some b) : ((bks l).drop (i * 21)).take 21 = flat (bkC b) := rows_drop bkC_len h
theorem bks_cell {l : List Bk} {i : Nat} {b : Bk} (h : l[i]? = some b) {o : Nat} (ho : o < 21) : (bks l)[i * 21 + o]? = (flat (bkC b))[o]? := by
  rw [← bks_at h, List.getElem?_take_of_lt ho, List.getElem?_drop]
theorem bks_app {l k : List Bk} : bks (l ++ k) = bks l ++ bks k := by unfold bks; rw [List.map_append, List.flatten_append]
theorem bks_one {b : Bk} : bks [b] = flat (bkC b) := by unfold bks; rw [List.map_singleton]; simp
theorem bkC_ok (b : Bk) : FOk (bkC b) := by
  exact .one1 rfl (.one1 rfl (.bytes b.ad.len (.one1 rfl (.one1 rfl (.one1 rfl .nil)))))
instance bkElt : EltN Try.prog 36 21 := ⟨by kernel_rfl⟩
structure Sh where
  id : Int
  ad : Adr
  port : Nat
  proto : UInt8
  bits : Int
  lasts : Int
deriving DecidableEq
abbrev shC (s : Sh) (v : Value) : Ch := [(1, [.int .i64 s.id]), (1, [.bool s.ad.six]), (16, u8s s.ad.b), (1, [.int .u16 (s.port : Int)]), (1, [.int .u8 ((s.proto.toNat : Nat) : Int)]), (1, [.int .i64 s.bits]), (1, [.int .u64 s.lasts]), (1, [v])]
theorem shC_ok {s : Sh} {v : Value} (h : v.oneCell' = true) : FOk (shC s v) := .one1 rfl (.one1 rfl (.bytes s.ad.len (.one1 rfl (.one1 rfl (.one1 rfl (.one1 rfl (.one1 h .nil)))))))
structure Dr where
  ad : Adr
  port : Nat
  proto : UInt8
deriving DecidableEq
abbrev drc (d : Dr) : Ch := [(1, [.bool d.ad.six]), (16, u8s d.ad.b), (1, [.int .u16 (d.port : Int)]), (1, [.int .u8 ((d.proto.toNat : Nat) : Int)])]
def drW (d : Dr) : Prop := d.port < 65536
def drM : MK Dr Int := ⟨fun d => ag (drc d), fun n => .int .i64 n, 0, drW⟩
def drK : List (Option IntKind) := none :: (List.replicate 16 (some .u8) ++ [some .u16, some .u8])
theorem dr_flat (d : Dr) : flat (drc d) = .bool d.ad.six :: (u8s d.ad.b ++ [.int .u16 (d.port : Int), .int .u8 ((d.proto.toNat : Nat) : Int)]) := by simp [drc, flat]
theorem gshp16 (a : Adr) : Shp (List.replicate 16 (some .u8)) (u8s a.b) := by
  have := shp_u8s a.b
  rwa [a.len] at this
theorem dr_shp (d : Dr) : Shp drK (flat (drc d)) := by
  rw [dr_flat]
  exact ⟨⟨_, rfl⟩, (gshp16 d.ad).append ⟨⟨_, rfl⟩, ⟨_, rfl⟩, trivial⟩⟩
theorem ginR_u16 {n : Nat} (h : n < 65536) : inR (.int .u16 (n : Int)) := by
  simp [inR, Lit.wf, IntKind.min, IntKind.max, IntKind.signed, IntKind.bits]
  omega
theorem dr_inR {d : Dr} (h : drW d) : ∀ v ∈ flat (drc d), inR v := fun v hv => by
  rw [dr_flat] at hv
  simp only [List.mem_cons, List.mem_append, List.not_mem_nil, or_false] at hv
  rcases hv with rfl | hv | rfl | rfl
  · trivial
  · exact inR_u8 v hv
  · exact ginR_u16 h
  · exact inR_u8 _ (List.mem_map.2 ⟨d.proto, List.mem_singleton.2 rfl, rfl⟩ : _ ∈ u8s [d.proto])
theorem dr_inj {a b : Dr} (h : flat (drc a) = flat (drc b)) : a = b := by
  rw [dr_flat, dr_flat] at h
  obtain ⟨h1, h2⟩ := List.cons.inj h
  obtain ⟨h3, h4⟩ := List.append_inj h2 (by simp [u8s, a.ad.len, b.ad.len])
  have e1 : a.ad = b.ad := Adr.ext (by simpa using h1) (u8s_inj.1 h3)
  simp at h4
  obtain ⟨e3, e4⟩ := h4
  have e6 : a.port = b.port := by omega
  have e8 : a.proto = b.proto := UInt8.toNat_inj.1 (by omega)
  cases a; cases b
  simp_all
instance drI : MapI Try.prog 64 drM :=
  mapI_of (kT := 71) (eT := 3) (ks := drK) drc (fun _ => rfl) (by kernel_rfl) (have h : EqI Try.prog 71 _ := inferInstance; h) (by kernel_rfl) (by kernel_rfl) (by kernel_rfl) (by kernel_rfl) (of_decide_eq_true (by kernel_rfl)) (by kernel_rfl) (by kernel_rfl)
    (fun d hd => ⟨dr_shp d, dr_inR hd⟩) (by kernel_rfl) (fun a b h => dr_inj h)
def oPtr (o : Option Nat) : Value := match o with | some g => .pointer (some ⟨g, 0, none⟩) | none => .pointer none
def idM : MK Int (Option Nat) := ⟨fun k => .int .i64 k, oPtr, none, in64⟩
instance idI : MapI Try.prog 63 idM :=
  mapI_int (kT := 3) (eT := 68) (by kernel_rfl) (by kernel_rfl) (by kernel_rfl) (fun _ => rfl) (fun _ h => h) (by kernel_rfl)
/-- A service, as it lies in memory. -/
structure PS where
  g : Nat
  v : Value
  s : Sh
  bs : List Bk
structure Sb where
  s : Sh
  bs : List Bk
deriving DecidableEq
abbrev PS.sb (x : PS) : Sb := ⟨x.s, x.bs⟩
def prow (x : PS) : List Asn := [bx x.g 33 (shC x.s x.v), rowN 36 21 x.v x.bs.length (bks x.bs)]
theorem prow_own (x : PS) (A : Asn) (h : A ∈ prow x) : A.own = true := by
  unfold prow at h
  simp only [List.mem_cons, List.not_mem_nil, or_false] at h
  rcases h with rfl | rfl
  · exact bx_own
  · exact rowN_own
def ies (ps : List PS) : List (Int × Option Nat) := ps.map fun x => (x.s.id, some x.g)
def Sh.door (s : Sh) : Dr := ⟨s.ad, s.port, s.proto⟩
structure FM where
  ps : List PS
  ds : List (Dr × Int)
abbrev hF (g : Nat) : Value := .pointer (some ⟨g, 0, none⟩)
abbrev fac (mi md : Nat) : Ch := [(1, [.map (some mi)]), (1, [.map (some md)])]
abbrev fmA (gF mi md : Nat) (F : FM) : List Asn := [bx gF 66 (fac mi md), mp idM mi (ies F.ps), mp drM md F.ds, gbag prow F.ps]
end Go.Proofs.Ytpjfkomicehinaa
/- Layer 20 (farm): contracts: what may be; where a backend is. -/
namespace Go.Proofs.Ytpjfkomicehinaa
open Go.RowKit
set_option linter.unusedSimpArgs false
set_option linter.unusedVariables false
set_option maxRecDepth 20000
set_option maxHeartbeats 4000000
attribute [local irreducible] WPc WPl WPq ReadR OpT BinR HasS bx rdN rowN Take Takes Prov Triple ResF BuildP Done ag Int.decLt Int.decLe Int.instDecidableEq
attribute [local irreducible] mp rmp rg rgo mput mget mfind mdel gbag bks ies
theorem gid_t (n : Int) : Triple Try.prog 25 #[.int .i64 n] [] (RVal (.bool (decide (0 ≤ n ∧ n ≤ 65535)))) := by
  by_cases h0 : n ≥ 0
  · skip
    refine Triple.enter Try.func25 rfl Try.ntmps25 rfl (fun W => ?_)
    dsimp only [argsF, Nat.reduceAdd]
    repeat' (first
     | refine WPl.nil ?_ | refine WPq.then ?_ | refine WPq.thenR ?_ | refine WPq.thenE ?_ | refine WPq.blockN ?_ | refine WPq.blockR ?_ | refine WPq.blockE ?_ | refine WPq.blockO rfl ?_ | refine WPc.seq ?_ | refine WPc.block ?_ | refine WPc.ret ?_ | refine WPc.exit ?_ | refine WPc.skip ?_ | refine WPc.region ?_
     | (refine isCond ?_; first | refine WPc.cT ?_ | refine WPc.cF ?_ | (refine WPc.cQ (fun hc => ?_) (fun hc => ?_) <;> try exact prA))
     | (refine isD 4 ?_; refine WPl.rdX (ReadR.binE rfl rfl BinR.geq (congrArg Value.bool (decide_eq_true h0))) ?_)
     | (refine isOp ?_; first | refine WPl.rd ?_ | refine WPl.sk ?_ | refine WPl.rdB ?_)
     | (show WPl _ _ _ _ _ _ _ (⟨_, .indexAddr _ _ _, _, _, _, _⟩ :: _) _; refine WPl.rdX (ReadR.indexE rfl rfl hasA (by first | assumption | omega)) ?_)
     | (show WPl _ _ _ _ _ _ _ (⟨_, .fieldAddr _ _ _, _, _, _, _⟩ :: _) _; refine WPl.rdX (ReadR.fieldE rfl hasA (by first | assumption | omega)) ?_)
     | (show WPl _ _ _ _ _ _ _ (⟨_, .load _ _, _, _, _, _⟩ :: _) _; first | refine WPl.rdX (ReadR.loadE rfl hasA (by assumption)) ?_ | refine WPl.rdX (ReadR.loadES (by assumption) (by first | assumption | omega) rfl hasA) ?_)
     | (show WPl _ _ _ _ _ _ _ (⟨_, .slice _ _ _ _ _, _, _, _, _⟩ :: _) _; first | refine WPl.rdX (ReadR.sliceH rfl rfl hasA (by omega)) ?_ | refine WPl.rdX (ReadR.sliceL rfl rfl hasA (by omega)) ?_ | refine WPl.rdX (ReadR.sliceLH rfl rfl rfl hasA (by omega) (by omega)) ?_)
     | (refine WPl.spQ (fun hc => ?_) (fun hc => ?_) <;> try exact prA)
     | fail)
    refine WPq.dV (hc := ?_)
    show Value.bool _ = Value.bool _
    rw [decide_eq_decide.2]; omega
  · rw [decide_eq_false (by omega)]
    refine Triple.enter Try.func25 rfl Try.ntmps25 rfl (fun W => ?_)
    dsimp only [argsF, Nat.reduceAdd]
    repeat' (first
     | refine WPl.nil ?_ | refine WPq.then ?_ | refine WPq.thenR ?_ | refine WPq.thenE ?_ | refine WPq.blockN ?_ | refine WPq.blockR ?_ | refine WPq.blockE ?_ | refine WPq.blockO rfl ?_ | refine WPc.seq ?_ | refine WPc.block ?_ | refine WPc.ret ?_ | refine WPc.exit ?_ | refine WPc.skip ?_ | refine WPc.region ?_
     | (refine isCond ?_; first | refine WPc.cT ?_ | refine WPc.cF ?_ | (refine WPc.cQ (fun hc => ?_) (fun hc => ?_) <;> try exact prA))
     | (refine isD 4 ?_; refine WPl.rdX (ReadR.binE rfl rfl BinR.geq (congrArg Value.bool (decide_eq_false h0))) ?_)
     | (refine isOp ?_; first | refine WPl.rd ?_ | refine WPl.sk ?_ | refine WPl.rdB ?_)
     | (show WPl _ _ _ _ _ _ _ (⟨_, .indexAddr _ _ _, _, _, _, _⟩ :: _) _; refine WPl.rdX (ReadR.indexE rfl rfl hasA (by first | assumption | omega)) ?_)
     | (show WPl _ _ _ _ _ _ _ (⟨_, .fieldAddr _ _ _, _, _, _, _⟩ :: _) _; refine WPl.rdX (ReadR.fieldE rfl hasA (by first | assumption | omega)) ?_)
     | (show WPl _ _ _ _ _ _ _ (⟨_, .load _ _, _, _, _, _⟩ :: _) _; first | refine WPl.rdX (ReadR.loadE rfl hasA (by assumption)) ?_ | refine WPl.rdX (ReadR.loadES (by assumption) (by first | assumption | omega) rfl hasA) ?_)
     | (show WPl _ _ _ _ _ _ _ (⟨_, .slice _ _ _ _ _, _, _, _, _⟩ :: _) _; first | refine WPl.rdX (ReadR.sliceH rfl rfl hasA (by omega)) ?_ | refine WPl.rdX (ReadR.sliceL rfl rfl hasA (by omega)) ?_ | refine WPl.rdX (ReadR.sliceLH rfl rfl rfl hasA (by omega) (by omega)) ?_)
     | (refine WPl.spQ (fun hc => ?_) (fun hc => ?_) <;> try exact prA)
     | fail)
    exact WPq.dV
theorem gwt_t (n : Int) : Triple Try.prog 27 #[.int .i64 n] [] (RVal (.bool (decide (0 ≤ n ∧ n ≤ 10)))) := by
  by_cases h0 : n ≥ 0
  · skip
    refine Triple.enter Try.func27 rfl Try.ntmps27 rfl (fun W => ?_)
    dsimp only [argsF, Nat.reduceAdd]
    repeat' (first
     | refine WPl.nil ?_ | refine WPq.then ?_ | refine WPq.thenR ?_ | refine WPq.thenE ?_ | refine WPq.blockN ?_ | refine WPq.blockR ?_ | refine WPq.blockE ?_ | refine WPq.blockO rfl ?_ | refine WPc.seq ?_ | refine WPc.block ?_ | refine WPc.ret ?_ | refine WPc.exit ?_ | refine WPc.skip ?_ | refine WPc.region ?_
     | (refine isCond ?_; first | refine WPc.cT ?_ | refine WPc.cF ?_ | (refine WPc.cQ (fun hc => ?_) (fun hc => ?_) <;> try exact prA))
     | (refine isD 4 ?_; refine WPl.rdX (ReadR.binE rfl rfl BinR.geq (congrArg Value.bool (decide_eq_true h0))) ?_)
     | (refine isOp ?_; first | refine WPl.rd ?_ | refine WPl.sk ?_ | refine WPl.rdB ?_)
     | (show WPl _ _ _ _ _ _ _ (⟨_, .indexAddr _ _ _, _, _, _, _⟩ :: _) _; refine WPl.rdX (ReadR.indexE rfl rfl hasA (by first | assumption | omega)) ?_)
     | (show WPl _ _ _ _ _ _ _ (⟨_, .fieldAddr _ _ _, _, _, _, _⟩ :: _) _; refine WPl.rdX (ReadR.fieldE rfl hasA (by first | assumption | omega)) ?_)
     | (show WPl _ _ _ _ _ _ _ (⟨_, .load _ _, _, _, _, _⟩ :: _) _; first | refine WPl.rdX (ReadR.loadE rfl hasA (by assumption)) ?_ | refine WPl.rdX (ReadR.loadES (by assumption) (by first | assumption | omega) rfl hasA) ?_)
     | (show WPl _ _ _ _ _ _ _ (⟨_, .slice _ _ _ _ _, _, _, _, _⟩ :: _) _; first | refine WPl.rdX (ReadR.sliceH rfl rfl hasA (by omega)) ?_ | refine WPl.rdX (ReadR.sliceL rfl rfl hasA (by omega)) ?_ | refine WPl.rdX (ReadR.sliceLH rfl rfl rfl hasA (by omega) (by omega)) ?_)
     | (refine WPl.spQ (fun hc => ?_) (fun hc => ?_) <;> try exact prA)
     | fail)
    refine WPq.dV (hc := ?_)
    show Value.bool _ = Value.bool _
    rw [decide_eq_decide.2]; omega
  · rw [decide_eq_false (by omega)]
    refine Triple.enter Try.func27 rfl Try.ntmps27 rfl (fun W => ?_)
    dsimp only [argsF, Nat.reduceAdd]
    repeat' (first
     | refine WPl.nil ?_ | refine WPq.then ?_ | refine WPq.thenR ?_ | refine WPq.thenE ?_ | refine WPq.blockN ?_ | refine WPq.blockR ?_ | refine WPq.blockE ?_ | refine WPq.blockO rfl ?_ | refine WPc.seq ?_ | refine WPc.block ?_ | refine WPc.ret ?_ | refine WPc.exit ?_ | refine WPc.skip ?_ | refine WPc.region ?_
     | (refine isCond ?_; first | refine WPc.cT ?_ | refine WPc.cF ?_ | (refine WPc.cQ (fun hc => ?_) (fun hc => ?_) <;> try exact prA))
     | (refine isD 4 ?_; refine WPl.rdX (ReadR.binE rfl rfl BinR.geq (congrArg Value.bool (decide_eq_false h0))) ?_)
     | (refine isOp ?_; first | refine WPl.rd ?_ | refine WPl.sk ?_ | refine WPl.rdB ?_)
     | (show WPl _ _ _ _ _ _ _ (⟨_, .indexAddr _ _ _, _, _, _, _⟩ :: _) _; refine WPl.rdX (ReadR.indexE rfl rfl hasA (by first | assumption | omega)) ?_)
     | (show WPl _ _ _ _ _ _ _ (⟨_, .fieldAddr _ _ _, _, _, _, _⟩ :: _) _; refine WPl.rdX (ReadR.fieldE rfl hasA (by first | assumption | omega)) ?_)
     | (show WPl _ _ _ _ _ _ _ (⟨_, .load _ _, _, _, _, _⟩ :: _) _; first | refine WPl.rdX (ReadR.loadE rfl hasA (by assumption)) ?_ | refine WPl.rdX (ReadR.loadES (by assumption) (by first | assumption | omega) rfl hasA) ?_)
     | (show WPl _ _ _ _ _ _ _ (⟨_, .slice _ _ _ _ _, _, _, _, _⟩ :: _) _; first | refine WPl.rdX (ReadR.sliceH rfl rfl hasA (by omega)) ?_ | refine WPl.rdX (ReadR.sliceL rfl rfl hasA (by omega)) ?_ | refine WPl.rdX (ReadR.sliceLH rfl rfl rfl hasA (by omega) (by omega)) ?_)
     | (refine WPl.spQ (fun hc => ?_) (fun hc => ?_) <;> try exact prA)
     | fail)
    exact WPq.dV
theorem ggood_t (a : Adr) : Triple Try.prog 50 #[ag (adc a)] [] (RVal (.bool a.good)) := by
  have hl := a.len
  refine Triple.enter Try.func50 rfl Try.ntmps50 rfl (fun W => ?_)
  dsimp only [argsF, Nat.reduceAdd]
  repeat' (first
   | refine WPl.nil ?_ | refine WPq.then ?_ | refine WPq.thenR ?_ | refine WPq.thenE ?_ | refine WPq.blockN ?_ | refine WPq.blockR ?_ | refine WPq.blockE ?_ | refine WPq.blockO rfl ?_ | refine WPc.seq ?_ | refine WPc.block ?_ | refine WPc.ret ?_ | refine WPc.exit ?_ | refine WPc.skip ?_ | refine WPc.region ?_
   | (refine isCond ?_; first | refine WPc.cT ?_ | refine WPc.cF ?_ | (refine WPc.cQ (fun hc => ?_) (fun hc => ?_) <;> try exact prA))
   | (refine isOp ?_; first | refine WPl.rd ?_ | refine WPl.sk ?_ | refine WPl.rdB ?_)
   | (refine isBx ?_; refine WPl.nw fun g => ?_)
   | (show WPl _ _ _ _ _ _ _ (⟨_, .indexAddr _ _ _, _, _, _, _⟩ :: _) _; refine WPl.rdX (ReadR.indexE rfl rfl hasA (by first | assumption | omega)) ?_)
   | (show WPl _ _ _ _ _ _ _ (⟨_, .fieldAddr _ _ _, _, _, _, _⟩ :: _) _; refine WPl.rdX (ReadR.fieldE rfl hasA (by first | assumption | omega)) ?_)
   | (show WPl _ _ _ _ _ _ _ (⟨_, .load _ _, _, _, _, _⟩ :: _) _; first | refine WPl.rdX (ReadR.loadE rfl hasA (by assumption)) ?_ | refine WPl.rdX (ReadR.loadES (by assumption) (by first | assumption | omega) rfl hasA) ?_)
   | (show WPl _ _ _ _ _ _ _ (⟨_, .slice _ _ _ _ _, _, _, _, _⟩ :: _) _; first | refine WPl.rdX (ReadR.sliceH rfl rfl hasA (by omega)) ?_ | refine WPl.rdX (ReadR.sliceL rfl rfl hasA (by omega)) ?_ | refine WPl.rdX (ReadR.sliceLH rfl rfl rfl hasA (by omega) (by omega)) ?_)
   | (refine WPl.spQ (fun hc => ?_) (fun hc => ?_) <;> try exact prA)
   | fail)
  · exact WPq.dV (hc := by simp [resV, Adr.good, hc])
  · exact WPq.dV (hc := by simp [resV, Adr.good, hc])
theorem gGood_t (a : Adr) : Triple Try.prog 26 #[ag (adc a)] [] (RVal (.bool a.good)) := by
  refine Triple.enter Try.func26 rfl Try.ntmps26 rfl (fun W => ?_)
  dsimp only [argsF, Nat.reduceAdd]
  repeat' (first
   | refine WPl.nil ?_ | refine WPq.then ?_ | refine WPq.thenR ?_ | refine WPq.thenE ?_ | refine WPq.blockN ?_ | refine WPq.blockR ?_ | refine WPq.blockE ?_ | refine WPq.blockO rfl ?_ | refine WPc.seq ?_ | refine WPc.block ?_ | refine WPc.ret ?_ | refine WPc.exit ?_ | refine WPc.skip ?_ | refine WPc.region ?_
   | (refine isCond ?_; first | refine WPc.cT ?_ | refine WPc.cF ?_ | (refine WPc.cQ (fun hc => ?_) (fun hc => ?_) <;> try exact prA))
   | (refine isCl ?_; refine WPl.cV (ggood_t a) ?_)
   | (refine isOp ?_; first | refine WPl.rd ?_ | refine WPl.sk ?_ | refine WPl.rdB ?_)
   | (refine isBx ?_; refine WPl.nw fun g => ?_)
   | (show WPl _ _ _ _ _ _ _ (⟨_, .indexAddr _ _ _, _, _, _, _⟩ :: _) _; refine WPl.rdX (ReadR.indexE rfl rfl hasA (by first | assumption | omega)) ?_)
   | (show WPl _ _ _ _ _ _ _ (⟨_, .fieldAddr _ _ _, _, _, _, _⟩ :: _) _; refine WPl.rdX (ReadR.fieldE rfl hasA (by first | assumption | omega)) ?_)
   | (show WPl _ _ _ _ _ _ _ (⟨_, .load _ _, _, _, _, _⟩ :: _) _; first | refine WPl.rdX (ReadR.loadE rfl hasA (by assumption)) ?_ | refine WPl.rdX (ReadR.loadES (by assumption) (by first | assumption | omega) rfl hasA) ?_)
   | (show WPl _ _ _ _ _ _ _ (⟨_, .slice _ _ _ _ _, _, _, _, _⟩ :: _) _; first | refine WPl.rdX (ReadR.sliceH rfl rfl hasA (by omega)) ?_ | refine WPl.rdX (ReadR.sliceL rfl rfl hasA (by omega)) ?_ | refine WPl.rdX (ReadR.sliceLH rfl rfl rfl hasA (by omega) (by omega)) ?_)
   | (refine WPl.spQ (fun hc => ?_) (fun hc => ?_) <;> try exact prA)
   | fail)
  all_goals try (first | exact WPq.dTp | exact WPq.dTs | exact WPq.dV | exact WPq.dR | exact WPq.dR2 | exact WPq.dH | exact WPq.dBH | exact WPq.dT)
def bitsS (s : Sh) : Int := if s.ad.six = true then 128 else 32
def protoS (s : Sh) : Bool := decide (((s.proto.toNat : Nat) : Int) = 6) || decide (((s.proto.toNat : Nat) : Int) = 17)
def mayS (s : Sh) (nb : Nat) : Bool := decide (0 ≤ s.id ∧ s.id ≤ 65535) && (s.ad.good && (decide ((s.port : Int) > 0) && (protoS s && (decide (s.bits ≥ 0) && (decide (s.bits ≤ bitsS s) && (decide (s.lasts ≥ 1) && (decide (s.lasts ≤ 1073741824) && decide ((nb : Int) = 0))))))))
theorem gmay_t (s : Sh) (vb : Value) (l : List Bk) (hv : vb.oneCell' = true) : Triple Try.prog 22 #[ag (shC s vb)] [rdN vb l.length (bks l)] (RVal (.bool (mayS s l.length))) := by
  have hfx := shC_ok (s := s) hv
  have c18 := gid_t s.id
  have c22 := gGood_t s.ad
  have hal := s.ad.len
  refine Triple.enter Try.func22 rfl Try.ntmps22 rfl (fun W => ?_)
  dsimp only [argsF, Nat.reduceAdd]
  repeat' (first
   | refine WPl.nil ?_ | refine WPq.then ?_ | refine WPq.thenR ?_ | refine WPq.thenE ?_ | refine WPq.blockN ?_ | refine WPq.blockR ?_ | refine WPq.blockE ?_ | refine WPq.blockO rfl ?_ | refine WPc.seq ?_ | refine WPc.block ?_ | refine WPc.ret ?_ | refine WPc.exit ?_ | refine WPc.skip ?_ | refine WPc.region ?_
   | (refine isCond ?_; first | refine WPc.cT ?_ | refine WPc.cF ?_ | (refine WPc.cQ (fun hc => ?_) (fun hc => ?_) <;> try exact prA))
   | (refine isD 1 ?_; refine WPl.boxC (shC s vb) hfx rfl (fun g1 => ?_))
   | (refine isC 18 ?_; refine WPl.cV (c18) ?_)
   | (refine isC 22 ?_; refine WPl.cV (c22) ?_)
   | (refine isOp ?_; first | refine WPl.rd ?_ | refine WPl.sk ?_ | refine WPl.rdB ?_)
   | (refine isBx ?_; refine WPl.nw fun g => ?_)
   | (show WPl _ _ _ _ _ _ _ (⟨_, .indexAddr _ _ _, _, _, _, _⟩ :: _) _; refine WPl.rdX (ReadR.indexE rfl rfl hasA (by first | assumption | omega)) ?_)
   | (show WPl _ _ _ _ _ _ _ (⟨_, .fieldAddr _ _ _, _, _, _, _⟩ :: _) _; refine WPl.rdX (ReadR.fieldE rfl hasA (by first | assumption | omega)) ?_)
   | (show WPl _ _ _ _ _ _ _ (⟨_, .load _ _, _, _, _, _⟩ :: _) _; first | refine WPl.rdX (ReadR.loadE rfl hasA (by assumption)) ?_ | refine WPl.rdX (ReadR.loadES (by assumption) (by first | assumption | omega) rfl hasA) ?_)
   | (show WPl _ _ _ _ _ _ _ (⟨_, .slice _ _ _ _ _, _, _, _, _⟩ :: _) _; first | refine WPl.rdX (ReadR.sliceH rfl rfl hasA (by omega)) ?_ | refine WPl.rdX (ReadR.sliceL rfl rfl hasA (by omega)) ?_ | refine WPl.rdX (ReadR.sliceLH rfl rfl rfl hasA (by omega) (by omega)) ?_)
   | (refine WPl.spQ (fun hc => ?_) (fun hc => ?_) <;> try exact prA)
   | fail)
  all_goals exact WPq.dV (hc := by simp [resV, mayS, protoS, bitsS, *] <;> (intros; omega))
theorem gof_t (s : Sh) (v : Value) (hv : v.oneCell' = true) : Triple Try.prog 23 #[ag (shC s v)] [] (RVal (ag (drc s.door))) := by
  have hfx := shC_ok (s := s) hv
  have hal := s.ad.len
  refine Triple.enter Try.func23 rfl Try.ntmps23 rfl (fun W => ?_)
  dsimp only [argsF, Nat.reduceAdd]
  repeat' (first
   | refine WPl.nil ?_ | refine WPq.then ?_ | refine WPq.thenR ?_ | refine WPq.thenE ?_ | refine WPq.blockN ?_ | refine WPq.blockR ?_ | refine WPq.blockE ?_ | refine WPq.blockO rfl ?_ | refine WPc.seq ?_ | refine WPc.block ?_ | refine WPc.ret ?_ | refine WPc.exit ?_ | refine WPc.skip ?_ | refine WPc.region ?_
   | (refine isCond ?_; first | refine WPc.cT ?_ | refine WPc.cF ?_ | (refine WPc.cQ (fun hc => ?_) (fun hc => ?_) <;> try exact prA))
   | (refine isD 1 ?_; refine WPl.boxC (shC s v) hfx rfl (fun g1 => ?_))
   | (refine isOp ?_; first | refine WPl.rd ?_ | refine WPl.sk ?_ | refine WPl.rdB ?_)
   | (refine isAl ?_; refine WPl.nw fun g => ?_)
   | (refine isBx ?_; refine WPl.nw fun g => ?_)
   | (refine isSt ?_; first | refine WPl.st1 ?_ | refine WPl.stA ?_ | refine WPl.stEB ?_ | refine WPl.stRB ?_)
   | (show WPl _ _ _ _ _ _ _ (⟨_, .indexAddr _ _ _, _, _, _, _⟩ :: _) _; refine WPl.rdX (ReadR.indexE rfl rfl hasA (by first | assumption | omega)) ?_)
   | (show WPl _ _ _ _ _ _ _ (⟨_, .fieldAddr _ _ _, _, _, _, _⟩ :: _) _; refine WPl.rdX (ReadR.fieldE rfl hasA (by first | assumption | omega)) ?_)
   | (show WPl _ _ _ _ _ _ _ (⟨_, .load _ _, _, _, _, _⟩ :: _) _; first | refine WPl.rdX (ReadR.loadE rfl hasA (by assumption)) ?_ | refine WPl.rdX (ReadR.loadES (by assumption) (by first | assumption | omega) rfl hasA) ?_)
   | (show WPl _ _ _ _ _ _ _ (⟨_, .slice _ _ _ _ _, _, _, _, _⟩ :: _) _; first | refine WPl.rdX (ReadR.sliceH rfl rfl hasA (by omega)) ?_ | refine WPl.rdX (ReadR.sliceL rfl rfl hasA (by omega)) ?_ | refine WPl.rdX (ReadR.sliceLH rfl rfl rfl hasA (by omega) (by omega)) ?_)
   | (refine WPl.spQ (fun hc => ?_) (fun hc => ?_) <;> try exact prA)
   | fail)
  exact WPq.dV
theorem gcmp_t (a b : Int) : Triple Try.prog 49 #[.int .i64 a, .int .i64 b] [] (RVal (.int .i64 (if a < b then -1 else if a > b then 1 else 0))) := by
  have c : ∀ x : Int, Triple Try.prog 59 #[.int .i64 x] [] (RVal (.bool false)) := fun x => by
    refine Triple.enter Try.func59 rfl Try.ntmps59 rfl (fun W => ?_)
    dsimp only [argsF, Nat.reduceAdd]
    repeat' (first
     | refine WPl.nil ?_ | refine WPq.then ?_ | refine WPq.thenR ?_ | refine WPq.thenE ?_ | refine WPq.blockN ?_ | refine WPq.blockR ?_ | refine WPq.blockE ?_ | refine WPq.blockO rfl ?_ | refine WPc.seq ?_ | refine WPc.block ?_ | refine WPc.ret ?_ | refine WPc.exit ?_ | refine WPc.skip ?_ | refine WPc.region ?_
     | (refine isCond ?_; first | refine WPc.cT ?_ | refine WPc.cF ?_ | (refine WPc.cQ (fun hc => ?_) (fun hc => ?_) <;> try exact prA))
     | (refine isD 5 ?_; refine WPl.rdX (ReadR.binE rfl rfl BinR.neq (congrArg (fun q => Value.bool (!q)) (decide_eq_true rfl))) ?_)
     | (refine isOp ?_; first | refine WPl.rd ?_ | refine WPl.sk ?_ | refine WPl.rdB ?_)
     | (show WPl _ _ _ _ _ _ _ (⟨_, .indexAddr _ _ _, _, _, _, _⟩ :: _) _; refine WPl.rdX (ReadR.indexE rfl rfl hasA (by first | assumption | omega)) ?_)
     | (show WPl _ _ _ _ _ _ _ (⟨_, .fieldAddr _ _ _, _, _, _, _⟩ :: _) _; refine WPl.rdX (ReadR.fieldE rfl hasA (by first | assumption | omega)) ?_)
     | (show WPl _ _ _ _ _ _ _ (⟨_, .load _ _, _, _, _, _⟩ :: _) _; first | refine WPl.rdX (ReadR.loadE rfl hasA (by assumption)) ?_ | refine WPl.rdX (ReadR.loadES (by assumption) (by first | assumption | omega) rfl hasA) ?_)
     | (show WPl _ _ _ _ _ _ _ (⟨_, .slice _ _ _ _ _, _, _, _, _⟩ :: _) _; first | refine WPl.rdX (ReadR.sliceH rfl rfl hasA (by omega)) ?_ | refine WPl.rdX (ReadR.sliceL rfl rfl hasA (by omega)) ?_ | refine WPl.rdX (ReadR.sliceLH rfl rfl rfl hasA (by omega) (by omega)) ?_)
     | (refine WPl.spQ (fun hc => ?_) (fun hc => ?_) <;> try exact prA)
     | fail)
    exact WPq.dV
  by_cases h1 : a < b
  · rw [if_pos h1]
    refine Triple.enter Try.func49 rfl Try.ntmps49 rfl (fun W => ?_)
    dsimp only [argsF, Nat.reduceAdd]
    repeat' (first
     | refine WPl.nil ?_ | refine WPq.then ?_ | refine WPq.thenR ?_ | refine WPq.thenE ?_ | refine WPq.blockN ?_ | refine WPq.blockR ?_ | refine WPq.blockE ?_ | refine WPq.blockO rfl ?_ | refine WPc.seq ?_ | refine WPc.block ?_ | refine WPc.ret ?_ | refine WPc.exit ?_ | refine WPc.skip ?_ | refine WPc.region ?_
     | (refine isCond ?_; first | refine WPc.cT ?_ | refine WPc.cF ?_ | (refine WPc.cQ (fun hc => ?_) (fun hc => ?_) <;> try exact prA))
     | (refine isC 8 ?_; refine WPl.cV (c a) ?_)
     | (refine isC 10 ?_; refine WPl.cV (c b) ?_)
     | (refine isD 16 ?_; refine WPl.rdX (ReadR.binE rfl rfl BinR.lss (congrArg Value.bool (decide_eq_true h1))) ?_)
     | (refine isOp ?_; first | refine WPl.rd ?_ | refine WPl.sk ?_ | refine WPl.rdB ?_)
     | (show WPl _ _ _ _ _ _ _ (⟨_, .indexAddr _ _ _, _, _, _, _⟩ :: _) _; refine WPl.rdX (ReadR.indexE rfl rfl hasA (by first | assumption | omega)) ?_)
     | (show WPl _ _ _ _ _ _ _ (⟨_, .fieldAddr _ _ _, _, _, _, _⟩ :: _) _; refine WPl.rdX (ReadR.fieldE rfl hasA (by first | assumption | omega)) ?_)
     | (show WPl _ _ _ _ _ _ _ (⟨_, .load _ _, _, _, _, _⟩ :: _) _; first | refine WPl.rdX (ReadR.loadE rfl hasA (by assumption)) ?_ | refine WPl.rdX (ReadR.loadES (by assumption) (by first | assumption | omega) rfl hasA) ?_)
     | (show WPl _ _ _ _ _ _ _ (⟨_, .slice _ _ _ _ _, _, _, _, _⟩ :: _) _; first | refine WPl.rdX (ReadR.sliceH rfl rfl hasA (by omega)) ?_ | refine WPl.rdX (ReadR.sliceL rfl rfl hasA (by omega)) ?_ | refine WPl.rdX (ReadR.sliceLH rfl rfl rfl hasA (by omega) (by omega)) ?_)
     | (refine WPl.spQ (fun hc => ?_) (fun hc => ?_) <;> try exact prA)
     | fail)
    exact WPq.dV
  · by_cases h2 : a > b
    · rw [if_neg h1, if_pos h2]
      refine Triple.enter Try.func49 rfl Try.ntmps49 rfl (fun W => ?_)
      dsimp only [argsF, Nat.reduceAdd]
      repeat' (first
       | refine WPl.nil ?_ | refine WPq.then ?_ | refine WPq.thenR ?_ | refine WPq.thenE ?_ | refine WPq.blockN ?_ | refine WPq.blockR ?_ | refine WPq.blockE ?_ | refine WPq.blockO rfl ?_ | refine WPc.seq ?_ | refine WPc.block ?_ | refine WPc.ret ?_ | refine WPc.exit ?_ | refine WPc.skip ?_ | refine WPc.region ?_
       | (refine isCond ?_; first | refine WPc.cT ?_ | refine WPc.cF ?_ | (refine WPc.cQ (fun hc => ?_) (fun hc => ?_) <;> try exact prA))
       | (refine isC 8 ?_; refine WPl.cV (c a) ?_)
       | (refine isC 10 ?_; refine WPl.cV (c b) ?_)
       | (refine isD 16 ?_; refine WPl.rdX (ReadR.binE rfl rfl BinR.lss (congrArg Value.bool (decide_eq_false h1))) ?_)
       | (refine isD 19 ?_; refine WPl.rdX (ReadR.binE rfl rfl BinR.gtr (congrArg Value.bool (decide_eq_true h2))) ?_)
       | (refine isOp ?_; first | refine WPl.rd ?_ | refine WPl.sk ?_ | refine WPl.rdB ?_)
       | (show WPl _ _ _ _ _ _ _ (⟨_, .indexAddr _ _ _, _, _, _, _⟩ :: _) _; refine WPl.rdX (ReadR.indexE rfl rfl hasA (by first | assumption | omega)) ?_)
       | (show WPl _ _ _ _ _ _ _ (⟨_, .fieldAddr _ _ _, _, _, _, _⟩ :: _) _; refine WPl.rdX (ReadR.fieldE rfl hasA (by first | assumption | omega)) ?_)
       | (show WPl _ _ _ _ _ _ _ (⟨_, .load _ _, _, _, _, _⟩ :: _) _; first | refine WPl.rdX (ReadR.loadE rfl hasA (by assumption)) ?_ | refine WPl.rdX (ReadR.loadES (by assumption) (by first | assumption | omega) rfl hasA) ?_)
       | (show WPl _ _ _ _ _ _ _ (⟨_, .slice _ _ _ _ _, _, _, _, _⟩ :: _) _; first | refine WPl.rdX (ReadR.sliceH rfl rfl hasA (by omega)) ?_ | refine WPl.rdX (ReadR.sliceL rfl rfl hasA (by omega)) ?_ | refine WPl.rdX (ReadR.sliceLH rfl rfl rfl hasA (by omega) (by omega)) ?_)
       | (refine WPl.spQ (fun hc => ?_) (fun hc => ?_) <;> try exact prA)
       | fail)
      exact WPq.dV
    · rw [if_neg h1, if_neg h2]
      refine Triple.enter Try.func49 rfl Try.ntmps49 rfl (fun W => ?_)
      dsimp only [argsF, Nat.reduceAdd]
      repeat' (first
       | refine WPl.nil ?_ | refine WPq.then ?_ | refine WPq.thenR ?_ | refine WPq.thenE ?_ | refine WPq.blockN ?_ | refine WPq.blockR ?_ | refine WPq.blockE ?_ | refine WPq.blockO rfl ?_ | refine WPc.seq ?_ | refine WPc.block ?_ | refine WPc.ret ?_ | refine WPc.exit ?_ | refine WPc.skip ?_ | refine WPc.region ?_
       | (refine isCond ?_; first | refine WPc.cT ?_ | refine WPc.cF ?_ | (refine WPc.cQ (fun hc => ?_) (fun hc => ?_) <;> try exact prA))
       | (refine isC 8 ?_; refine WPl.cV (c a) ?_)
       | (refine isC 10 ?_; refine WPl.cV (c b) ?_)
       | (refine isD 16 ?_; refine WPl.rdX (ReadR.binE rfl rfl BinR.lss (congrArg Value.bool (decide_eq_false h1))) ?_)
       | (refine isD 19 ?_; refine WPl.rdX (ReadR.binE rfl rfl BinR.gtr (congrArg Value.bool (decide_eq_false h2))) ?_)
       | (refine isOp ?_; first | refine WPl.rd ?_ | refine WPl.sk ?_ | refine WPl.rdB ?_)
       | (show WPl _ _ _ _ _ _ _ (⟨_, .indexAddr _ _ _, _, _, _, _⟩ :: _) _; refine WPl.rdX (ReadR.indexE rfl rfl hasA (by first | assumption | omega)) ?_)
       | (show WPl _ _ _ _ _ _ _ (⟨_, .fieldAddr _ _ _, _, _, _, _⟩ :: _) _; refine WPl.rdX (ReadR.fieldE rfl hasA (by first | assumption | omega)) ?_)
       | (show WPl _ _ _ _ _ _ _ (⟨_, .load _ _, _, _, _, _⟩ :: _) _; first | refine WPl.rdX (ReadR.loadE rfl hasA (by assumption)) ?_ | refine WPl.rdX (ReadR.loadES (by assumption) (by first | assumption | omega) rfl hasA) ?_)
       | (show WPl _ _ _ _ _ _ _ (⟨_, .slice _ _ _ _ _, _, _, _, _⟩ :: _) _; first | refine WPl.rdX (ReadR.sliceH rfl rfl hasA (by omega)) ?_ | refine WPl.rdX (ReadR.sliceL rfl rfl hasA (by omega)) ?_ | refine WPl.rdX (ReadR.sliceLH rfl rfl rfl hasA (by omega) (by omega)) ?_)
       | (refine WPl.spQ (fun hc => ?_) (fun hc => ?_) <;> try exact prA)
       | fail)
      exact WPq.dV
def cmpI (a b : Int) : Int := if a < b then -1 else if a > b then 1 else 0
theorem gat1_t (b : Bk) (id : Int) : Triple Try.prog 48 #[ag (bkC b), .int .i64 id] [] (RVal (.int .i64 (cmpI b.id id))) := by
  have hfx := bkC_ok b
  have c8 := gcmp_t b.id id
  refine Triple.enter Try.func48 rfl Try.ntmps48 rfl (fun W => ?_)
  dsimp only [argsF, Nat.reduceAdd]
  repeat' (first
   | refine WPl.nil ?_ | refine WPq.then ?_ | refine WPq.thenR ?_ | refine WPq.thenE ?_ | refine WPq.blockN ?_ | refine WPq.blockR ?_ | refine WPq.blockE ?_ | refine WPq.blockO rfl ?_ | refine WPc.seq ?_ | refine WPc.block ?_ | refine WPc.ret ?_ | refine WPc.exit ?_ | refine WPc.skip ?_ | refine WPc.region ?_
   | (refine isCond ?_; first | refine WPc.cT ?_ | refine WPc.cF ?_ | (refine WPc.cQ (fun hc => ?_) (fun hc => ?_) <;> try exact prA))
   | (refine isD 2 ?_; refine WPl.boxC (bkC b) hfx rfl (fun g2 => ?_))
   | (refine isC 8 ?_; refine WPl.cV (c8) ?_)
   | (refine isOp ?_; first | refine WPl.rd ?_ | refine WPl.sk ?_ | refine WPl.rdB ?_)
   | (refine isBx ?_; refine WPl.nw fun g => ?_)
   | (show WPl _ _ _ _ _ _ _ (⟨_, .indexAddr _ _ _, _, _, _, _⟩ :: _) _; refine WPl.rdX (ReadR.indexE rfl rfl hasA (by first | assumption | omega)) ?_)
   | (show WPl _ _ _ _ _ _ _ (⟨_, .fieldAddr _ _ _, _, _, _, _⟩ :: _) _; refine WPl.rdX (ReadR.fieldE rfl hasA (by first | assumption | omega)) ?_)
   | (show WPl _ _ _ _ _ _ _ (⟨_, .load _ _, _, _, _, _⟩ :: _) _; first | refine WPl.rdX (ReadR.loadE rfl hasA (by assumption)) ?_ | refine WPl.rdX (ReadR.loadES (by assumption) (by first | assumption | omega) rfl hasA) ?_)
   | (show WPl _ _ _ _ _ _ _ (⟨_, .slice _ _ _ _ _, _, _, _, _⟩ :: _) _; first | refine WPl.rdX (ReadR.sliceH rfl rfl hasA (by omega)) ?_ | refine WPl.rdX (ReadR.sliceL rfl rfl hasA (by omega)) ?_ | refine WPl.rdX (ReadR.sliceLH rfl rfl rfl hasA (by omega) (by omega)) ?_)
   | (refine WPl.spQ (fun hc => ?_) (fun hc => ?_) <;> try exact prA)
   | fail)
  exact WPq.dV
end Go.Proofs.Ytpjfkomicehinaa
/- Layer 20 (farm): contracts: where a backend is, or would be. -/
namespace Go.Proofs.Ytpjfkomicehinaa
def lbB (l : List Bk) (id : Int) : Nat := (l.filter fun b => decide (b.id < id)).length
def hasB (l : List Bk) (id : Int) : Bool := l.any fun b => decide (b.id = id)
def SrtB (l : List Bk) : Prop := l.Pairwise fun a b => a.id < b.id
theorem srt_lt {l : List Bk} (h : SrtB l) {i j : Nat} {a b : Bk} (ha : l[i]? = some a) (hb : l[j]? = some b) (hij : i < j) : a.id < b.id := by
  obtain ⟨hi, rfl⟩ := List.getElem?_eq_some_iff.1 ha
  obtain ⟨hj, rfl⟩ := List.getElem?_eq_some_iff.1 hb
  exact List.pairwise_iff_getElem.1 h i j hi hj hij
theorem filter_split {l : List Bk} {q : Bk → Bool} {i : Nat} (hi : i ≤ l.length) (h1 : ∀ k b, k < i → l[k]? = some b → q b = true) (h2 : ∀ k b, i ≤ k → l[k]? = some b → q b = false) : l.filter q = l.take i ∧ (l.filter fun b => !q b) = l.drop i := by
  have e := List.take_append_drop i l
  have f1 : (l.take i).filter q = l.take i := List.filter_eq_self.2 fun b hb => by
    obtain ⟨k, hk⟩ := List.getElem?_of_mem hb
    have hlt : k < i := by have := (List.getElem?_eq_some_iff.1 hk).1; rw [List.length_take] at this; omega
    rw [List.getElem?_take_of_lt hlt] at hk
    exact h1 k b hlt hk
  have f2 : (l.drop i).filter q = [] := List.filter_eq_nil_iff.2 fun b hb => by
    obtain ⟨k, hk⟩ := List.getElem?_of_mem hb
    rw [List.getElem?_drop] at hk
    rw [h2 (i + k) b (by omega) hk]; simp
  have f3 : ((l.take i).filter fun b => !q b) = [] := List.filter_eq_nil_iff.2 fun b hb => by
    obtain ⟨k, hk⟩ := List.getElem?_of_mem hb
    have hlt : k < i := by have := (List.getElem?_eq_some_iff.1 hk).1; rw [List.length_take] at this; omega
    rw [List.getElem?_take_of_lt hlt] at hk
    rw [h1 k b hlt hk]; simp
  have f4 : ((l.drop i).filter fun b => !q b) = l.drop i := List.filter_eq_self.2 fun b hb => by
    obtain ⟨k, hk⟩ := List.getElem?_of_mem hb
    rw [List.getElem?_drop] at hk
    rw [h2 (i + k) b (by omega) hk]; rfl
  constructor
  · conv => lhs; rw [← e]
    rw [List.filter_append, f1, f2, List.append_nil]
  · conv => lhs; rw [← e]
    rw [List.filter_append, f3, f4, List.nil_append]
theorem lb_of {l : List Bk} {id : Int} {i : Nat} (hi : i ≤ l.length) (h1 : ∀ k b, k < i → l[k]? = some b → b.id < id) (h2 : ∀ k b, i ≤ k → l[k]? = some b → ¬ b.id < id) : lbB l id = i := by
  unfold lbB
  rw [(filter_split (q := fun b => decide (b.id < id)) hi (fun k b hk hb => decide_eq_true (h1 k b hk hb)) (fun k b hk hb => decide_eq_false (h2 k b hk hb))).1, List.length_take]
  omega
theorem has_at {l : List Bk} (hs : SrtB l) {id : Int} {i : Nat} (h1 : ∀ k b, k < i → l[k]? = some b → b.id < id) (h2 : ∀ k b, i ≤ k → l[k]? = some b → ¬ b.id < id) : hasB l id = (match l[i]? with | some b => decide (b.id = id) | none => false) := by
  unfold hasB
  rw [Bool.eq_iff_iff, List.any_eq_true]
  constructor
  · rintro ⟨b, hb, hid⟩
    have hid : b.id = id := by simpa using hid
    obtain ⟨k, hk⟩ := List.getElem?_of_mem hb
    have hki : i ≤ k := by
      refine Nat.le_of_not_lt fun h => ?_
      have := h1 k b h hk
      omega
    have hkl := (List.getElem?_eq_some_iff.1 hk).1
    obtain ⟨c, hc⟩ : ∃ c, l[i]? = some c := ⟨_, List.getElem?_eq_getElem (by omega)⟩
    rw [hc]
    by_cases hik : i = k
    · subst hik
      rw [hk] at hc
      cases hc
      exact decide_eq_true hid
    · have := srt_lt hs hc hk (by omega)
      exact absurd (by omega) (h2 i c (Nat.le_refl _) hc)
  · intro h
    cases hc : l[i]? with
    | none => rw [hc] at h; cases h
    | some c => rw [hc] at h; exact ⟨c, List.mem_of_getElem? hc, h⟩
open Go.RowKit
set_option linter.unusedSimpArgs false
set_option linter.unusedVariables false
set_option maxRecDepth 20000
set_option maxHeartbeats 4000000
attribute [local irreducible] WPc WPl WPq ReadR OpT BinR HasS bx rdN rowN Take Takes Prov Triple ResF BuildP Done ag Int.decLt Int.decLe Int.instDecidableEq
attribute [local irreducible] mp rmp rg rgo mput mget mfind mdel gbag bks ies lbB hasB
theorem gbs_t (vb : Value) (l : List Bk) (id : Int) (hs : SrtB l) (hl : l.length ≤ 1000) (cf : Value) (hcf : cf = .func (.func 48) #[] #[]) :
    Triple Try.prog 47 #[vb, .int .i64 id, cf] [rdN vb l.length (bks l)] (RVal (.tuple #[.int .i64 (lbB l id : Int), .bool (hasB l id)])) := by
  subst hcf
  have hL := bks_len (l := l)
  have cF := fun b : Bk => gat1_t b id
  refine Triple.enter Try.func47 rfl Try.ntmps47 rfl (fun W => ?_)
  dsimp only [argsF, Nat.reduceAdd]
  repeat' (first
   | refine WPl.nil ?_ | refine WPq.then ?_ | refine WPq.thenR ?_ | refine WPq.thenE ?_ | refine WPq.blockN ?_ | refine WPq.blockR ?_ | refine WPq.blockE ?_ | refine WPq.blockO rfl ?_ | refine WPc.seq ?_ | refine WPc.block ?_ | refine WPc.ret ?_ | refine WPc.exit ?_ | refine WPc.skip ?_ | refine WPc.region ?_
   | (refine isCond ?_; first | refine WPc.cT ?_ | refine WPc.cF ?_ | (refine WPc.cQ (fun hc => ?_) (fun hc => ?_) <;> try exact prA))
   | (refine isOp ?_; first | refine WPl.rd ?_ | refine WPl.sk ?_ | refine WPl.rdB ?_)
   | (show WPl _ _ _ _ _ _ _ (⟨_, .indexAddr _ _ _, _, _, _, _⟩ :: _) _; refine WPl.rdX (ReadR.indexE rfl rfl hasA (by first | assumption | omega)) ?_)
   | (show WPl _ _ _ _ _ _ _ (⟨_, .fieldAddr _ _ _, _, _, _, _⟩ :: _) _; refine WPl.rdX (ReadR.fieldE rfl hasA (by first | assumption | omega)) ?_)
   | (show WPl _ _ _ _ _ _ _ (⟨_, .load _ _, _, _, _, _⟩ :: _) _; first | refine WPl.rdX (ReadR.loadE rfl hasA (by assumption)) ?_ | refine WPl.rdX (ReadR.loadES (by assumption) (by first | assumption | omega) rfl hasA) ?_)
   | (show WPl _ _ _ _ _ _ _ (⟨_, .slice _ _ _ _ _, _, _, _, _⟩ :: _) _; first | refine WPl.rdX (ReadR.sliceH rfl rfl hasA (by omega)) ?_ | refine WPl.rdX (ReadR.sliceL rfl rfl hasA (by omega)) ?_ | refine WPl.rdX (ReadR.sliceLH rfl rfl rfl hasA (by omega) (by omega)) ?_)
   | (refine WPl.spQ (fun hc => ?_) (fun hc => ?_) <;> try exact prA)
   | fail)
  first | refine WPc.loop (σ := Nat × Nat) (fun st => st.1 ≤ st.2 ∧ st.2 ≤ l.length ∧ (∀ k b, k < st.1 → l[k]? = some b → b.id < id) ∧ (∀ k b, st.2 ≤ k → l[k]? = some b → ¬ b.id < id)) (fun st => [rdN vb l.length (bks l)]) (fun st => [(0, vb), (1, .int .i64 id), (2, .func (.func 48) #[] #[]), (8, .int .i64 (l.length : Int)), (9, .int .i64 (st.1 : Int)), (10, .int .i64 (st.2 : Int))]) (fun st => st.2 - st.1) ((0, l.length)) ?_ takesA frsA (fun st km hx hk => ?_)
  · exact ⟨Nat.zero_le _, Nat.le_refl _, fun k b hk => absurd hk (Nat.not_lt_zero _), fun k b hk hb => absurd (List.getElem?_eq_some_iff.1 hb).1 (by omega)⟩
  obtain ⟨i, j⟩ := st
  obtain ⟨hij, hj, h1, h2⟩ := hx
  dsimp only at hij hj h1 h2 hk ⊢
  have hkm : km = j - i := hk
  clear hk
  by_cases hlt : i < j
  · have hlt' : (i : Int) < (j : Int) := by omega
    obtain ⟨m, hm⟩ : ∃ m, m = (i + j) / 2 := ⟨_, rfl⟩
    have hml : m < l.length := by omega
    obtain ⟨b, hb⟩ : ∃ b, l[m]? = some b := ⟨_, List.getElem?_eq_getElem hml⟩
    have hbc := bks_at hb
    have cb := cF b
    have hw : IntKind.u64.wrap ((i : Int) + (j : Int)) = (((i + j : Nat) : Nat) : Int) := by rw [IntKind.wrap_u64]; omega
    have hsh : Value.int .u64 (((i : Int) + (j : Int)) / 2 ^ 1) = Value.int .u64 (m : Int) := by congr 1; omega
    have hw2 : IntKind.i64.wrap (((m : Nat) : Nat) : Int) = (m : Int) := by rw [IntKind.wrap_i64]; omega
    by_cases hc : b.id < id
    · have hcv : cmpI b.id id = -1 := by unfold cmpI; rw [if_pos hc]
      rw [hcv] at cb
      repeat' (first
       | refine WPl.nil ?_ | refine WPq.then ?_ | refine WPq.thenR ?_ | refine WPq.thenE ?_ | refine WPq.blockN ?_ | refine WPq.blockR ?_ | refine WPq.blockE ?_ | refine WPq.blockO rfl ?_ | refine WPc.seq ?_ | refine WPc.block ?_ | refine WPc.ret ?_ | refine WPc.exit ?_ | refine WPc.skip ?_ | refine WPc.region ?_
       | (refine isCond ?_; first | refine WPc.cT ?_ | refine WPc.cF ?_ | (refine WPc.cQ (fun hc => ?_) (fun hc => ?_) <;> try first | exact prA | (exfalso; first | omega)))
       | (refine isD 17 ?_; refine WPl.rdX (ReadR.binE rfl rfl BinR.lss (congrArg Value.bool (decide_eq_true hlt'))) ?_)
       | (refine isD 20 ?_; refine WPl.rdX (ReadR.binE rfl rfl (BinR.addI (by omega) (by omega)) rfl) ?_)
       | (refine isD 22 ?_; refine WPl.rdX (ReadR.binE rfl rfl (BinR.shrK (n := 1) rfl (by decide)) hsh) ?_)
       | (refine isD 27 ?_; refine WPl.rdX (ReadR.indexE (i := m) rfl rfl hasA hml) ?_)
       | (refine isD 28 ?_; refine WPl.rdX (ReadR.loadES (cs := bkC b) hbc (by omega) rfl hasA) ?_)
       | (refine isD 30 ?_; refine WPl.cFV [ag (bkC b), .int .i64 id] [] cb ?_)
       | (refine isD 31 ?_; refine WPl.rdX (ReadR.binE rfl rfl BinR.lss (congrArg Value.bool (decide_eq_true (show (-1 : Int) < 0 by omega)))) ?_)
       | (refine isOp ?_; first | refine WPl.rd ?_ | refine WPl.sk ?_ | refine WPl.rdB ?_)
       | (show WPl _ _ _ _ _ _ _ (⟨_, .indexAddr _ _ _, _, _, _, _⟩ :: _) _; refine WPl.rdX (ReadR.indexE rfl rfl hasA (by first | assumption | omega)) ?_)
       | (show WPl _ _ _ _ _ _ _ (⟨_, .fieldAddr _ _ _, _, _, _, _⟩ :: _) _; refine WPl.rdX (ReadR.fieldE rfl hasA (by first | assumption | omega)) ?_)
       | (show WPl _ _ _ _ _ _ _ (⟨_, .load _ _, _, _, _, _⟩ :: _) _; first | refine WPl.rdX (ReadR.loadE rfl hasA (by assumption)) ?_ | refine WPl.rdX (ReadR.loadES (by assumption) (by first | assumption | omega) rfl hasA) ?_)
       | (show WPl _ _ _ _ _ _ _ (⟨_, .slice _ _ _ _ _, _, _, _, _⟩ :: _) _; first | refine WPl.rdX (ReadR.sliceH rfl rfl hasA (by omega)) ?_ | refine WPl.rdX (ReadR.sliceL rfl rfl hasA (by omega)) ?_ | refine WPl.rdX (ReadR.sliceLH rfl rfl rfl hasA (by omega) (by omega)) ?_)
       | (refine WPl.spQ (fun hc => ?_) (fun hc => ?_) <;> try first | exact prA | (exfalso; first | omega))
       | fail)
      refine WPq.rnd (m + 1, j) ⟨by dsimp only; omega, hj, fun k c hk hc' => ?_, h2⟩ (by dsimp only; omega)
      dsimp only at hk
      by_cases hkm' : k = m
      · subst hkm'; rw [hb] at hc'; cases hc'; exact hc
      · exact Int.lt_trans (srt_lt hs hc' hb (by omega)) hc
    · have hcv : ¬ cmpI b.id id < 0 := by unfold cmpI; rw [if_neg hc]; split <;> omega
      repeat' (first
       | refine WPl.nil ?_ | refine WPq.then ?_ | refine WPq.thenR ?_ | refine WPq.thenE ?_ | refine WPq.blockN ?_ | refine WPq.blockR ?_ | refine WPq.blockE ?_ | refine WPq.blockO rfl ?_ | refine WPc.seq ?_ | refine WPc.block ?_ | refine WPc.ret ?_ | refine WPc.exit ?_ | refine WPc.skip ?_ | refine WPc.region ?_
       | (refine isCond ?_; first | refine WPc.cT ?_ | refine WPc.cF ?_ | (refine WPc.cQ (fun hc => ?_) (fun hc => ?_) <;> try first | exact prA | (exfalso; first | omega)))
       | (refine isD 17 ?_; refine WPl.rdX (ReadR.binE rfl rfl BinR.lss (congrArg Value.bool (decide_eq_true hlt'))) ?_)
       | (refine isD 20 ?_; refine WPl.rdX (ReadR.binE rfl rfl (BinR.addI (by omega) (by omega)) rfl) ?_)
       | (refine isD 22 ?_; refine WPl.rdX (ReadR.binE rfl rfl (BinR.shrK (n := 1) rfl (by decide)) hsh) ?_)
       | (refine isD 27 ?_; refine WPl.rdX (ReadR.indexE (i := m) rfl rfl hasA hml) ?_)
       | (refine isD 28 ?_; refine WPl.rdX (ReadR.loadES (cs := bkC b) hbc (by omega) rfl hasA) ?_)
       | (refine isD 30 ?_; refine WPl.cFV [ag (bkC b), .int .i64 id] [] cb ?_)
       | (refine isD 31 ?_; refine WPl.rdX (ReadR.binE rfl rfl BinR.lss (congrArg Value.bool (decide_eq_false hcv))) ?_)
       | (refine isOp ?_; first | refine WPl.rd ?_ | refine WPl.sk ?_ | refine WPl.rdB ?_)
       | (show WPl _ _ _ _ _ _ _ (⟨_, .indexAddr _ _ _, _, _, _, _⟩ :: _) _; refine WPl.rdX (ReadR.indexE rfl rfl hasA (by first | assumption | omega)) ?_)
       | (show WPl _ _ _ _ _ _ _ (⟨_, .fieldAddr _ _ _, _, _, _, _⟩ :: _) _; refine WPl.rdX (ReadR.fieldE rfl hasA (by first | assumption | omega)) ?_)
       | (show WPl _ _ _ _ _ _ _ (⟨_, .load _ _, _, _, _, _⟩ :: _) _; first | refine WPl.rdX (ReadR.loadE rfl hasA (by assumption)) ?_ | refine WPl.rdX (ReadR.loadES (by assumption) (by first | assumption | omega) rfl hasA) ?_)
       | (show WPl _ _ _ _ _ _ _ (⟨_, .slice _ _ _ _ _, _, _, _, _⟩ :: _) _; first | refine WPl.rdX (ReadR.sliceH rfl rfl hasA (by omega)) ?_ | refine WPl.rdX (ReadR.sliceL rfl rfl hasA (by omega)) ?_ | refine WPl.rdX (ReadR.sliceLH rfl rfl rfl hasA (by omega) (by omega)) ?_)
       | (refine WPl.spQ (fun hc => ?_) (fun hc => ?_) <;> try first | exact prA | (exfalso; first | omega))
       | fail)
      refine WPq.rnd (i, m) ⟨by dsimp only; omega, by dsimp only; omega, h1, fun k c hk hc' => ?_⟩ (by dsimp only; omega)
      dsimp only at hk
      by_cases hkm' : k = m
      · subst hkm'; rw [hb] at hc'; cases hc'; exact hc
      · have := srt_lt hs hb hc' (by omega)
        omega
  · have hij' : i = j := by omega
    subst hij'
    have hlt' : ¬ (i : Int) < (i : Int) := by omega
    have hlb := lb_of hj h1 h2
    have hha := has_at hs h1 h2
    rw [hlb, hha]
    by_cases hil : i < l.length
    · obtain ⟨b, hb⟩ : ∃ b, l[i]? = some b := ⟨_, List.getElem?_eq_getElem hil⟩
      have hbc := bks_at hb
      have cb := cF b
      have hil' : (i : Int) < (l.length : Int) := by omega
      rw [hb]
      dsimp only
      have hz : decide (cmpI b.id id = 0) = decide (b.id = id) := by
        rw [decide_eq_decide]
        unfold cmpI
        split
        · omega
        · split <;> omega
      repeat' (first
       | refine WPl.nil ?_ | refine WPq.then ?_ | refine WPq.thenR ?_ | refine WPq.thenE ?_ | refine WPq.blockN ?_ | refine WPq.blockR ?_ | refine WPq.blockE ?_ | refine WPq.blockO rfl ?_ | refine WPc.seq ?_ | refine WPc.block ?_ | refine WPc.ret ?_ | refine WPc.exit ?_ | refine WPc.skip ?_ | refine WPc.region ?_
       | (refine isCond ?_; first | refine WPc.cT ?_ | refine WPc.cF ?_ | (refine WPc.cQ (fun hc => ?_) (fun hc => ?_) <;> try first | exact prA | (exfalso; first | omega)))
       | (refine isD 17 ?_; refine WPl.rdX (ReadR.binE rfl rfl BinR.lss (congrArg Value.bool (decide_eq_false hlt'))) ?_)
       | (refine isD 38 ?_; refine WPl.rdX (ReadR.binE rfl rfl BinR.lss (congrArg Value.bool (decide_eq_true hil'))) ?_)
       | (refine isD 43 ?_; refine WPl.rdX (ReadR.indexE (i := i) rfl rfl hasA hil) ?_)
       | (refine isD 44 ?_; refine WPl.rdX (ReadR.loadES (cs := bkC b) hbc (by omega) rfl hasA) ?_)
       | (refine isD 46 ?_; refine WPl.cFV [ag (bkC b), .int .i64 id] [] cb ?_)
       | (refine isD 47 ?_; refine WPl.rdX (ReadR.binE rfl rfl BinR.eql (congrArg Value.bool hz)) ?_)
       | (refine isOp ?_; first | refine WPl.rd ?_ | refine WPl.sk ?_ | refine WPl.rdB ?_)
       | (show WPl _ _ _ _ _ _ _ (⟨_, .indexAddr _ _ _, _, _, _, _⟩ :: _) _; refine WPl.rdX (ReadR.indexE rfl rfl hasA (by first | assumption | omega)) ?_)
       | (show WPl _ _ _ _ _ _ _ (⟨_, .fieldAddr _ _ _, _, _, _, _⟩ :: _) _; refine WPl.rdX (ReadR.fieldE rfl hasA (by first | assumption | omega)) ?_)
       | (show WPl _ _ _ _ _ _ _ (⟨_, .load _ _, _, _, _, _⟩ :: _) _; first | refine WPl.rdX (ReadR.loadE rfl hasA (by assumption)) ?_ | refine WPl.rdX (ReadR.loadES (by assumption) (by first | assumption | omega) rfl hasA) ?_)
       | (show WPl _ _ _ _ _ _ _ (⟨_, .slice _ _ _ _ _, _, _, _, _⟩ :: _) _; first | refine WPl.rdX (ReadR.sliceH rfl rfl hasA (by omega)) ?_ | refine WPl.rdX (ReadR.sliceL rfl rfl hasA (by omega)) ?_ | refine WPl.rdX (ReadR.sliceLH rfl rfl rfl hasA (by omega) (by omega)) ?_)
       | (refine WPl.spQ (fun hc => ?_) (fun hc => ?_) <;> try first | exact prA | (exfalso; first | omega))
       | fail)
      exact WPq.dV
    · have hil' : ¬ (i : Int) < (l.length : Int) := by omega
      rw [List.getElem?_eq_none (by omega)]
      dsimp only
      repeat' (first
       | refine WPl.nil ?_ | refine WPq.then ?_ | refine WPq.thenR ?_ | refine WPq.thenE ?_ | refine WPq.blockN ?_ | refine WPq.blockR ?_ | refine WPq.blockE ?_ | refine WPq.blockO rfl ?_ | refine WPc.seq ?_ | refine WPc.block ?_ | refine WPc.ret ?_ | refine WPc.exit ?_ | refine WPc.skip ?_ | refine WPc.region ?_
       | (refine isCond ?_; first | refine WPc.cT ?_ | refine WPc.cF ?_ | (refine WPc.cQ (fun hc => ?_) (fun hc => ?_) <;> try first | exact prA | (exfalso; first | omega)))
       | (refine isD 17 ?_; refine WPl.rdX (ReadR.binE rfl rfl BinR.lss (congrArg Value.bool (decide_eq_false hlt'))) ?_)
       | (refine isD 38 ?_; refine WPl.rdX (ReadR.binE rfl rfl BinR.lss (congrArg Value.bool (decide_eq_false hil'))) ?_)
       | (refine isOp ?_; first | refine WPl.rd ?_ | refine WPl.sk ?_ | refine WPl.rdB ?_)
       | (show WPl _ _ _ _ _ _ _ (⟨_, .indexAddr _ _ _, _, _, _, _⟩ :: _) _; refine WPl.rdX (ReadR.indexE rfl rfl hasA (by first | assumption | omega)) ?_)
       | (show WPl _ _ _ _ _ _ _ (⟨_, .fieldAddr _ _ _, _, _, _, _⟩ :: _) _; refine WPl.rdX (ReadR.fieldE rfl hasA (by first | assumption | omega)) ?_)
       | (show WPl _ _ _ _ _ _ _ (⟨_, .load _ _, _, _, _, _⟩ :: _) _; first | refine WPl.rdX (ReadR.loadE rfl hasA (by assumption)) ?_ | refine WPl.rdX (ReadR.loadES (by assumption) (by first | assumption | omega) rfl hasA) ?_)
       | (show WPl _ _ _ _ _ _ _ (⟨_, .slice _ _ _ _ _, _, _, _, _⟩ :: _) _; first | refine WPl.rdX (ReadR.sliceH rfl rfl hasA (by omega)) ?_ | refine WPl.rdX (ReadR.sliceL rfl rfl hasA (by omega)) ?_ | refine WPl.rdX (ReadR.sliceLH rfl rfl rfl hasA (by omega) (by omega)) ?_)
       | (refine WPl.spQ (fun hc => ?_) (fun hc => ?_) <;> try first | exact prA | (exfalso; first | omega))
       | fail)
      exact WPq.dV
section
variable (g : Nat) (s : Sh) (v : Value) (l : List Bk)
theorem gat_t (id : Int) (hs : SrtB l) (hl : l.length ≤ 1000) : Triple Try.prog 24 #[.pointer (some ⟨g, 0, none⟩), .int .i64 id] [rbx g 33 (shC s v), rdN v l.length (bks l)] (RVal (.tuple #[.int .i64 (lbB l id : Int), .bool (hasB l id)])) := by
  have c11 := gbs_t v l id hs hl _ rfl
  have hal := s.ad.len
  refine Triple.enter Try.func24 rfl Try.ntmps24 rfl (fun W => ?_)
  dsimp only [argsF, Nat.reduceAdd]
  repeat' (first
   | refine WPl.nil ?_ | refine WPq.then ?_ | refine WPq.thenR ?_ | refine WPq.thenE ?_ | refine WPq.blockN ?_ | refine WPq.blockR ?_ | refine WPq.blockE ?_ | refine WPq.blockO rfl ?_ | refine WPc.seq ?_ | refine WPc.block ?_ | refine WPc.ret ?_ | refine WPc.exit ?_ | refine WPc.skip ?_ | refine WPc.region ?_
   | (refine isCond ?_; first | refine WPc.cT ?_ | refine WPc.cF ?_ | (refine WPc.cQ (fun hc => ?_) (fun hc => ?_) <;> try exact prA))
   | (refine isD 9 ?_; refine WPl.rdX (ReadR.loadO memA rfl rfl) ?_)
   | (refine isC 11 ?_; refine WPl.cV (c11) ?_)
   | (refine isOp ?_; first | refine WPl.rd ?_ | refine WPl.sk ?_ | refine WPl.rdB ?_)
   | (show WPl _ _ _ _ _ _ _ (⟨_, .indexAddr _ _ _, _, _, _, _⟩ :: _) _; refine WPl.rdX (ReadR.indexE rfl rfl hasA (by first | assumption | omega)) ?_)
   | (show WPl _ _ _ _ _ _ _ (⟨_, .fieldAddr _ _ _, _, _, _, _⟩ :: _) _; refine WPl.rdX (ReadR.fieldE rfl hasA (by first | assumption | omega)) ?_)
   | (show WPl _ _ _ _ _ _ _ (⟨_, .load _ _, _, _, _, _⟩ :: _) _; first | refine WPl.rdX (ReadR.loadE rfl hasA (by assumption)) ?_ | refine WPl.rdX (ReadR.loadES (by assumption) (by first | assumption | omega) rfl hasA) ?_)
   | (show WPl _ _ _ _ _ _ _ (⟨_, .slice _ _ _ _ _, _, _, _, _⟩ :: _) _; first | refine WPl.rdX (ReadR.sliceH rfl rfl hasA (by omega)) ?_ | refine WPl.rdX (ReadR.sliceL rfl rfl hasA (by omega)) ?_ | refine WPl.rdX (ReadR.sliceLH rfl rfl rfl hasA (by omega) (by omega)) ?_)
   | (refine WPl.spQ (fun hc => ?_) (fun hc => ?_) <;> try exact prA)
   | fail)
  exact WPq.dV
end
end Go.Proofs.Ytpjfkomicehinaa
/- Layer 20 (farm): what a farm has, plain. -/
namespace Go.Proofs.Ytpjfkomicehinaa
set_option linter.unusedSimpArgs false
set_option linter.unusedVariables false
def findS (L : List Sb) (id : Int) : Option Sb := L.find? fun x => decide (x.s.id = id)
def doorS (L : List Sb) (d : Dr) : Option Sb := L.find? fun x => decide (x.s.door = d)
def SrtL (L : List Sb) : Prop := L.Pairwise fun a b => a.s.id < b.s.id
/-- What is known of the services. -/
structure LInv (L : List Sb) : Prop where
  srt : SrtL L
  bsrt : ∀ x ∈ L, SrtB x.bs
  uniq : ∀ x ∈ L, ∀ y ∈ L, x.s.door = y.s.door → x = y
  len : L.length ≤ 8
  blen : ∀ x ∈ L, x.bs.length ≤ 16
  idr : ∀ x ∈ L, 0 ≤ x.s.id ∧ x.s.id ≤ 65535
  portr : ∀ x ∈ L, x.s.port < 65536
structure PInv (L : List Sb) (F : FM) : Prop extends LInv L where
  perm : (F.ps.map PS.sb).Perm L
  door : ∀ d, mfind F.ds d = (doorS L d).map (·.s.id)
  dnd : (F.ds.map (·.1)).Nodup
  one : ∀ x ∈ F.ps, x.v.oneCell' = true
theorem SrtL.nodup {L : List Sb} (h : SrtL L) : (L.map (·.s.id)).Nodup := by
  unfold List.Nodup
  rw [List.pairwise_map]
  exact h.imp fun h => by omega
theorem SrtL.uniq {L : List Sb} (h : SrtL L) {x y : Sb} (hx : x ∈ L) (hy : y ∈ L) (he : x.s.id = y.s.id) : x = y := by
  obtain ⟨i, hi⟩ := List.getElem?_of_mem hx
  obtain ⟨j, hj⟩ := List.getElem?_of_mem hy
  obtain ⟨hil, hie⟩ := List.getElem?_eq_some_iff.1 hi
  obtain ⟨hjl, hje⟩ := List.getElem?_eq_some_iff.1 hj
  rcases Nat.lt_trichotomy i j with h1 | h1 | h1
  · have := List.pairwise_iff_getElem.1 h i j hil hjl h1
    rw [hie, hje] at this; omega
  · subst h1; rw [hi] at hj; exact Option.some.inj hj
  · have := List.pairwise_iff_getElem.1 h j i hjl hil h1
    rw [hie, hje] at this; omega
theorem findS_some {L : List Sb} {id : Int} {y : Sb} (h : findS L id = some y) : y ∈ L ∧ y.s.id = id :=
  ⟨List.mem_of_find?_eq_some h, by have := List.find?_some h; simpa using this⟩
theorem findS_none {L : List Sb} {id : Int} (h : findS L id = none) : ∀ y ∈ L, y.s.id ≠ id := fun y hy => by
  have := List.find?_eq_none.1 h y hy
  simpa using this
theorem findS_mem {L : List Sb} (hs : SrtL L) {y : Sb} (hy : y ∈ L) : findS L y.s.id = some y := by
  cases h : findS L y.s.id with
  | none => exact absurd rfl (findS_none h y hy)
  | some z =>
    obtain ⟨h1, h2⟩ := findS_some h
    rw [hs.uniq h1 hy h2]
theorem doorS_some {L : List Sb} {d : Dr} {y : Sb} (h : doorS L d = some y) : y ∈ L ∧ y.s.door = d :=
  ⟨List.mem_of_find?_eq_some h, by have := List.find?_some h; simpa using this⟩
theorem doorS_none {L : List Sb} {d : Dr} (h : doorS L d = none) : ∀ y ∈ L, y.s.door ≠ d := fun y hy => by
  have := List.find?_eq_none.1 h y hy
  simpa using this
theorem LInv.doorMem {L : List Sb} (h : LInv L) {y : Sb} (hy : y ∈ L) : doorS L y.s.door = some y := by
  cases hd : doorS L y.s.door with
  | none => exact absurd rfl (doorS_none hd y hy)
  | some z =>
    obtain ⟨h1, h2⟩ := doorS_some hd
    rw [h.uniq z h1 y hy h2]
theorem ies_keys {ps : List PS} : (ies ps).map (·.1) = (ps.map PS.sb).map (·.s.id) := by
  unfold ies
  rw [List.map_map, List.map_map]
  rfl
theorem PInv.ids {L : List Sb} {F : FM} (h : PInv L F) : ((ies F.ps).map (·.1)).Nodup := by
  rw [ies_keys]
  exact ((h.perm.map _).nodup_iff).2 h.srt.nodup
theorem ies_at {ps : List PS} {i : Nat} {x : PS} (h : ps[i]? = some x) : (ies ps)[i]? = some (x.s.id, some x.g) := by
  unfold ies; rw [List.getElem?_map, h]; rfl
/-- A service that is there, in memory. -/
theorem PInv.at {L : List Sb} {F : FM} (h : PInv L F) {id : Int} {y : Sb} (hf : findS L id = some y) : ∃ (A B : List PS) (x : PS), F.ps = A ++ x :: B ∧ x.sb = y ∧ x.s.id = id ∧ mfind (ies F.ps) id = some (some x.g) := by
  obtain ⟨hy, hid⟩ := findS_some hf
  have hy2 := h.perm.mem_iff.2 hy
  obtain ⟨x, hx, rfl⟩ := List.mem_map.1 hy2
  obtain ⟨A, B, hAB⟩ := List.append_of_mem hx
  refine ⟨A, B, x, hAB, rfl, hid, ?_⟩
  obtain ⟨i, hi⟩ := List.getElem?_of_mem hx
  exact (mfind_some h.ids (ies_at hi) hid).1
theorem PInv.no {L : List Sb} {F : FM} (h : PInv L F) {id : Int} (hf : findS L id = none) : mfind (ies F.ps) id = none := by
  refine (mfind_none fun x hx => ?_).1
  obtain ⟨y, hy, rfl⟩ := List.mem_map.1 hx
  exact findS_none hf y.sb (h.perm.mem_iff.1 (List.mem_map.2 ⟨y, hy, rfl⟩))
theorem PInv.len' {L : List Sb} {F : FM} (h : PInv L F) : (ies F.ps).length = L.length := by
  have := h.perm.length_eq
  unfold ies
  rw [List.length_map] at this ⊢
  exact this
theorem ids_sorted {L : List Sb} {F : FM} (h : PInv L F) : ((ies F.ps).map (·.1)).mergeSort (fun x y => decide (x ≤ y)) = L.map (·.s.id) := by
  have hp : ((ies F.ps).map (·.1)).Perm (L.map (·.s.id)) := by rw [ies_keys]; exact h.perm.map _
  have h1 : (((ies F.ps).map (·.1)).mergeSort (fun x y => decide (x ≤ y))).Pairwise (fun a b => a ≤ b) := by
    have := List.pairwise_mergeSort (le := fun (x y : Int) => decide (x ≤ y)) (fun a b c h1 h2 => by simp only [decide_eq_true_eq] at *; omega) (fun a b => by simp only [Bool.or_eq_true, decide_eq_true_eq]; omega) ((ies F.ps).map (·.1))
    exact this.imp fun h => by simpa using h
  have h2 : (L.map (·.s.id)).Pairwise (fun a b => a ≤ b) := by
    rw [List.pairwise_map]
    exact h.srt.imp fun h => by omega
  exact List.Perm.eq_of_pairwise (le := fun a b => a ≤ b) (fun a b _ _ h1 h2 => by omega) h1 h2 ((List.mergeSort_perm _ _).trans hp)
end Go.Proofs.Ytpjfkomicehinaa
/- Layer 20 (farm): contracts that only read: find, Match, IDs, Service, Backend, Shares. -/
namespace Go.Proofs.Ytpjfkomicehinaa
open Go.RowKit
set_option linter.unusedSimpArgs false
set_option linter.unusedVariables false
set_option maxRecDepth 20000
set_option maxHeartbeats 4000000
attribute [local irreducible] WPc WPl WPq ReadR OpT BinR HasS bx rdN rowN Take Takes Prov Triple ResF BuildP Done ag Int.decLt Int.decLe Int.instDecidableEq
attribute [local irreducible] mp rmp rg rgo mput mget mfind mdel gbag bks ies lbB hasB findS
instance gintElt : EltN Try.prog 3 1 := ⟨by kernel_rfl⟩
instance shrElt : EltN Try.prog 79 2 := ⟨by kernel_rfl⟩
theorem ies_get {ps : List PS} {sid : Int} {o : Option (Option Nat)} (h : mfind (ies ps) sid = o) : idM.vc (mget idM (ies ps) sid) = oPtr (o.getD none) ∧ mhas (ies ps) sid = o.isSome := by
  subst h
  with_unfolding_all exact ⟨rfl, rfl⟩
theorem gclone_t (v : Value) (l : List Bk) (hl : l.length ≤ 1000) : Triple Try.prog 37 #[v] [rdN v l.length (bks l)] (RRow 36 21 l.length (bks l)) := by
  have hL := bks_len (l := l)
  have hone : ∀ u ∈ bks l, u.oneCell' = true := fun u hu => by
    obtain ⟨L, hL, hu⟩ := List.mem_flatten.1 (by with_unfolding_all exact hu)
    obtain ⟨b, _, rfl⟩ := List.mem_map.1 hL
    exact (bkC_ok b).one u hu
  refine Triple.enter Try.func37 rfl Try.ntmps37 rfl (fun W => ?_)
  dsimp only [argsF, Nat.reduceAdd]
  refine WPc.nilRowN 36 21 ?_
  repeat' (first
   | refine WPl.nil ?_ | refine WPq.then ?_ | refine WPq.thenR ?_ | refine WPq.thenE ?_ | refine WPq.blockN ?_ | refine WPq.blockR ?_ | refine WPq.blockE ?_ | refine WPq.blockO rfl ?_ | refine WPc.seq ?_ | refine WPc.block ?_ | refine WPc.ret ?_ | refine WPc.exit ?_ | refine WPc.skip ?_ | refine WPc.region ?_
   | (refine isCond ?_; first | refine WPc.cT ?_ | refine WPc.cF ?_)
   | (refine isOp ?_; first | refine WPl.rd ?_ | refine WPl.sk ?_ | refine WPl.rdB ?_)
   | (show WPl _ _ _ _ _ _ _ (⟨_, .indexAddr _ _ _, _, _, _, _⟩ :: _) _; refine WPl.rdX (ReadR.indexE rfl rfl hasA (by first | assumption | omega)) ?_)
   | (show WPl _ _ _ _ _ _ _ (⟨_, .fieldAddr _ _ _, _, _, _, _⟩ :: _) _; refine WPl.rdX (ReadR.fieldE rfl hasA (by first | assumption | omega)) ?_)
   | (show WPl _ _ _ _ _ _ _ (⟨_, .load _ _, _, _, _, _⟩ :: _) _; first | refine WPl.rdX (ReadR.loadE rfl hasA (by assumption)) ?_ | refine WPl.rdX (ReadR.loadES (by assumption) (by first | assumption | omega) rfl hasA) ?_)
   | (show WPl _ _ _ _ _ _ _ (⟨_, .slice _ _ _ _ _, _, _, _, _⟩ :: _) _; first | refine WPl.rdX (ReadR.sliceH rfl rfl hasA (by omega)) ?_ | refine WPl.rdX (ReadR.sliceL rfl rfl hasA (by omega)) ?_ | refine WPl.rdX (ReadR.sliceLH rfl rfl rfl hasA (by omega) (by omega)) ?_)
   | fail)
  refine WPc.cS (fun hc => WPc.know (HasS.nilLen hasA hc) fun h0 => ?_) (fun hc => ?_)
  · have hl0 : l = [] := List.length_eq_zero_iff.1 h0
    subst hl0
    rw [show bks [] = [] by with_unfolding_all rfl]
    repeat' (first
     | refine WPl.nil ?_ | refine WPq.then ?_ | refine WPq.thenR ?_ | refine WPq.thenE ?_ | refine WPq.blockN ?_ | refine WPq.blockR ?_ | refine WPq.blockE ?_ | refine WPq.blockO rfl ?_ | refine WPc.seq ?_ | refine WPc.block ?_ | refine WPc.ret ?_ | refine WPc.exit ?_ | refine WPc.skip ?_ | refine WPc.region ?_
     | (refine isCond ?_; first | refine WPc.cT ?_ | refine WPc.cF ?_)
     | (refine isOp ?_; first | refine WPl.rd ?_ | refine WPl.sk ?_ | refine WPl.rdB ?_)
     | (show WPl _ _ _ _ _ _ _ (⟨_, .indexAddr _ _ _, _, _, _, _⟩ :: _) _; refine WPl.rdX (ReadR.indexE rfl rfl hasA (by first | assumption | omega)) ?_)
     | (show WPl _ _ _ _ _ _ _ (⟨_, .fieldAddr _ _ _, _, _, _, _⟩ :: _) _; refine WPl.rdX (ReadR.fieldE rfl hasA (by first | assumption | omega)) ?_)
     | (show WPl _ _ _ _ _ _ _ (⟨_, .load _ _, _, _, _, _⟩ :: _) _; first | refine WPl.rdX (ReadR.loadE rfl hasA (by assumption)) ?_ | refine WPl.rdX (ReadR.loadES (by assumption) (by first | assumption | omega) rfl hasA) ?_)
     | (show WPl _ _ _ _ _ _ _ (⟨_, .slice _ _ _ _ _, _, _, _, _⟩ :: _) _; first | refine WPl.rdX (ReadR.sliceH rfl rfl hasA (by omega)) ?_ | refine WPl.rdX (ReadR.sliceL rfl rfl hasA (by omega)) ?_ | refine WPl.rdX (ReadR.sliceLH rfl rfl rfl hasA (by omega) (by omega)) ?_)
     | fail)
    exact WPq.dR
  · skip
    repeat' (first
     | refine WPl.nil ?_ | refine WPq.then ?_ | refine WPq.thenR ?_ | refine WPq.thenE ?_ | refine WPq.blockN ?_ | refine WPq.blockR ?_ | refine WPq.blockE ?_ | refine WPq.blockO rfl ?_ | refine WPc.seq ?_ | refine WPc.block ?_ | refine WPc.ret ?_ | refine WPc.exit ?_ | refine WPc.skip ?_ | refine WPc.region ?_
     | (refine isCond ?_; first | refine WPc.cT ?_ | refine WPc.cF ?_ | (refine WPc.cQ (fun hc => ?_) (fun hc => ?_) <;> try exact prA))
     | (refine isD 5 ?_; refine WPl.litS0 fun v5 hv5 => ?_)
     | (refine isD 7 ?_; refine WPl.appN (m := 0) (m2 := l.length) (xs := []) (ys := bks l) hL hone (by omega) fun v7 hv7 => ?_)
     | (refine isOp ?_; first | refine WPl.rd ?_ | refine WPl.sk ?_ | refine WPl.rdB ?_)
     | (show WPl _ _ _ _ _ _ _ (⟨_, .indexAddr _ _ _, _, _, _, _⟩ :: _) _; refine WPl.rdX (ReadR.indexE rfl rfl hasA (by first | assumption | omega)) ?_)
     | (show WPl _ _ _ _ _ _ _ (⟨_, .fieldAddr _ _ _, _, _, _, _⟩ :: _) _; refine WPl.rdX (ReadR.fieldE rfl hasA (by first | assumption | omega)) ?_)
     | (show WPl _ _ _ _ _ _ _ (⟨_, .load _ _, _, _, _, _⟩ :: _) _; first | refine WPl.rdX (ReadR.loadE rfl hasA (by assumption)) ?_ | refine WPl.rdX (ReadR.loadES (by assumption) (by first | assumption | omega) rfl hasA) ?_)
     | (show WPl _ _ _ _ _ _ _ (⟨_, .slice _ _ _ _ _, _, _, _, _⟩ :: _) _; first | refine WPl.rdX (ReadR.sliceH rfl rfl hasA (by omega)) ?_ | refine WPl.rdX (ReadR.sliceL rfl rfl hasA (by omega)) ?_ | refine WPl.rdX (ReadR.sliceLH rfl rfl rfl hasA (by omega) (by omega)) ?_)
     | (refine WPl.spQ (fun hc => ?_) (fun hc => ?_) <;> try exact prA)
     | fail)
    rw [Nat.zero_add, List.nil_append]
    exact WPq.dR
def idxI (l : List Int) (x : Int) : Int := match l.findIdx? (fun y => decide (x = y)) with | some i => (i : Int) | none => -1
theorem gindex_t (v : Value) (l : List Int) (x : Int) (hl : l.length ≤ 1000) : Triple Try.prog 53 #[v, .int .i64 x] [rdN v l.length (intsV l)] (RVal (.int .i64 (idxI l x))) := by
  have hL : (intsV l).length = l.length := by with_unfolding_all simp [intsV]
  refine Triple.enter Try.func53 rfl Try.ntmps53 rfl (fun W => ?_)
  dsimp only [argsF, Nat.reduceAdd]
  repeat' (first
   | refine WPl.nil ?_ | refine WPq.then ?_ | refine WPq.thenR ?_ | refine WPq.thenE ?_ | refine WPq.blockN ?_ | refine WPq.blockR ?_ | refine WPq.blockE ?_ | refine WPq.blockO rfl ?_ | refine WPc.seq ?_ | refine WPc.block ?_ | refine WPc.ret ?_ | refine WPc.exit ?_ | refine WPc.skip ?_ | refine WPc.region ?_
   | (refine isCond ?_; first | refine WPc.cT ?_ | refine WPc.cF ?_ | (refine WPc.cQ (fun hc => ?_) (fun hc => ?_) <;> try exact prA))
   | (refine isOp ?_; first | refine WPl.rd ?_ | refine WPl.sk ?_ | refine WPl.rdB ?_)
   | (show WPl _ _ _ _ _ _ _ (⟨_, .indexAddr _ _ _, _, _, _, _⟩ :: _) _; refine WPl.rdX (ReadR.indexE rfl rfl hasA (by first | assumption | omega)) ?_)
   | (show WPl _ _ _ _ _ _ _ (⟨_, .fieldAddr _ _ _, _, _, _, _⟩ :: _) _; refine WPl.rdX (ReadR.fieldE rfl hasA (by first | assumption | omega)) ?_)
   | (show WPl _ _ _ _ _ _ _ (⟨_, .load _ _, _, _, _, _⟩ :: _) _; first | refine WPl.rdX (ReadR.loadE rfl hasA (by assumption)) ?_ | refine WPl.rdX (ReadR.loadES (by assumption) (by first | assumption | omega) rfl hasA) ?_)
   | (show WPl _ _ _ _ _ _ _ (⟨_, .slice _ _ _ _ _, _, _, _, _⟩ :: _) _; first | refine WPl.rdX (ReadR.sliceH rfl rfl hasA (by omega)) ?_ | refine WPl.rdX (ReadR.sliceL rfl rfl hasA (by omega)) ?_ | refine WPl.rdX (ReadR.sliceLH rfl rfl rfl hasA (by omega) (by omega)) ?_)
   | (refine WPl.spQ (fun hc => ?_) (fun hc => ?_) <;> try exact prA)
   | fail)
  first | refine WPc.loop (σ := Nat) (fun st => st ≤ l.length ∧ ∀ j y, j < st → l[j]? = some y → decide (x = y) = false) (fun st => [rdN v l.length (intsV l)]) (fun st => [(0, v), (1, .int .i64 x), (7, .int .i64 (l.length : Int)), (8, .int .i64 (st : Int))]) (fun st => l.length - st) (0) ?_ takesA frsA (fun st km hx hk => ?_)
  · exact ⟨Nat.zero_le _, fun j y hj => absurd hj (Nat.not_lt_zero _)⟩
  obtain ⟨i, rfl⟩ : ∃ i, i = st := ⟨_, rfl⟩
  obtain ⟨hi, hno⟩ := hx
  have hkm : km = l.length - i := hk
  clear hk
  by_cases hlt : i < l.length
  · obtain ⟨y, hy⟩ : ∃ y, l[i]? = some y := ⟨_, List.getElem?_eq_getElem hlt⟩
    have hlt' : (i : Int) < (l.length : Int) := by omega
    have hyv : (intsV l)[i]? = some (.int .i64 y) := by with_unfolding_all (unfold intsV; rw [List.getElem?_map, hy]; rfl)
    by_cases hxy : x = y
    · have hr : idxI l x = (i : Int) := by
        unfold idxI
        rw [show l.findIdx? (fun y => decide (x = y)) = some i by
          rw [List.findIdx?_eq_some_iff_getElem]
          refine ⟨hlt, ?_, fun j hji => ?_⟩
          · have : l[i] = y := (List.getElem?_eq_some_iff.1 hy).2
            rw [this]; simpa using hxy
          · have hjl : j < l.length := by omega
            have := hno j l[j] hji (List.getElem?_eq_getElem hjl)
            simpa using this]
      rw [hr]
      repeat' (first
       | refine WPl.nil ?_ | refine WPq.then ?_ | refine WPq.thenR ?_ | refine WPq.thenE ?_ | refine WPq.blockN ?_ | refine WPq.blockR ?_ | refine WPq.blockE ?_ | refine WPq.blockO rfl ?_ | refine WPc.seq ?_ | refine WPc.block ?_ | refine WPc.ret ?_ | refine WPc.exit ?_ | refine WPc.skip ?_ | refine WPc.region ?_
       | (refine isCond ?_; first | refine WPc.cT ?_ | refine WPc.cF ?_ | (refine WPc.cQ (fun hc => ?_) (fun hc => ?_) <;> try first | exact prA | (exfalso; first | omega)))
       | (refine isD 9 ?_; refine WPl.rdX (ReadR.binE rfl rfl BinR.lss (congrArg Value.bool (decide_eq_true hlt'))) ?_)
       | (refine isD 14 ?_; refine WPl.rdX (ReadR.indexE1 (i := i) rfl rfl hasA hlt) ?_)
       | (refine isD 15 ?_; refine WPl.rdX (ReadR.loadE rfl hasA hyv) ?_)
       | (refine isD 16 ?_; refine WPl.rdX (ReadR.binE rfl rfl BinR.eql (congrArg Value.bool (decide_eq_true hxy))) ?_)
       | (refine isOp ?_; first | refine WPl.rd ?_ | refine WPl.sk ?_ | refine WPl.rdB ?_)
       | (show WPl _ _ _ _ _ _ _ (⟨_, .indexAddr _ _ _, _, _, _, _⟩ :: _) _; refine WPl.rdX (ReadR.indexE rfl rfl hasA (by first | assumption | omega)) ?_)
       | (show WPl _ _ _ _ _ _ _ (⟨_, .fieldAddr _ _ _, _, _, _, _⟩ :: _) _; refine WPl.rdX (ReadR.fieldE rfl hasA (by first | assumption | omega)) ?_)
       | (show WPl _ _ _ _ _ _ _ (⟨_, .load _ _, _, _, _, _⟩ :: _) _; first | refine WPl.rdX (ReadR.loadE rfl hasA (by assumption)) ?_ | refine WPl.rdX (ReadR.loadES (by assumption) (by first | assumption | omega) rfl hasA) ?_)
       | (show WPl _ _ _ _ _ _ _ (⟨_, .slice _ _ _ _ _, _, _, _, _⟩ :: _) _; first | refine WPl.rdX (ReadR.sliceH rfl rfl hasA (by omega)) ?_ | refine WPl.rdX (ReadR.sliceL rfl rfl hasA (by omega)) ?_ | refine WPl.rdX (ReadR.sliceLH rfl rfl rfl hasA (by omega) (by omega)) ?_)
       | (refine WPl.spQ (fun hc => ?_) (fun hc => ?_) <;> try first | exact prA | (exfalso; first | omega))
       | fail)
      exact WPq.dV
    · skip
      repeat' (first
       | refine WPl.nil ?_ | refine WPq.then ?_ | refine WPq.thenR ?_ | refine WPq.thenE ?_ | refine WPq.blockN ?_ | refine WPq.blockR ?_ | refine WPq.blockE ?_ | refine WPq.blockO rfl ?_ | refine WPc.seq ?_ | refine WPc.block ?_ | refine WPc.ret ?_ | refine WPc.exit ?_ | refine WPc.skip ?_ | refine WPc.region ?_
       | (refine isCond ?_; first | refine WPc.cT ?_ | refine WPc.cF ?_ | (refine WPc.cQ (fun hc => ?_) (fun hc => ?_) <;> try first | exact prA | (exfalso; first | omega)))
       | (refine isD 9 ?_; refine WPl.rdX (ReadR.binE rfl rfl BinR.lss (congrArg Value.bool (decide_eq_true hlt'))) ?_)
       | (refine isD 14 ?_; refine WPl.rdX (ReadR.indexE1 (i := i) rfl rfl hasA hlt) ?_)
       | (refine isD 15 ?_; refine WPl.rdX (ReadR.loadE rfl hasA hyv) ?_)
       | (refine isD 16 ?_; refine WPl.rdX (ReadR.binE rfl rfl BinR.eql (congrArg Value.bool (decide_eq_false hxy))) ?_)
       | (refine isOp ?_; first | refine WPl.rd ?_ | refine WPl.sk ?_ | refine WPl.rdB ?_)
       | (show WPl _ _ _ _ _ _ _ (⟨_, .indexAddr _ _ _, _, _, _, _⟩ :: _) _; refine WPl.rdX (ReadR.indexE rfl rfl hasA (by first | assumption | omega)) ?_)
       | (show WPl _ _ _ _ _ _ _ (⟨_, .fieldAddr _ _ _, _, _, _, _⟩ :: _) _; refine WPl.rdX (ReadR.fieldE rfl hasA (by first | assumption | omega)) ?_)
       | (show WPl _ _ _ _ _ _ _ (⟨_, .load _ _, _, _, _, _⟩ :: _) _; first | refine WPl.rdX (ReadR.loadE rfl hasA (by assumption)) ?_ | refine WPl.rdX (ReadR.loadES (by assumption) (by first | assumption | omega) rfl hasA) ?_)
       | (show WPl _ _ _ _ _ _ _ (⟨_, .slice _ _ _ _ _, _, _, _, _⟩ :: _) _; first | refine WPl.rdX (ReadR.sliceH rfl rfl hasA (by omega)) ?_ | refine WPl.rdX (ReadR.sliceL rfl rfl hasA (by omega)) ?_ | refine WPl.rdX (ReadR.sliceLH rfl rfl rfl hasA (by omega) (by omega)) ?_)
       | (refine WPl.spQ (fun hc => ?_) (fun hc => ?_) <;> try first | exact prA | (exfalso; first | omega))
       | fail)
      refine WPq.rnd (i + 1) ⟨hlt, fun j z hj hz => ?_⟩ (by omega)
      by_cases hji : j = i
      · subst hji; rw [hy] at hz; cases hz; exact decide_eq_false hxy
      · exact hno j z (by omega) hz
  · have hlt' : ¬ (i : Int) < (l.length : Int) := by omega
    have hr : idxI l x = -1 := by
      unfold idxI
      rw [show l.findIdx? (fun y => decide (x = y)) = none by
        rw [List.findIdx?_eq_none_iff]
        intro y hy
        obtain ⟨j, hj⟩ := List.getElem?_of_mem hy
        exact hno j y (by have := (List.getElem?_eq_some_iff.1 hj).1; omega) hj]
    rw [hr]
    repeat' (first
     | refine WPl.nil ?_ | refine WPq.then ?_ | refine WPq.thenR ?_ | refine WPq.thenE ?_ | refine WPq.blockN ?_ | refine WPq.blockR ?_ | refine WPq.blockE ?_ | refine WPq.blockO rfl ?_ | refine WPc.seq ?_ | refine WPc.block ?_ | refine WPc.ret ?_ | refine WPc.exit ?_ | refine WPc.skip ?_ | refine WPc.region ?_
     | (refine isCond ?_; first | refine WPc.cT ?_ | refine WPc.cF ?_ | (refine WPc.cQ (fun hc => ?_) (fun hc => ?_) <;> try first | exact prA | (exfalso; first | omega)))
     | (refine isD 9 ?_; refine WPl.rdX (ReadR.binE rfl rfl BinR.lss (congrArg Value.bool (decide_eq_false hlt'))) ?_)
     | (refine isOp ?_; first | refine WPl.rd ?_ | refine WPl.sk ?_ | refine WPl.rdB ?_)
     | (show WPl _ _ _ _ _ _ _ (⟨_, .indexAddr _ _ _, _, _, _, _⟩ :: _) _; refine WPl.rdX (ReadR.indexE rfl rfl hasA (by first | assumption | omega)) ?_)
     | (show WPl _ _ _ _ _ _ _ (⟨_, .fieldAddr _ _ _, _, _, _, _⟩ :: _) _; refine WPl.rdX (ReadR.fieldE rfl hasA (by first | assumption | omega)) ?_)
     | (show WPl _ _ _ _ _ _ _ (⟨_, .load _ _, _, _, _, _⟩ :: _) _; first | refine WPl.rdX (ReadR.loadE rfl hasA (by assumption)) ?_ | refine WPl.rdX (ReadR.loadES (by assumption) (by first | assumption | omega) rfl hasA) ?_)
     | (show WPl _ _ _ _ _ _ _ (⟨_, .slice _ _ _ _ _, _, _, _, _⟩ :: _) _; first | refine WPl.rdX (ReadR.sliceH rfl rfl hasA (by omega)) ?_ | refine WPl.rdX (ReadR.sliceL rfl rfl hasA (by omega)) ?_ | refine WPl.rdX (ReadR.sliceLH rfl rfl rfl hasA (by omega) (by omega)) ?_)
     | (refine WPl.spQ (fun hc => ?_) (fun hc => ?_) <;> try first | exact prA | (exfalso; first | omega))
     | fail)
    exact WPq.dV
theorem idxI_ge {l : List Int} {x : Int} : decide (idxI l x ≥ 0) = decide (x ∈ l) := by
  unfold idxI
  rw [decide_eq_decide]
  cases h : l.findIdx? (fun y => decide (x = y)) with
  | some i =>
    obtain ⟨hi, h1, _⟩ := List.findIdx?_eq_some_iff_getElem.1 h
    have h1 : x = l[i] := by simpa using h1
    exact ⟨fun _ => by rw [h1]; exact List.getElem_mem hi, fun _ => by show (i : Int) ≥ 0; omega⟩
  | none =>
    rw [List.findIdx?_eq_none_iff] at h
    refine ⟨fun h0 => absurd (show (-1 : Int) ≥ 0 from h0) (by omega), fun hx => ?_⟩
    have := h x hx
    simp at this
theorem gcontains_t (v : Value) (l : List Int) (x : Int) (hl : l.length ≤ 1000) : Triple Try.prog 29 #[v, .int .i64 x] [rdN v l.length (intsV l)] (RVal (.bool (decide (x ∈ l)))) := by
  have c7 := gindex_t v l x hl
  refine Triple.enter Try.func29 rfl Try.ntmps29 rfl (fun W => ?_)
  dsimp only [argsF, Nat.reduceAdd]
  repeat' (first
   | refine WPl.nil ?_ | refine WPq.then ?_ | refine WPq.thenR ?_ | refine WPq.thenE ?_ | refine WPq.blockN ?_ | refine WPq.blockR ?_ | refine WPq.blockE ?_ | refine WPq.blockO rfl ?_ | refine WPc.seq ?_ | refine WPc.block ?_ | refine WPc.ret ?_ | refine WPc.exit ?_ | refine WPc.skip ?_ | refine WPc.region ?_
   | (refine isCond ?_; first | refine WPc.cT ?_ | refine WPc.cF ?_ | (refine WPc.cQ (fun hc => ?_) (fun hc => ?_) <;> try exact prA))
   | (refine isC 7 ?_; refine WPl.cV (c7) ?_)
   | (refine isD 8 ?_; refine WPl.rdX (ReadR.binE rfl rfl BinR.geq (congrArg Value.bool idxI_ge)) ?_)
   | (refine isOp ?_; first | refine WPl.rd ?_ | refine WPl.sk ?_ | refine WPl.rdB ?_)
   | (show WPl _ _ _ _ _ _ _ (⟨_, .indexAddr _ _ _, _, _, _, _⟩ :: _) _; refine WPl.rdX (ReadR.indexE rfl rfl hasA (by first | assumption | omega)) ?_)
   | (show WPl _ _ _ _ _ _ _ (⟨_, .fieldAddr _ _ _, _, _, _, _⟩ :: _) _; refine WPl.rdX (ReadR.fieldE rfl hasA (by first | assumption | omega)) ?_)
   | (show WPl _ _ _ _ _ _ _ (⟨_, .load _ _, _, _, _, _⟩ :: _) _; first | refine WPl.rdX (ReadR.loadE rfl hasA (by assumption)) ?_ | refine WPl.rdX (ReadR.loadES (by assumption) (by first | assumption | omega) rfl hasA) ?_)
   | (show WPl _ _ _ _ _ _ _ (⟨_, .slice _ _ _ _ _, _, _, _, _⟩ :: _) _; first | refine WPl.rdX (ReadR.sliceH rfl rfl hasA (by omega)) ?_ | refine WPl.rdX (ReadR.sliceL rfl rfl hasA (by omega)) ?_ | refine WPl.rdX (ReadR.sliceLH rfl rfl rfl hasA (by omega) (by omega)) ?_)
   | (refine WPl.spQ (fun hc => ?_) (fun hc => ?_) <;> try exact prA)
   | fail)
  exact WPq.dV
section
variable (gF mi md : Nat) (L : List Sb) (F : FM)
theorem gfind0_t (h : PInv L F) (sid b : Int) (hw : in64 sid) (hf : findS L sid = none) : Triple Try.prog 45 #[hF gF, .int .i64 sid, .int .i64 b] [rbx gF 66 (fac mi md), rmp idM mi (ies F.ps)] (RVal (.tuple #[.pointer none, .int .i64 0, .int .i64 6])) := by
  obtain ⟨hget, hb⟩ := ies_get (h.no hf)
  have hget : idM.vc (mget idM (ies F.ps) sid) = .pointer none := hget
  have hb : mhas (ies F.ps) sid = false := hb
  refine Triple.enter Try.func45 rfl Try.ntmps45 rfl (fun W => ?_)
  dsimp only [argsF, Nat.reduceAdd]
  repeat' (first
   | refine WPl.nil ?_ | refine WPq.then ?_ | refine WPq.thenR ?_ | refine WPq.thenE ?_ | refine WPq.blockN ?_ | refine WPq.blockR ?_ | refine WPq.blockE ?_ | refine WPq.blockO rfl ?_ | refine WPc.seq ?_ | refine WPc.block ?_ | refine WPc.ret ?_ | refine WPc.exit ?_ | refine WPc.skip ?_ | refine WPc.region ?_
   | (refine isCond ?_; first | refine WPc.cT ?_ | refine WPc.cF ?_ | (refine WPc.cQ (fun hc => ?_) (fun hc => ?_) <;> try exact prA))
   | (refine isD 14 ?_; refine WPl.rdX (readP) ?_)
   | (refine isD 19 ?_; refine WPl.rdX (ReadR.loadO memA rfl rfl) ?_)
   | (refine isD 21 ?_; refine WPl.rdX (ReadR.lookOkM (M := idM) (k := sid) hw rfl rfl memA hget hb) ?_)
   | (refine isOp ?_; first | refine WPl.rd ?_ | refine WPl.sk ?_ | refine WPl.rdB ?_)
   | (show WPl _ _ _ _ _ _ _ (⟨_, .indexAddr _ _ _, _, _, _, _⟩ :: _) _; refine WPl.rdX (ReadR.indexE rfl rfl hasA (by first | assumption | omega)) ?_)
   | (show WPl _ _ _ _ _ _ _ (⟨_, .fieldAddr _ _ _, _, _, _, _⟩ :: _) _; refine WPl.rdX (ReadR.fieldE rfl hasA (by first | assumption | omega)) ?_)
   | (show WPl _ _ _ _ _ _ _ (⟨_, .load _ _, _, _, _, _⟩ :: _) _; first | refine WPl.rdX (ReadR.loadE rfl hasA (by assumption)) ?_ | refine WPl.rdX (ReadR.loadES (by assumption) (by first | assumption | omega) rfl hasA) ?_)
   | (show WPl _ _ _ _ _ _ _ (⟨_, .slice _ _ _ _ _, _, _, _, _⟩ :: _) _; first | refine WPl.rdX (ReadR.sliceH rfl rfl hasA (by omega)) ?_ | refine WPl.rdX (ReadR.sliceL rfl rfl hasA (by omega)) ?_ | refine WPl.rdX (ReadR.sliceLH rfl rfl rfl hasA (by omega) (by omega)) ?_)
   | (refine WPl.spQ (fun hc => ?_) (fun hc => ?_) <;> try exact prA)
   | fail)
  exact WPq.dV
theorem gfind1_t (sid b : Int) (hw : in64 sid) (x : PS) (hm : mfind (ies F.ps) sid = some (some x.g)) (hs : SrtB x.bs) (hl : x.bs.length ≤ 16) :
    Triple Try.prog 45 #[hF gF, .int .i64 sid, .int .i64 b] [rbx gF 66 (fac mi md), rmp idM mi (ies F.ps), rbx x.g 33 (shC x.s x.v), rdN x.v x.bs.length (bks x.bs)]
      (RVal (if hasB x.bs b = true then .tuple #[.pointer (some ⟨x.g, 0, none⟩), .int .i64 (lbB x.bs b : Int), .int .i64 0] else .tuple #[.pointer none, .int .i64 0, .int .i64 6])) := by
  obtain ⟨hget, hb⟩ := ies_get hm
  have hget : idM.vc (mget idM (ies F.ps) sid) = .pointer (some ⟨x.g, 0, none⟩) := hget
  have hb : mhas (ies F.ps) sid = true := hb
  have c29 := gat_t x.g x.s x.v x.bs b hs (by omega)
  cases hh : hasB x.bs b with
  | true =>
    rw [if_pos rfl]
    rw [hh] at c29
    refine Triple.enter Try.func45 rfl Try.ntmps45 rfl (fun W => ?_)
    dsimp only [argsF, Nat.reduceAdd]
    repeat' (first
     | refine WPl.nil ?_ | refine WPq.then ?_ | refine WPq.thenR ?_ | refine WPq.thenE ?_ | refine WPq.blockN ?_ | refine WPq.blockR ?_ | refine WPq.blockE ?_ | refine WPq.blockO rfl ?_ | refine WPc.seq ?_ | refine WPc.block ?_ | refine WPc.ret ?_ | refine WPc.exit ?_ | refine WPc.skip ?_ | refine WPc.region ?_
     | (refine isCond ?_; first | refine WPc.cT ?_ | refine WPc.cF ?_ | (refine WPc.cQ (fun hc => ?_) (fun hc => ?_) <;> try exact prA))
     | (refine isD 14 ?_; refine WPl.rdX (readP) ?_)
     | (refine isD 19 ?_; refine WPl.rdX (ReadR.loadO memA rfl rfl) ?_)
     | (refine isD 21 ?_; refine WPl.rdX (ReadR.lookOkM (M := idM) (k := sid) hw rfl rfl memA hget hb) ?_)
     | (refine isC 29 ?_; refine WPl.cV c29 ?_ (hΔ := provsM))
     | (refine isOp ?_; first | refine WPl.rd ?_ | refine WPl.sk ?_ | refine WPl.rdB ?_)
     | (show WPl _ _ _ _ _ _ _ (⟨_, .indexAddr _ _ _, _, _, _, _⟩ :: _) _; refine WPl.rdX (ReadR.indexE rfl rfl hasA (by first | assumption | omega)) ?_)
     | (show WPl _ _ _ _ _ _ _ (⟨_, .fieldAddr _ _ _, _, _, _, _⟩ :: _) _; refine WPl.rdX (ReadR.fieldE rfl hasA (by first | assumption | omega)) ?_)
     | (show WPl _ _ _ _ _ _ _ (⟨_, .load _ _, _, _, _, _⟩ :: _) _; first | refine WPl.rdX (ReadR.loadE rfl hasA (by assumption)) ?_ | refine WPl.rdX (ReadR.loadES (by assumption) (by first | assumption | omega) rfl hasA) ?_)
     | (show WPl _ _ _ _ _ _ _ (⟨_, .slice _ _ _ _ _, _, _, _, _⟩ :: _) _; first | refine WPl.rdX (ReadR.sliceH rfl rfl hasA (by omega)) ?_ | refine WPl.rdX (ReadR.sliceL rfl rfl hasA (by omega)) ?_ | refine WPl.rdX (ReadR.sliceLH rfl rfl rfl hasA (by omega) (by omega)) ?_)
     | (refine WPl.spQ (fun hc => ?_) (fun hc => ?_) <;> try exact prA)
     | fail)
    exact WPq.dV
  | false =>
    rw [if_neg (by simp)]
    rw [hh] at c29
    refine Triple.enter Try.func45 rfl Try.ntmps45 rfl (fun W => ?_)
    dsimp only [argsF, Nat.reduceAdd]
    repeat' (first
     | refine WPl.nil ?_ | refine WPq.then ?_ | refine WPq.thenR ?_ | refine WPq.thenE ?_ | refine WPq.blockN ?_ | refine WPq.blockR ?_ | refine WPq.blockE ?_ | refine WPq.blockO rfl ?_ | refine WPc.seq ?_ | refine WPc.block ?_ | refine WPc.ret ?_ | refine WPc.exit ?_ | refine WPc.skip ?_ | refine WPc.region ?_
     | (refine isCond ?_; first | refine WPc.cT ?_ | refine WPc.cF ?_ | (refine WPc.cQ (fun hc => ?_) (fun hc => ?_) <;> try exact prA))
     | (refine isD 14 ?_; refine WPl.rdX (readP) ?_)
     | (refine isD 19 ?_; refine WPl.rdX (ReadR.loadO memA rfl rfl) ?_)
     | (refine isD 21 ?_; refine WPl.rdX (ReadR.lookOkM (M := idM) (k := sid) hw rfl rfl memA hget hb) ?_)
     | (refine isC 29 ?_; refine WPl.cV c29 ?_ (hΔ := provsM))
     | (refine isOp ?_; first | refine WPl.rd ?_ | refine WPl.sk ?_ | refine WPl.rdB ?_)
     | (show WPl _ _ _ _ _ _ _ (⟨_, .indexAddr _ _ _, _, _, _, _⟩ :: _) _; refine WPl.rdX (ReadR.indexE rfl rfl hasA (by first | assumption | omega)) ?_)
     | (show WPl _ _ _ _ _ _ _ (⟨_, .fieldAddr _ _ _, _, _, _, _⟩ :: _) _; refine WPl.rdX (ReadR.fieldE rfl hasA (by first | assumption | omega)) ?_)
     | (show WPl _ _ _ _ _ _ _ (⟨_, .load _ _, _, _, _, _⟩ :: _) _; first | refine WPl.rdX (ReadR.loadE rfl hasA (by assumption)) ?_ | refine WPl.rdX (ReadR.loadES (by assumption) (by first | assumption | omega) rfl hasA) ?_)
     | (show WPl _ _ _ _ _ _ _ (⟨_, .slice _ _ _ _ _, _, _, _, _⟩ :: _) _; first | refine WPl.rdX (ReadR.sliceH rfl rfl hasA (by omega)) ?_ | refine WPl.rdX (ReadR.sliceL rfl rfl hasA (by omega)) ?_ | refine WPl.rdX (ReadR.sliceLH rfl rfl rfl hasA (by omega) (by omega)) ?_)
     | (refine WPl.spQ (fun hc => ?_) (fun hc => ?_) <;> try exact prA)
     | fail)
    exact WPq.dV
def matchV (L : List Sb) (d : Dr) : Value := match doorS L d with | some y => .tuple #[.int .i64 y.s.id, .bool true] | none => .tuple #[.int .i64 0, .bool false]
theorem gmatch_t (h : PInv L F) (a : Adr) (port : Nat) (proto : UInt8) (hp : port < 65536) : Triple Try.prog 17 #[hF gF, ag (adc a), .int .u16 (port : Int), .int .u8 ((proto.toNat : Nat) : Int)] [rbx gF 66 (fac mi md), rmp drM md F.ds] (RVal (matchV L ⟨a, port, proto⟩)) := by
  have hal := a.len
  have hwf : drM.wf ⟨a, port, proto⟩ := hp
  have hd := h.door ⟨a, port, proto⟩
  obtain ⟨c, b, hcb, hget, hb⟩ : ∃ (c : Int) (b : Bool), matchV L ⟨a, port, proto⟩ = .tuple #[.int .i64 c, .bool b] ∧ drM.vc (mget drM F.ds ⟨a, port, proto⟩) = .int .i64 c ∧ mhas F.ds ⟨a, port, proto⟩ = b := by
    with_unfolding_all
      unfold matchV mget mhas
      rw [hd]
      cases doorS L ⟨a, port, proto⟩ with
      | some y => exact ⟨_, _, rfl, rfl, rfl⟩
      | none => exact ⟨_, _, rfl, rfl, rfl⟩
  rw [hcb]
  refine Triple.enter Try.func17 rfl Try.ntmps17 rfl (fun W => ?_)
  dsimp only [argsF, Nat.reduceAdd]
  repeat' (first
   | refine WPl.nil ?_ | refine WPq.then ?_ | refine WPq.thenR ?_ | refine WPq.thenE ?_ | refine WPq.blockN ?_ | refine WPq.blockR ?_ | refine WPq.blockE ?_ | refine WPq.blockO rfl ?_ | refine WPc.seq ?_ | refine WPc.block ?_ | refine WPc.ret ?_ | refine WPc.exit ?_ | refine WPc.skip ?_ | refine WPc.region ?_
   | (refine isReg 3 ?_; refine WPc.drA [([], [19, 20, 21, 22]), ([0], [15, 19, 20, 21, 22]), ([0, 1], [15, 16, 19, 20, 21, 22]), ([0, 1, 2], [15, 16, 17, 19, 20, 21, 22]), ([], [15, 16, 17, 18, 20, 21]), ([], [15, 16, 17, 18, 19, 21]), ([], [15, 16, 17, 18, 19, 20]), ([4, 5, 6], [15, 16, 17, 18, 19, 20, 21]), ([0, 1, 2, 3, 4, 5, 6, 7], [15, 16, 17, 18, 19, 20, 21, 22]), ([0, 1, 2, 3, 4, 5, 6, 7, 8], [15, 16, 17, 18, 19, 20, 21, 22, 23]), ([0, 1, 2, 3, 4, 5, 6, 7, 8, 9], [14, 15, 16, 17, 18, 19, 20, 21, 22, 23, 25]), ([0, 1, 2, 3, 4, 5, 6, 7, 8, 9], [10, 14, 15, 16, 17, 18, 19, 20, 21, 22, 23, 24]), ([0, 1, 2, 3, 4, 5, 6, 7, 8, 9, 10], [14, 15, 16, 17, 18, 19, 20, 21, 22, 23, 24, 25]), ([0, 1, 2, 3, 4, 5, 6, 7, 8, 9, 10, 11, 12], [10, 14, 15, 16, 17, 18, 19, 20, 21, 22, 23, 24, 25])] [] (Γx := []) ?_; dsimp only [prev0, List.length_nil, List.length_cons])
   | (refine gAny ?_; first | (refine gD 13 ?_; refine RGl.rdX (fun e hk => by (try dsimp only [bndR, ensR, oksR, fcutR, List.append_nil, List.nil_append, List.cons_append, List.append_assoc] at hk ⊢); exact readP) ?_) | (refine gD 18 ?_; refine RGl.rdX (fun e hk => by (try dsimp only [bndR, ensR, oksR, fcutR, List.append_nil, List.nil_append, List.cons_append, List.append_assoc] at hk ⊢); exact ReadR.loadO memA rfl rfl) ?_) | (refine gD 23 ?_; refine RGl.rdX (fun e hk => by (try dsimp only [bndR, ensR, oksR, fcutR, List.append_nil, List.nil_append, List.cons_append, List.append_assoc] at hk ⊢); exact ReadR.lookOkM (M := drM) (k := ⟨a, port, proto⟩) hwf rfl rfl memA hget hb) ?_) | (refine gOp ?_; first | refine RGl.rdA ?_ | refine RGl.rdX (fun e hk => by (try dsimp only [bndR, ensR, oksR, fcutR, List.append_nil, List.nil_append, List.cons_append, List.append_assoc] at hk ⊢); exact readB) ?_) | (refine RGl.fin (fun e hk => ?_); (try dsimp only [bndA, ensAR, oksA, List.append_nil, List.nil_append, List.cons_append, List.append_assoc] at hk ⊢); (repeat (obtain ⟨hk1, hk⟩ := hk))) | fail)
   | (refine isCond ?_; first | refine WPc.cT ?_ | refine WPc.cF ?_ | (refine WPc.cQ (fun hc => ?_) (fun hc => ?_) <;> try exact prA))
   | (refine isD 5 ?_; first | (refine isAl ?_; refine WPl.nw fun g5 => ?_) | (refine isBx ?_; refine WPl.nw fun g5 => ?_))
   | (refine isD 13 ?_; refine WPl.rdX (readP) ?_)
   | (refine isD 18 ?_; refine WPl.rdX (ReadR.loadO memA rfl rfl) ?_)
   | (refine isD 23 ?_; refine WPl.rdX (ReadR.lookOkM (M := drM) (k := ⟨a, port, proto⟩) hwf rfl rfl memA hget hb) ?_)
   | (refine isOp ?_; first | refine WPl.rd ?_ | refine WPl.sk ?_ | refine WPl.rdB ?_)
   | (refine isBx ?_; refine WPl.nw fun g => ?_)
   | (show WPl _ _ _ _ _ _ _ (⟨_, .indexAddr _ _ _, _, _, _, _⟩ :: _) _; refine WPl.rdX (ReadR.indexE rfl rfl hasA (by first | assumption | omega)) ?_)
   | (show WPl _ _ _ _ _ _ _ (⟨_, .fieldAddr _ _ _, _, _, _, _⟩ :: _) _; refine WPl.rdX (ReadR.fieldE rfl hasA (by first | assumption | omega)) ?_)
   | (show WPl _ _ _ _ _ _ _ (⟨_, .load _ _, _, _, _, _⟩ :: _) _; first | refine WPl.rdX (ReadR.loadE rfl hasA (by assumption)) ?_ | refine WPl.rdX (ReadR.loadES (by assumption) (by first | assumption | omega) rfl hasA) ?_)
   | (show WPl _ _ _ _ _ _ _ (⟨_, .slice _ _ _ _ _, _, _, _, _⟩ :: _) _; first | refine WPl.rdX (ReadR.sliceH rfl rfl hasA (by omega)) ?_ | refine WPl.rdX (ReadR.sliceL rfl rfl hasA (by omega)) ?_ | refine WPl.rdX (ReadR.sliceLH rfl rfl rfl hasA (by omega) (by omega)) ?_)
   | (refine WPl.spQ (fun hc => ?_) (fun hc => ?_) <;> try exact prA)
   | fail)
  exact WPq.dV
end
end Go.Proofs.Ytpjfkomicehinaa
