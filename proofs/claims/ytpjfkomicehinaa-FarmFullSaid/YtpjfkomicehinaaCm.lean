/- Separation: maps that are only read; clear; calls that read and own at once; function values that only read. -/
import Derived.Test.YtpjfkomicehinaaJn
import Derived.Test.YtpjfkomicehinaaRo
import Derived.Test.YtpjfkomicehinaaRg
namespace Go.Proofs.Ytpjfkomicehinaa
section
open Go.RowKit
set_option linter.unusedSimpArgs false
set_option linter.unusedVariables false
def rmp {K V : Type} (M : MK K V) (g : Nat) (l : List (K × V)) : Asn where
  own := false
  fp := (mp M g l).fp
  holds := (mp M g l).holds
  lt := (mp M g l).lt
  loc := (mp M g l).loc
/-- The same, its entries told. -/
def rme {K V : Type} (M : MK K V) (m : Nat) (l : List (K × V)) (es : Array MapEntry) (clock : Nat) : Asn where
  own := false
  fp := fun g' => g' = m
  holds := fun w => w.heap[m]? = some (.map es clock) ∧ es.toList.map (fun e => (e.key, e.val)) = l.map (fun x => (M.kc x.1, M.vc x.2)) ∧ (es.toList.map (fun e : MapEntry => e.born)).Pairwise (fun a b : Nat => a < b) ∧ (∀ e ∈ es.toList, e.born < clock) ∧ (l.map (fun x : K × V => x.1)).Nodup ∧ ∀ x ∈ l, M.wf x.1
  lt := fun w h g' hg => by
    subst hg
    exact (Array.getElem?_eq_some_iff.1 h.1).1
  loc := fun w w' h hl => ⟨by rw [hl m rfl]; exact h.1, h.2⟩
/-- An iterator of a map that is only read. -/
def rgo {K V : Type} (M : MK K V) (m r : Nat) (l : List (K × V)) (es : Array MapEntry) (clock : Nat) (td : List (K × V)) (c : Option (K × V)) : Asn where
  own := true
  fp := fun g => g = r
  holds := fun w => ∃ since seen c0, w.heap[r]? = some (.mapIter (some m) since seen c0) ∧
    (since ≤ c0 ∧ since ≤ clock) ∧ (∀ e ∈ es.toList, e.born < since) ∧ (leftOf es seen).toList.map (fun e => (e.key, e.val)) = td.map (fun x => (M.kc x.1, M.vc x.2)) ∧ td.Sublist l ∧
    (∀ x, c = some x → c0 = clock ∧ ∃ e ∈ es.toList, seen.back? = some e.born ∧ e.key = M.kc x.1 ∧ e.val = M.vc x.2)
  lt := fun w h g hg => by
    obtain ⟨since, seen, c0, h1, _⟩ := h
    subst hg
    exact (Array.getElem?_eq_some_iff.1 h1).1
  loc := fun w w' h hl => by
    obtain ⟨since, seen, c0, h1, h3⟩ := h
    exact ⟨since, seen, c0, by rw [hl r rfl]; exact h1, h3⟩
theorem rgo_own {K V : Type} {M : MK K V} {m r : Nat} {l td : List (K × V)} {es : Array MapEntry} {clock : Nat} {c : Option (K × V)} : (rgo M m r l es clock td c).own = true := rfl
theorem Prov.mp {K V : Type} {M : MK K V} {Γ : List Asn} {g : Nat} {l : List (K × V)} (h : Go.Proofs.Ytpjfkomicehinaa.mp M g l ∈ Γ) : Prov Γ (rmp M g l) := ⟨rfl, fun w hw => hw (Go.Proofs.Ytpjfkomicehinaa.mp M g l) h⟩
theorem Prov.rmp {K V : Type} {M : MK K V} {Γ : List Asn} {g : Nat} {l : List (K × V)} (h : Go.Proofs.Ytpjfkomicehinaa.rmp M g l ∈ Γ) : Prov Γ (Go.Proofs.Ytpjfkomicehinaa.rmp M g l) := ⟨rfl, fun w hw => hw _ h⟩
theorem provsM {Γ Δ : List Asn} (h : Provs Γ Δ := by ((repeat' (first | exact Provs.nil | apply Provs.cons | exact Prov.bx memA | exact Prov.mp memA | exact Prov.rbx memA | exact Prov.rmp memA | exact provA | fail)) <;> fail)) : Provs Γ Δ := h
section
variable {P : Program} {n : Nat} {W : World} {S : Nat → Prop} {Γ : List Asn} {F : List (Nat × Value)} {Q : Exit → Act → World → Prop} {ops : Array Oper} {os : List Oper}
variable {ty : TypeId} {pos : String} {af : Array Edge} {gd : Option (Nat × Bool)}
variable {K V : Type} {T : TypeId} {M : MK K V}
theorem ReadR.mlenO [h : MapI P T M] {d : Option Tmp} {x : Operand} {g : Nat} {l : List (K × V)} (hx : evF F x = some (.map (some g))) (hm : rmp M g l ∈ Γ) :
    ReadR P n Γ F ⟨d, .call { callee := .builtin .len, args := #[x], argTypes := #[T] }, ty, pos, af, gd⟩ (.int .i64 (l.length : Int)) := fun ρ w hf hw => by
  obtain ⟨kT, eT, hu, _⟩ := h.law
  obtain ⟨es, clock, hb, he, _⟩ := hw _ hm
  have hl : es.size = l.length := by have := congrArg List.length he; simpa using this
  simp [execOp, resolve, invoke, builtin, Builtin.len_, hf.eval hx, run_underlying hu, MapKept.run_getObj_map hb, Result.andThen, goInt, hl]
/-- What follows, at one world, of something that is only read, told beside it. -/
theorem Good.moreW {A B : Asn} {w : World} (hA : A ∈ Γ) (hAo : A.own = false) (hBo : B.own = false) (hfp : ∀ g, B.fp g → A.fp g) (hh : A.holds w → B.holds w) (h : Good W S Γ w) : Good W S (B :: Γ) w := by
  have h2 := h.dup hA hAo
  have ha := h2.apart
  rw [List.pairwise_cons] at ha
  refine ⟨h.mod, fun C hC => ?_, List.pairwise_cons.2 ⟨fun C hC hor g hg hg' => ?_, h.apart⟩, fun C hC => ?_⟩
  · rcases List.mem_cons.1 hC with rfl | hC
    · exact hh (h.all _ hA)
    · exact h.all C hC
  · refine ha.1 C hC ?_ g (hfp g hg) hg'
    rcases hor with hor | hor
    · rw [hBo] at hor; cases hor
    · exact .inr hor
  · rcases List.mem_cons.1 hC with rfl | hC
    · intro h'; rw [hBo] at h'; cases h'
    · exact h.mine C hC
theorem WPc.openR {cd : Code} {m : Nat} {l : List (K × V)} (hm : rmp M m l ∈ Γ) (k : ∀ es clock, WPc P n W S (rme M m l es clock :: Γ) F cd Q) : WPc P n W S Γ F cd Q := fun a w hf hg => by
  obtain ⟨es, clock, hb⟩ := hg.all _ hm
  exact k es clock a w hf (hg.moreW hm rfl rfl (fun g hg => hg) (fun _ => hb))
def RRgo (M : MK K V) (m : Nat) (l : List (K × V)) (es : Array MapEntry) (clock : Nat) : Value → List Asn → Prop := fun v Γ => ∃ r, v = .pointer (some ⟨r, 0, none⟩) ∧ Γ = [rgo M m r l es clock l none]
theorem OpT.mrangeO [h : MapI P T M] {d : Option Tmp} {x : Operand} {m : Nat} {l : List (K × V)} {es : Array MapEntry} {clock : Nat} (hx : evF F x = some (.map (some m))) (hm : rme M m l es clock ∈ Γ) :
    OpT P n Γ F ⟨d, .range T x, ty, pos, af, gd⟩ [] (RRgo M m l es clock) := fun ρ w hf hw _ => by
  obtain ⟨kT, eT, hu, _⟩ := h.law
  obtain ⟨hb, h1, h2, h3, h4, h5⟩ := hw _ hm
  have hrun : (execOp ρ.eval ⟨d, .range T x, ty, pos, af, gd⟩).run P w = .ok (.value (.pointer (some ⟨w.heap.size, 0, none⟩))) (w.alloc (.mapIter (some m) clock #[] clock)) := by
    simp [execOp, hf.eval hx, Instr.range, Sem.run_bind, run_underlying hu, MapKept.run_getObj_map hb, Result.andThen, newObj, Sem.run]
  unfold DoesW
  rw [hrun]
  refine ⟨_, ⟨_, rfl, rfl⟩, .one (Mod.alloc _ _ _) ⟨clock, #[], clock, alloc_new _ _, ⟨Nat.le_refl _, Nat.le_refl _⟩, h3, ?_, List.Sublist.refl _, fun x hx => by cases hx⟩ fun g hg => ?_⟩
  · rw [← h1]
    congr 1
    rw [leftOf_sub', List.filter_eq_self]
    intro a _
    simp
  · cases hg
    exact .inl (Nat.le_refl _)
def RNxtO (M : MK K V) (m r : Nat) (l : List (K × V)) (es : Array MapEntry) (clock : Nat) (td : List (K × V)) (c : Option (K × V)) : Value → List Asn → Prop := fun v Γ =>
  (td = [] ∧ v = .tuple #[.bool false] ∧ Γ = [rgo M m r l es clock td c]) ∨ ∃ A x B, td = A ++ x :: B ∧ v = .tuple #[.bool true, M.kc x.1, M.vc x.2] ∧ Γ = [rgo M m r l es clock (A ++ B) (some x)]
theorem OpT.nextO {d : Option Tmp} {x : Operand} {m r : Nat} {l td : List (K × V)} {es : Array MapEntry} {clock : Nat} {c : Option (K × V)} {Γf : List Asn} (hx : evF F x = some (.pointer (some ⟨r, 0, none⟩))) (hme : rme M m l es clock ∈ Γ) (hp : Takes Γ [rgo M m r l es clock td c] Γf) :
    OpT P n Γ F ⟨d, .next x false, ty, pos, af, gd⟩ [rgo M m r l es clock td c] (RNxtO M m r l es clock td c) := fun ρ w hf hw _ => by
  have hb0 : (rgo M m r l es clock td c).holds w := hw _ (hp.mem_iff.2 (List.mem_cons_self ..))
  have hb1 := hb0
  obtain ⟨hm, hmp⟩ := hw _ hme
  obtain ⟨since, seen, c0, hr, hsc, hold, hleft, hsub, hcur⟩ := hb0
  have hown : ownFp [rgo M m r l es clock td c] r := ⟨_, List.mem_singleton.2 rfl, rfl, rfl⟩
  rcases run_next_at (P := P) w ty r m since c0 seen es clock hr hm hold hsc.1 with ⟨hz, hrun⟩ | ⟨e, he, w1, hw1, hrun⟩
  · have hex : (execOp ρ.eval ⟨d, .next x false, ty, pos, af, gd⟩).run P w = .ok (.value (.tuple #[.bool false])) w := by
      simp [execOp, hf.eval hx, Sem.run_bind, hrun]
    have htd : td = [] := by
      have h1 := congrArg List.length hleft
      rw [List.length_map, List.length_map, Array.length_toList, hz] at h1
      exact List.eq_nil_of_length_eq_zero h1.symm
    unfold DoesW
    rw [hex]
    exact ⟨_, .inl ⟨htd, rfl, rfl⟩, .one (Mod.refl _ _) hb1 fun g hg => .inr (by cases hg; exact hown)⟩
  · have hex : (execOp ρ.eval ⟨d, .next x false, ty, pos, af, gd⟩).run P w = .ok (.value (.tuple #[.bool true, e.key, e.val])) (ChangeMaps.setBlock w1 r (.mapIter (some m) since (seen.push e.born) clock)) := by
      simp [execOp, hf.eval hx, Sem.run_bind, hrun]
    have hmem : e ∈ es.toList := by
      have he2 := he
      rw [leftOf_sub'] at he2
      exact (List.mem_filter.1 he2).1
    obtain ⟨A, B, hAB⟩ := List.append_of_mem he
    have hmap := hleft
    rw [hAB] at hmap
    obtain ⟨A', y, B', htd, hey, hmap2⟩ := map_split hmap
    simp only [Prod.mk.injEq] at hey
    unfold DoesW
    rw [hex]
    have hw1h : w1.heap = w.heap := by rcases hw1 with rfl | rfl <;> rfl
    have hmod : Mod (ownFp [rgo M m r l es clock td c]) w w1 := by
      rcases hw1 with rfl | rfl
      · exact Mod.refl _ _
      · exact ⟨rfl, rfl, rfl, Nat.le_refl _, Nat.le_refl _, fun _ _ _ => rfl⟩
    refine ⟨_, .inr ⟨A', y, B', htd, by rw [hey.1, hey.2], rfl⟩, .one (hmod.trans (mod_block hown _ _)) ⟨since, seen.push e.born, clock, block_set (by rw [hw1h]; exact hr), ⟨hsc.2, hsc.2⟩, hold, ?_, ?_, fun x' hx' => ⟨rfl, e, hmem, Array.back?_push, by cases hx'; exact hey.1, by cases hx'; exact hey.2⟩⟩ fun g hg => .inr (by cases hg; exact hown)⟩
    · rw [left_push, born_inj ?_ hAB]
      · exact hmap2
      · unfold leftOf
        rw [Array.toList_filter]
        exact hmp.2.1.sublist (List.Sublist.map _ List.filter_sublist)
    · refine List.Sublist.trans ?_ hsub
      rw [htd]
      exact List.Sublist.append (List.Sublist.refl _) (List.sublist_cons_self ..)
theorem ReadR.entryO {d : Option Tmp} {x : Operand} {m r : Nat} {l td : List (K × V)} {es : Array MapEntry} {clock : Nat} {y : K × V} {kv vv : Value} (hk : M.kc y.1 = kv) (hv : M.vc y.2 = vv) (hme : rme M m l es clock ∈ Γ) (hm : rgo M m r l es clock td (some y) ∈ Γ) (hx : evF F x = some (.pointer (some ⟨r, 0, none⟩))) :
    ReadR P n Γ F ⟨d, .entry x, ty, pos, af, gd⟩ (.tuple #[kv, vv]) := fun ρ w hf hw => by
  subst hk hv
  obtain ⟨hb, he, h1, h2, hn, hwf⟩ := hw _ hme
  obtain ⟨since, seen, c0, hr, hsc, hold, hleft, hsub, hcur⟩ := hw _ hm
  obtain ⟨rfl, e, hem, hbk, hke, hve⟩ := hcur y rfl
  have hnd : (es.toList.map (·.born)).Nodup := h1.imp (fun h => Nat.ne_of_lt h)
  have hfd : es.find? (·.born == e.born) = some e := by rw [← Array.find?_toList]; exact find_born e es.toList hnd hem
  have : (Instr.entry (.pointer (some ⟨r, 0, none⟩))).run P w = .ok (.tuple #[e.key, e.val]) w := by
    simp only [Instr.entry, getObj, Sem.run_bind, Sem.run, hr, hb, Result.andThen, hbk, bne_self_eq_false, Bool.false_eq_true, if_false, hfd]
    rfl
  simp [execOp, hf.eval hx, Sem.run_bind, this, hke, hve]
theorem WPl.mrangeO [h : MapI P T M] {d : Nat} {x : Operand} {m : Nat} {l : List (K × V)} {es : Array MapEntry} {clock : Nat} (hm : rme M m l es clock ∈ Γ) (k : ∀ r, WPl P n W S (rgo M m r l es clock l none :: Γ) ((d, .pointer (some ⟨r, 0, none⟩)) :: F) ops os Q) (hx : evF F x = some (.map (some m)) := by first | rfl | fail) (hlt : Nat.blt d n = true := by first | rfl | fail) (hw : wantG F ops gd = some true := by first | rfl | fail) :
    WPl P n W S Γ F ops (⟨some d, .range T x, ty, pos, af, gd⟩ :: os) Q :=
  WPl.op .nil hlt hw (OpT.mrangeO (h := h) hx hm) (by rintro v Γ' ⟨r, rfl, rfl⟩; exact k r)
theorem WPl.mnextO {d : Nat} {x : Operand} {m r : Nat} {l td : List (K × V)} {es : Array MapEntry} {clock : Nat} {c : Option (K × V)} {Γf : List Asn} (hme : rme M m l es clock ∈ Γ) (kf : K → Value) (vf : V → Value) (k0 : td = [] → WPl P n W S (rgo M m r l es clock td c :: Γf) ((d, .tuple #[.bool false]) :: F) ops os Q)
    (k1 : ∀ A y B, td = A ++ y :: B → WPl P n W S (rgo M m r l es clock (A ++ B) (some y) :: Γf) ((d, .tuple #[.bool true, kf y.1, vf y.2]) :: F) ops os Q) (hk : ∀ z, M.kc z = kf z := by first | exact fun _ => rfl | fail) (hv : ∀ z, M.vc z = vf z := by first | exact fun _ => rfl | fail)
    (hx : evF F x = some (.pointer (some ⟨r, 0, none⟩)) := by first | rfl | fail) (hp : Take Γ (rgo M m r l es clock td c) Γf := by first | exact takeA | fail) (hlt : Nat.blt d n = true := by first | rfl | fail) (hw : wantG F ops gd = some true := by first | rfl | fail) :
    WPl P n W S Γ F ops (⟨some d, .next x false, ty, pos, af, gd⟩ :: os) Q :=
  WPl.op (.cons hp .nil) hlt hw (OpT.nextO hx hme (.cons hp .nil)) (by
    rintro v Γ' (⟨h0, rfl, rfl⟩ | ⟨A, y, B, h0, rfl, rfl⟩)
    · exact k0 h0
    · have := k1 A y B h0
      rw [← hk, ← hv] at this
      exact this)
end
end
section
open Go.RowKit
set_option linter.unusedSimpArgs false
set_option linter.unusedVariables false
/-- So many elements of no value. -/
def clr (P : Program) (e : TypeId) (j : Nat) : List Value := match (P.info? e).bind (·.zero) with
  | some z => (Builtin.zeroCells z.cells j).toList
  | none => []
section
variable {P : Program} {n : Nat} {W : World} {S : Nat → Prop} {Γ : List Asn} {F : List (Nat × Value)} {Q : Exit → Act → World → Prop} {ops : Array Oper} {os : List Oper}
variable {d : Option Tmp} {ty : TypeId} {pos : String} {af : Array Edge} {gd : Option (Nat × Bool)}
theorem OpT.clearN {T e : TypeId} {sz k j m : Nat} [hT : SliI P T e] [he : EltN P e sz] {x : Operand} {s : Value} {xs : List Value} {Γf : List Asn} (hz1 : ((P.info? e).bind (·.zero)).map (fun z => z.cells.toList.all (fun v => v.oneCell')) = some true) (hx : evF F x = some (subv sz s k j)) (hp : Takes Γ [rowN e sz s m xs] Γf) (hkj : k + j = m) :
    OpT P n Γ F ⟨d, .call { callee := .builtin .clear, args := #[x], argTypes := #[T] }, ty, pos, af, gd⟩ [rowN e sz s m xs] (RLeave [rowN e sz s m (xs.take (k * sz) ++ clr P e j)]) := fun ρ w hf hw _ => by
  obtain ⟨i0, z, hi, hz0, hz2, hzs, hby, hsz⟩ := he.parts
  have hb : (rowN e sz s m xs).holds w := hw _ (hp.mem_iff.2 (List.mem_cons_self ..))
  have hone : ∀ v ∈ z.cells.toList, v.oneCell' = true := by
    rw [hi] at hz1
    simp only [Option.bind_some, hz0, Option.map_some, Option.some.injEq, List.all_eq_true] at hz1
    exact hz1
  have hcl : clr P e j = (Builtin.zeroCells z.cells j).toList := by unfold clr; rw [hi]; simp [hz0]
  have hlen : (clr P e j).length = j * sz := by rw [hcl]; simp [Builtin.zeroCells, hzs]
  have hall : ∀ v ∈ clr P e j, v.oneCell' = true := by
    intro v hv
    rw [hcl] at hv
    simp only [Builtin.zeroCells, Array.toList_map, List.mem_map] at hv
    obtain ⟨i, _, rfl⟩ := hv
    have hlt : i % z.cells.size < z.cells.size := Nat.mod_lt _ (by rw [hzs]; exact hsz)
    rw [getElem!_pos z.cells _ hlt]
    exact hone _ (by simp)
  have hzv : (zeroValue e).run P w = .ok z w := by simp [zeroValue, typeInfo, hi, hz0]
  obtain ⟨h2, h3⟩ := hb
  have hxl : xs.length = m * sz := h2
  by_cases hj : j = 0
  · subst hj
    have e1 : xs.take (k * sz) ++ clr P e 0 = xs := by
      have : clr P e 0 = [] := List.length_eq_zero_iff.1 (by rw [hlen]; simp)
      rw [this, List.append_nil, List.take_of_length_le (by rw [hxl, ← hkj]; simp)]
    have hrun : (execOp ρ.eval ⟨d, .call { callee := .builtin .clear, args := #[x], argTypes := #[T] }, ty, pos, af, gd⟩).run P w = .ok (.value (.tuple #[])) w := by
      rcases h3 with ⟨rfl, h0⟩ | ⟨g, cap, cur, rfl, _⟩
      · simp [execOp, resolve, invoke, builtin, hf.eval hx, subv, Builtin.clear_, run_underlying hT.und, Sem.run_bind]
      · simp [execOp, resolve, invoke, builtin, hf.eval hx, subv, Builtin.clear_, run_underlying hT.und, Sem.run_bind]
    unfold DoesW
    rw [hrun, e1]
    exact ⟨_, rfl, .one (Mod.refl _ _) ⟨h2, h3⟩ fun g hg => .inr ⟨_, List.mem_singleton.2 rfl, rfl, hg⟩⟩
  · have hm : m ≠ 0 := by omega
    rcases h3 with ⟨_, h0⟩ | ⟨g, cap, cur, rfl, hB, hg, hnc, hcm, hcs, ht⟩
    · exact absurd h0 hm
    have hck : ¬ cap = k := by omega
    have e2 : m * sz ≤ cap * sz := Nat.mul_le_mul_right sz hnc
    have e3 : k * sz + j * sz = m * sz := by rw [← Nat.add_mul, hkj]
    have hst := run_storeCells_at P g (k * sz) e (clr P e j) 0 cur w hg (by rw [hlen]; omega) hall
    simp only [Nat.add_zero, hlen] at hst
    obtain ⟨j', rfl⟩ : ∃ j', j = j' + 1 := ⟨j - 1, by omega⟩
    have hrun : (execOp ρ.eval ⟨d, .call { callee := .builtin .clear, args := #[x], argTypes := #[T] }, ty, pos, af, gd⟩).run P w = .ok (.value (.tuple #[])) (w.setRow g (cur.toList.take (k * sz) ++ clr P e (j' + 1) ++ cur.toList.drop (k * sz + (j' + 1) * sz)).toArray) := by
      simp [execOp, resolve, invoke, builtin, hf.eval hx, subv, hck, Builtin.clear_, run_underlying hT.und, Sem.run_bind, hzv, ← hcl, add_mk, hst]
    unfold DoesW
    rw [hrun]
    have hg' : ownFp [rowN e sz (.slice (some ⟨g, 0, none⟩) m cap) m xs] g := ⟨_, List.mem_singleton.2 rfl, rfl, rfl⟩
    have hA : (cur.toList.take (k * sz)).length = k * sz := by rw [List.length_take]; simp; omega
    have hX : (xs.take (k * sz)).length = k * sz := by rw [List.length_take]; omega
    refine ⟨_, rfl, .one (Mod.setRow hg' _ _) ⟨?_, .inr ⟨g, cap, _, rfl, hB, setRow_heap w g _ _ e (0, 0) hg, hnc, hcm, ?_, ?_⟩⟩ fun k hk => .inr (by cases hk; exact hg')⟩
    · rw [List.length_append, hX, hlen]; exact e3
    · simp only [List.size_toArray, List.length_append, hA, hlen, List.length_drop, Array.length_toList]
      omega
    · have e5 : cur.toList.take (k * sz) = xs.take (k * sz) := by rw [← ht, List.take_take]; congr 1; omega
      rw [List.toList_toArray, List.take_append_of_le_length (by rw [List.length_append, hA, hlen]; omega), List.take_of_length_le (by rw [List.length_append, hA, hlen]; omega), e5]
theorem WPl.clearN {T e : TypeId} {sz k j m : Nat} [hT : SliI P T e] [he : EltN P e sz] {x : Operand} {s : Value} {xs : List Value} {Γf : List Asn} (hz1 : ((P.info? e).bind (·.zero)).map (fun z => z.cells.toList.all (fun v => v.oneCell')) = some true) (hkj : k + j = m) (k0 : WPl P n W S (rowN e sz s m (xs.take (k * sz) ++ clr P e j) :: Γf) F ops os Q)
    (hx : evF F x = some (subv sz s k j) := by first | rfl | fail) (hp : Take Γ (rowN e sz s m xs) Γf := by first | exact takeA | fail) (hw : wantG F ops gd = some true := by first | rfl | fail) :
    WPl P n W S Γ F ops (⟨none, .call { callee := .builtin .clear, args := #[x], argTypes := #[T] }, ty, pos, af, gd⟩ :: os) Q := WPl.turn (.cons hp .nil) rfl hw (OpT.clearN hz1 hx (.cons hp .nil) hkj) k0
end
end
section
open Go.RowKit
set_option linter.unusedSimpArgs false
set_option linter.unusedVariables false
theorem fp_bx {g : Nat} {T : TypeId} {cs : Ch} : ∀ k, (rbx g T cs).fp k → (bx g T cs).fp k := fun _ h => h
section
variable {P : Program} {n : Nat} {W : World} {S : Nat → Prop} {Γ : List Asn} {F : List (Nat × Value)} {Q : Exit → Act → World → Prop} {ops : Array Oper} {os : List Oper}
variable {ty : TypeId} {pos : String} {af : Array Edge} {gd : Option (Nat × Bool)}
theorem OpT.callM {d : Option Tmp} {f : FuncId} {xs : List Operand} {ts : Array TypeId} {vs : List Value} {Δ Γo Γf : List Asn} {R : Value → List Asn → Prop}
    (h : Triple P f vs.toArray (Δ ++ Γo) R) (hx : evFs F xs vs) (hp : Takes Γ Γo Γf) (hΔ : Provs Γf Δ) (hB : ∀ A, A ∈ Δ → ∃ B, B ∈ Γf ∧ ∀ g, A.fp g → B.fp g) (hc : isCode P f = true) : OpT P n Γ F ⟨d, .call { callee := .value (.func f), args := xs.toArray, argTypes := ts }, ty, pos, af, gd⟩ Γo R := by
  intro ρ w hf hw ha
  unfold DoesW
  rw [run_call hc, hx.map hf]
  have hap := apart_perm hp ha
  refine (Triple.frame (Δ := Δ) (Γo := Γo) (Γf := Γf) h (fun A hA => hw A (hp.mem_iff.2 hA)) hap hΔ (fun A hA g hg ho => ?_)).mono ?_
  · obtain ⟨B, hB1, hB2⟩ := hB A hA
    obtain ⟨C, hC, hCo, hCg⟩ := ho
    exact (List.pairwise_append.1 hap).2.2 C hC B hB1 (.inl hCo) g hCg (hB2 g hg)
  · rintro e w' ⟨v, Γ', he, hR, hp⟩
    exact ⟨v, he, Γ', hR, hp⟩
theorem WPl.cM {d : Option Tmp} {f : FuncId} {xs : List Operand} {ts : Array TypeId} {vs : List Value} {Δ Γo Γf : List Asn} {R : Value → List Asn → Prop}
    (h : Triple P f vs.toArray (Δ ++ Γo) R) (hB : ∀ A, A ∈ Δ → ∃ B, B ∈ Γf ∧ ∀ g, A.fp g → B.fp g) (k : ∀ v Γ', R v Γ' → WPl P n W S (Γ' ++ Γf) (putF F d v) ops os Q) (hx : evFs F xs vs := by first | exact evsA | fail) (hp : Takes Γ Γo Γf := by first | exact takesA | fail) (hΔ : Provs Γf Δ := by first | exact provsM | fail) (hc : isCode P f = true := by first | kernel_rfl | fail) (hd : dstOk n d = true := by first | rfl | fail) (hw : wantG F ops gd = some true := by first | rfl | fail) :
    WPl P n W S Γ F ops (⟨d, .call { callee := .value (.func f), args := xs.toArray, argTypes := ts }, ty, pos, af, gd⟩ :: os) Q :=
  WPl.op hp hd hw (OpT.callM h hx hp hΔ hB hc) k
theorem OpT.callFV {d : Option Tmp} {f : FuncId} {x : Operand} {xs : List Operand} {ts : Array TypeId} {vs : List Value} {cb : List Value} {Δ : List Asn} {R : Value → List Asn → Prop}
    (h : Triple P f (vs ++ cb).toArray Δ R) (hf0 : evF F x = some (.func (.func f) #[] cb.toArray)) (hx : evFs F xs vs) (hΔ : Provs Γ Δ) (hc : isCode P f = true) : OpT P n Γ F ⟨d, .call { callee := .value x, args := xs.toArray, argTypes := ts }, ty, pos, af, gd⟩ [] R := by
  intro ρ w hf hw ha
  unfold DoesW
  rw [run_callF hc (hf.eval hf0), hx.map hf, show vs.toArray ++ cb.toArray = (vs ++ cb).toArray by simp]
  refine (Triple.frame (Δ := Δ) (Γo := []) (Γf := Γ) (by rw [List.append_nil]; exact h) hw ha hΔ (fun A _ g _ ho => by obtain ⟨C, hC, _⟩ := ho; cases hC)).mono ?_
  rintro e w' ⟨v, Γ', he, hR, hp⟩
  exact ⟨v, he, Γ', hR, hp⟩
theorem WPl.cFV {d : Nat} {f : FuncId} {x : Operand} {xs : List Operand} {ts : Array TypeId} {Δ : List Asn} {c : Value} (vs cb : List Value)
    (h : Triple P f (vs ++ cb).toArray Δ (RVal c)) (k : WPl P n W S Γ ((d, c) :: F) ops os Q) (hf0 : evF F x = some (.func (.func f) #[] cb.toArray) := by first | rfl | assumption | fail) (hx : evFs F xs vs := by first | exact evsA | fail) (hΔ : Provs Γ Δ := by first | exact provsM | fail) (hc : isCode P f = true := by first | kernel_rfl | assumption | fail) (hd : Nat.blt d n = true := by first | rfl | fail) (hw : wantG F ops gd = some true := by first | rfl | fail) :
    WPl P n W S Γ F ops (⟨some d, .call { callee := .value x, args := xs.toArray, argTypes := ts }, ty, pos, af, gd⟩ :: os) Q :=
  WPl.op .nil hd hw (OpT.callFV h hf0 hx hΔ hc) (by rintro v Γ' ⟨rfl, rfl⟩; exact k)
theorem WPl.stES {T e : TypeId} {sz k i m : Nat} {xs : List Value} {new : Ch} {a x : Operand} {s : Value} {Γf : List Asn} [hT : TyI P T true k] (hn : FOk new) (ht : total new = k) (hi : i + k ≤ xs.length) (hk0 : 0 < k) (k0 : WPl P n W S (rowN e sz s m (xs.take i ++ flat new ++ xs.drop (i + k)) :: Γf) F ops os Q)
    (ha : evF F a = some (.pointer (some (ela s i))) := by first | rfl | fail) (hx : evF F x = some (ag new) := by first | rfl | fail) (hp : Take Γ (rowN e sz s m xs) Γf := by first | exact takeA | fail) (hw : wantG F ops gd = some true := by first | rfl | fail) :
    WPl P n W S Γ F ops (⟨none, .store T a x, ty, pos, af, gd⟩ :: os) Q := WPl.turn (.cons hp .nil) rfl hw (OpT.storeES ha hx (.cons hp .nil) hn ht hi hk0) k0
end
end
end Go.Proofs.Ytpjfkomicehinaa
