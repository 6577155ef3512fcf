/- What the row of reportMerges_card_holds needs: part 3. -/
import Derived.Test.YtagedgcdonodfaaDoorRMe2
import Derived.Maps.Keyed
import Derived.DeepKeys4
import Derived.ProofKit
import Derived.OpenShut
import Derived.ShutString
import Derived.ChangeOld
import Derived.Maps.RangeRun
/- Maps: what they hold, and what operations do with them. -/
namespace Go.Proofs.YtagedgcdonodfaaDoor
open Go.RowKit
set_option linter.unusedSimpArgs false
set_option linter.unusedVariables false
set_option linter.unusedSectionVars false

/-- How keys and elements stand in a map. -/
structure MK (K V : Type) where
  kc : K → Value
  vc : V → Value
  v0 : V
  wf : K → Prop
section
variable {K V : Type} [DecidableEq K]
def mfind : List (K × V) → K → Option V
  | [], _ => none
  | x :: l, k => if x.1 = k then some x.2 else mfind l k
def mput : List (K × V) → K → V → List (K × V)
  | [], k, v => [(k, v)]
  | x :: l, k, v => if x.1 = k then (k, v) :: l else x :: mput l k v
def mdel : List (K × V) → K → List (K × V)
  | [], _ => []
  | x :: l, k => if x.1 = k then l else x :: mdel l k
def mget (M : MK K V) (l : List (K × V)) (k : K) : V := (mfind l k).getD M.v0
def mhas (l : List (K × V)) (k : K) : Bool := (mfind l k).isSome
theorem mfind_none {l : List (K × V)} {k : K} (h : ∀ x ∈ l, x.1 ≠ k) : mfind l k = none ∧ (∀ v, mput l k v = l ++ [(k, v)]) ∧ mdel l k = l := by
  induction l with
  | nil => exact ⟨rfl, fun _ => rfl, rfl⟩
  | cons x l ih =>
    obtain ⟨h1, h2, h3⟩ := ih fun y hy => h y (List.mem_cons_of_mem _ hy)
    have hx := h x (List.mem_cons_self ..)
    simp only [mfind, mput, mdel, if_neg hx, h1, h2, h3, List.cons_append, implies_true, and_self]
theorem mfind_some {l : List (K × V)} {k : K} (hn : (l.map (·.1)).Nodup) : ∀ {j : Nat} {x : K × V}, l[j]? = some x → x.1 = k → mfind l k = some x.2 ∧ (∀ v, mput l k v = l.set j (k, v)) ∧ mdel l k = l.eraseIdx j := by
  induction l with
  | nil => intro j x h; simp at h
  | cons y l ih =>
    intro j x h hk
    rw [List.map_cons, List.nodup_cons] at hn
    cases j with
    | zero =>
      simp only [List.getElem?_cons_zero, Option.some.injEq] at h
      subst h
      simp only [mfind, mput, mdel, if_pos hk, List.set_cons_zero, List.eraseIdx_cons_zero, implies_true, and_self]
    | succ j =>
      simp only [List.getElem?_cons_succ] at h
      have hne : y.1 ≠ k := by
        intro e
        apply hn.1
        rw [e, ← hk]
        exact List.mem_map.2 ⟨x, List.mem_of_getElem? h, rfl⟩
      obtain ⟨h1, h2, h3⟩ := ih hn.2 h hk
      simp only [mfind, mput, mdel, if_neg hne, h1, h2, h3, List.set_cons_succ, List.eraseIdx_cons_succ, implies_true, and_self]
theorem mput_keys {l : List (K × V)} {k : K} {v : V} (hn : (l.map (·.1)).Nodup) : ((mput l k v).map (·.1)).Nodup := by
  have key : ∀ l : List (K × V), ∀ a, a ∈ (mput l k v).map (·.1) → a = k ∨ a ∈ l.map (·.1) := by
    intro l
    induction l with
    | nil => intro a h; simpa [mput] using h
    | cons x l ih =>
      intro a h
      unfold mput at h
      split at h
      · simp only [List.map_cons, List.mem_cons] at h ⊢
        rcases h with h | h
        · exact .inl h
        · exact .inr (.inr h)
      · simp only [List.map_cons, List.mem_cons] at h ⊢
        rcases h with h | h
        · exact .inr (.inl h)
        · rcases ih a h with h | h
          · exact .inl h
          · exact .inr (.inr h)
  induction l with
  | nil => simp [mput]
  | cons x l ih =>
    rw [List.map_cons, List.nodup_cons] at hn
    unfold mput
    split
    · rename_i e
      subst e
      rw [List.map_cons, List.nodup_cons]
      exact hn
    · rename_i e
      rw [List.map_cons, List.nodup_cons]
      refine ⟨fun hm => ?_, ih hn.2⟩
      rcases key l _ hm with h | h
      · exact e h
      · exact hn.1 h
theorem mdel_sub {l : List (K × V)} {k : K} : (mdel l k).Sublist l := by
  induction l with
  | nil => exact .slnil
  | cons x l ih =>
    unfold mdel
    split
    · exact List.sublist_cons_self ..
    · exact ih.cons_cons _
theorem mdel_keys {l : List (K × V)} {k : K} (hn : (l.map (·.1)).Nodup) : ((mdel l k).map (·.1)).Nodup := (mdel_sub.map _).nodup hn
theorem mfind_put {l : List (K × V)} {k k' : K} {v : V} : mfind (mput l k v) k' = if k = k' then some v else mfind l k' := by
  induction l with
  | nil => simp [mput, mfind]
  | cons x l ih =>
    unfold mput
    split
    · rename_i e
      subst e
      simp only [mfind]
      split <;> rfl
    · rename_i e
      simp only [mfind, ih]
      by_cases h : x.1 = k'
      · have : k ≠ k' := fun hh => e (h.trans hh.symm)
        rw [if_pos h, if_neg this, if_pos h]
      · rw [if_neg h, if_neg h]
end

/-- Map g is one's own, and holds these. -/
def mp {K V : Type} (M : MK K V) (g : Nat) (l : List (K × V)) : Asn where
  own := true
  fp := fun g' => g' = g
  holds := fun w => ∃ es clock, w.heap[g]? = some (.map es clock) ∧ es.toList.map (fun e => (e.key, e.val)) = l.map (fun x => (M.kc x.1, M.vc x.2)) ∧ (es.toList.map (·.born)).Pairwise (· < ·) ∧ (∀ e ∈ es.toList, e.born < clock) ∧ (l.map (·.1)).Nodup ∧ ∀ x ∈ l, M.wf x.1
  lt := fun w h g' hg => by
    subst hg
    obtain ⟨es, clock, h, _⟩ := h
    rcases Nat.lt_or_ge g' w.heap.size with h1 | h1
    · exact h1
    · rw [Array.getElem?_eq_none h1] at h; cases h
  loc := fun w w' h hl => by
    obtain ⟨es, clock, h, h2⟩ := h
    exact ⟨es, clock, by rw [hl g rfl]; exact h, h2⟩
theorem mp_own {K V : Type} {M : MK K V} {g : Nat} {l : List (K × V)} : (mp M g l).own = true := rfl

class MapI {K V : Type} (P : Program) (T : TypeId) (M : MK K V) : Prop where
  law : ∃ kT eT, P.underlying T = some (.map kT eT) ∧ Go.Maps.Keyed P kT ∧ (∀ k, M.wf k → ∃ l, keyOf P kT (M.kc k) = some l) ∧ ∀ w, (zeroValue eT).run P w = .ok (M.vc M.v0) w
  inj : ∀ a b, M.kc a = M.kc b → a = b

section
variable {K V : Type} [DecidableEq K] {P : Program} {T : TypeId} {M : MK K V}
theorem mp_at {es : List MapEntry} {l : List (K × V)} (h : es.map (fun e => (e.key, e.val)) = l.map (fun x => (M.kc x.1, M.vc x.2))) {j : Nat} {e : MapEntry} (he : es[j]? = some e) : ∃ x, l[j]? = some x ∧ e.key = M.kc x.1 ∧ e.val = M.vc x.2 := by
  have h1 : (es.map (fun e => (e.key, e.val)))[j]? = some (e.key, e.val) := by rw [List.getElem?_map, he]; rfl
  rw [h, List.getElem?_map] at h1
  cases hx : l[j]? with
  | none => rw [hx] at h1; cases h1
  | some x =>
    rw [hx] at h1
    simp only [Option.map_some, Option.some.injEq, Prod.mk.injEq] at h1
    exact ⟨x, rfl, h1.1.symm, h1.2.symm⟩
theorem mp_key {es : List MapEntry} {l : List (K × V)} (h : es.map (fun e => (e.key, e.val)) = l.map (fun x => (M.kc x.1, M.vc x.2))) {e : MapEntry} (he : e ∈ es) : ∃ x ∈ l, e.key = M.kc x.1 := by
  obtain ⟨j, hj⟩ := List.getElem?_of_mem he
  obtain ⟨x, h0, h1, _⟩ := mp_at h hj
  exact ⟨x, List.mem_of_getElem? h0, h1⟩
theorem mp_no {es : List MapEntry} {l : List (K × V)} (h : es.map (fun e => (e.key, e.val)) = l.map (fun x => (M.kc x.1, M.vc x.2))) {k : K} (hk : ∀ e ∈ es, e.key ≠ M.kc k) : ∀ x ∈ l, x.1 ≠ k := by
  intro x hx e
  have : (M.kc x.1, M.vc x.2) ∈ es.map (fun e => (e.key, e.val)) := by rw [h]; exact List.mem_map.2 ⟨x, hx, rfl⟩
  obtain ⟨y, hy, he⟩ := List.mem_map.1 this
  simp only [Prod.mk.injEq] at he
  exact hk y hy (by rw [he.1, e])
theorem run_mlook [h : MapI P T M] {g : Nat} {l : List (K × V)} {w : World} (hm : (mp M g l).holds w) (k : K) (hkw : M.wf k) (ok : Bool) :
    (Instr.lookup T (.map (some g)) (M.kc k) ok).run P w = .ok (if ok then .tuple #[M.vc (mget M l k), .bool (mhas l k)] else M.vc (mget M l k)) w := by
  obtain ⟨kT, eT, hu, hK, hk, hz⟩ := h.law
  obtain ⟨es, clock, hb, he, h1, h2, hn, hwf⟩ := hm
  obtain ⟨kl, hkl⟩ := hk k hkw
  have hall : ∀ e ∈ es.toList, ∃ l, keyOf P kT e.key = some l := fun e hm => by
    obtain ⟨x', hx', hk'⟩ := mp_key he hm
    rw [hk']; exact hk _ (hwf x' hx')
  rcases hK.find w hkl es.toList hall with ⟨f1, f2⟩ | ⟨j, e0, f1, f2, f3⟩
  · have := (mfind_none (mp_no he f2)).1
    simp [Instr.lookup, run_underlying hu, MapKept.run_getObj_map hb, hK.check w _ hkl, f1, hz, Result.andThen, mget, mhas, this]
  · obtain ⟨x, g1, g2, g3⟩ := mp_at he f2
    have hx : x.1 = k := h.inj _ _ (g2.symm.trans f3)
    have := (mfind_some hn g1 hx).1
    simp [Instr.lookup, run_underlying hu, MapKept.run_getObj_map hb, hK.check w _ hkl, f1, Result.andThen, mget, mhas, this, g3]
theorem mod_block {S : Nat → Prop} {g : Nat} (hg : S g) (w : World) (o : Obj) : Mod S w (ChangeMaps.setBlock w g o) :=
  ⟨rfl, rfl, rfl, by simp [ChangeMaps.setBlock], by simp [ChangeMaps.setBlock], fun k _ hk => by
    have : g ≠ k := fun e => hk (e ▸ hg)
    simp [ChangeMaps.setBlock, Array.getElem?_setIfInBounds, this]⟩
theorem block_set {w : World} {g : Nat} {o o' : Obj} (h : w.heap[g]? = some o) : (ChangeMaps.setBlock w g o').heap[g]? = some o' := by
  have : g < w.heap.size := (Array.getElem?_eq_some_iff.1 h).1
  simp [ChangeMaps.setBlock, Array.getElem?_setIfInBounds, this]
theorem mput_wf {l : List (K × V)} {k : K} {v : V} (h : ∀ x ∈ l, M.wf x.1) (hk : M.wf k) : ∀ x ∈ Go.Proofs.YtagedgcdonodfaaDoor.mput l k v, M.wf x.1 := by
  induction l with
  | nil => intro x hx; simp only [Go.Proofs.YtagedgcdonodfaaDoor.mput, List.mem_singleton] at hx; subst hx; exact hk
  | cons y l ih =>
    intro x hx
    unfold Go.Proofs.YtagedgcdonodfaaDoor.mput at hx
    split at hx
    · rcases List.mem_cons.1 hx with rfl | hx
      · exact hk
      · exact h x (List.mem_cons_of_mem _ hx)
    · rcases List.mem_cons.1 hx with rfl | hx
      · exact h _ (List.mem_cons_self ..)
      · exact ih (fun z hz => h z (List.mem_cons_of_mem _ hz)) x hx
theorem run_mput [h : MapI P T M] {g : Nat} {l : List (K × V)} {w : World} (hm : (mp M g l).holds w) (k : K) (hkw : M.wf k) (v : V) :
    ∃ o, (Instr.mapUpdate T (.map (some g)) (M.kc k) (M.vc v)).run P w = .ok () (ChangeMaps.setBlock w g o) ∧ (mp M g (mput l k v)).holds (ChangeMaps.setBlock w g o) := by
  obtain ⟨kT, eT, hu, hK, hk, hz⟩ := h.law
  obtain ⟨es, clock, hb, he, h1, h2, hn, hwf⟩ := hm
  obtain ⟨kl, hkl⟩ := hk k hkw
  have hall : ∀ e ∈ es.toList, ∃ l, keyOf P kT e.key = some l := fun e hm => by
    obtain ⟨x', hx', hk'⟩ := mp_key he hm
    rw [hk']; exact hk _ (hwf x' hx')
  rcases hK.find w hkl es.toList hall with ⟨f1, f2⟩ | ⟨j, e0, f1, f2, f3⟩
  · refine ⟨.map (es.push ⟨M.kc k, M.vc v, clock⟩) (clock + 1), ?_, ?_⟩
    · simp [Instr.mapUpdate, run_underlying hu, MapKept.run_getObj_map hb, hK.check w false hkl, f1, MapKept.run_setObj_map _ hb, Result.andThen, ChangeMaps.setBlock]
    · refine ⟨_, _, block_set hb, ?_, ?_, ?_, mput_keys hn, mput_wf hwf hkw⟩
      · rw [(mfind_none (mp_no he f2)).2.1 v, Array.toList_push, List.map_append, List.map_append, he]; rfl
      · rw [Array.toList_push, List.map_append, List.pairwise_append]
        refine ⟨h1, List.pairwise_singleton _ _, fun a ha b hb' => ?_⟩
        obtain ⟨e, he', rfl⟩ := List.mem_map.1 ha
        simp only [List.map_cons, List.map_nil, List.mem_singleton] at hb'
        subst hb'
        exact h2 e he'
      · intro e he'
        rw [Array.toList_push, List.mem_append, List.mem_singleton] at he'
        rcases he' with he' | rfl
        · exact Nat.lt_succ_of_lt (h2 e he')
        · exact Nat.lt_succ_self _
  · obtain ⟨x, g1, g2, g3⟩ := mp_at he f2
    have hx : x.1 = k := h.inj _ _ (g2.symm.trans f3)
    have hj : es[j]? = some e0 := by simpa using f2
    refine ⟨.map (es.modify j fun e => { e with key := M.kc k, val := M.vc v }) clock, ?_, ?_⟩
    · have hst := hK.stays w hkl
      simp [Instr.mapUpdate, run_underlying hu, MapKept.run_getObj_map hb, hK.check w false hkl, f1, hj, f3, hst, MapKept.run_setObj_map _ hb, Result.andThen, ChangeMaps.setBlock]
    · have hs : (es.modify j fun e => { e with key := M.kc k, val := M.vc v }).toList = es.toList.set j { e0 with key := M.kc k, val := M.vc v } := by
        rw [Array.toList_modify, ChangeMaps.modify_eq_set _ _ _ _ f2]
      refine ⟨_, _, block_set hb, ?_, ?_, ?_, mput_keys hn, mput_wf hwf hkw⟩
      · rw [hs, (mfind_some hn g1 hx).2.1 v, List.map_set, List.map_set, he]
      · rw [hs, List.map_set]
        have : (es.toList.map (·.born))[j]? = some e0.born := by rw [List.getElem?_map, f2]; rfl
        have h3 : (es.toList.map (·.born)).set j e0.born = es.toList.map (·.born) := by
          apply List.ext_getElem?
          intro i
          rw [List.getElem?_set]
          split
          · rename_i e; subst e
            split
            · exact this.symm
            · rename_i h4
              rw [List.getElem?_eq_none (by omega)]
          · rfl
        show List.Pairwise _ ((es.toList.map (·.born)).set j e0.born)
        rw [h3]; exact h1
      · intro e he'
        rw [hs] at he'
        rcases List.mem_or_eq_of_mem_set he' with h4 | rfl
        · exact h2 e h4
        · exact h2 e0 (List.mem_of_getElem? f2)
theorem run_mdel [h : MapI P T M] {g : Nat} {l : List (K × V)} {w : World} {kT' ty : TypeId} (hm : (mp M g l).holds w) (k : K) (hkw : M.wf k) :
    ∃ o, (Builtin.delete_ #[T, kT'] ty #[.map (some g), M.kc k]).run P w = .ok (.tuple #[]) (ChangeMaps.setBlock w g o) ∧ (mp M g (mdel l k)).holds (ChangeMaps.setBlock w g o) := by
  obtain ⟨kT, eT, hu, hK, hk, hz⟩ := h.law
  obtain ⟨es, clock, hb, he, h1, h2, hn, hwf⟩ := hm
  obtain ⟨kl, hkl⟩ := hk k hkw
  have hall : ∀ e ∈ es.toList, ∃ l, keyOf P kT e.key = some l := fun e hm => by
    obtain ⟨x', hx', hk'⟩ := mp_key he hm
    rw [hk']; exact hk _ (hwf x' hx')
  rcases hK.find w hkl es.toList hall with ⟨f1, f2⟩ | ⟨j, e0, f1, f2, f3⟩
  · refine ⟨.map es clock, ?_, ⟨es, clock, block_set hb, ?_, h1, h2, mdel_keys hn, fun x hx => hwf x (mdel_sub.subset hx)⟩⟩
    · simp [Builtin.delete_, run_underlying hu, MapKept.run_getObj_map hb, hK.check w _ hkl, f1, MapKept.run_setObj_map _ hb, Result.andThen, ChangeMaps.setBlock]
    · rw [(mfind_none (mp_no he f2)).2.2]; exact he
  · obtain ⟨x, g1, g2, g3⟩ := mp_at he f2
    have hx : x.1 = k := h.inj _ _ (g2.symm.trans f3)
    have hs : (es.eraseIdxIfInBounds j).toList = es.toList.eraseIdx j := by
      unfold Array.eraseIdxIfInBounds
      split
      · rw [Array.toList_eraseIdx]
      · rename_i h4
        rw [List.eraseIdx_of_length_le (by simpa using h4)]
    refine ⟨.map (es.eraseIdxIfInBounds j) clock, ?_, ⟨_, clock, block_set hb, ?_, ?_, ?_, mdel_keys hn, fun x hx => hwf x (mdel_sub.subset hx)⟩⟩
    · simp [Builtin.delete_, run_underlying hu, MapKept.run_getObj_map hb, hK.check w _ hkl, f1, MapKept.run_setObj_map _ hb, Result.andThen, ChangeMaps.setBlock]
    · rw [hs, (mfind_some hn g1 hx).2.2, ChangeMaps.map_eraseIdx, ChangeMaps.map_eraseIdx, he]
    · rw [hs]
      exact h1.sublist ((List.eraseIdx_sublist _ _).map _)
    · intro e he'
      rw [hs] at he'
      exact h2 e (List.mem_of_mem_eraseIdx he')

variable {n : Nat} {W : World} {S : Nat → Prop} {Γ : List Asn} {F : List (Nat × Value)} {Q : Exit → Act → World → Prop} {ops : Array Oper} {os : List Oper}
variable {ty : TypeId} {pos : String} {af : Array Edge} {gd : Option (Nat × Bool)}
theorem ReadR.look [h : MapI P T M] {d : Option Tmp} {x i : Operand} {g : Nat} {l : List (K × V)} {k : K} {c : Value} (hkw : M.wf k) (hx : evF F x = some (.map (some g))) (hi : evF F i = some (M.kc k)) (hm : mp M g l ∈ Γ) (hc : M.vc (mget M l k) = c) :
    ReadR P n Γ F ⟨d, .lookup T x i false, ty, pos, af, gd⟩ c := fun ρ w hf hw => by
  have := run_mlook (P := P) (T := T) (hw _ hm) k hkw false
  subst hc
  simp [execOp, hf.eval hx, hf.eval hi, this]
theorem OpT.mput [h : MapI P T M] {d : Option Tmp} {x i y : Operand} {g : Nat} {l : List (K × V)} {k : K} {v : V} {Γf : List Asn} (hkw : M.wf k) (hx : evF F x = some (.map (some g))) (hi : evF F i = some (M.kc k)) (hy : evF F y = some (M.vc v)) (hp : Takes Γ [mp M g l] Γf) :
    OpT P n Γ F ⟨d, .mapUpdate T x i y, ty, pos, af, gd⟩ [mp M g l] (RLeave [mp M g (Go.Proofs.YtagedgcdonodfaaDoor.mput l k v)]) := fun ρ w hf hw _ => by
  have hb : (mp M g l).holds w := hw _ (hp.mem_iff.2 (List.mem_cons_self ..))
  obtain ⟨o, h1, h2⟩ := run_mput (P := P) (T := T) hb k hkw v
  have : (execOp ρ.eval ⟨d, .mapUpdate T x i y, ty, pos, af, gd⟩).run P w = .ok .skip (ChangeMaps.setBlock w g o) := by
    simp [execOp, hf.eval hx, hf.eval hi, hf.eval hy, Sem.run_bind, h1]
  unfold DoesW
  rw [this]
  have hg : ownFp [mp M g l] g := ⟨_, List.mem_singleton.2 rfl, rfl, rfl⟩
  exact ⟨_, rfl, .one (mod_block hg _ _) h2 fun g' hg' => .inr (by rw [show g' = g from hg']; exact hg)⟩
theorem OpT.mdel [h : MapI P T M] {d : Option Tmp} {x i : Operand} {kT' : TypeId} {g : Nat} {l : List (K × V)} {k : K} {Γf : List Asn} (hkw : M.wf k) (hx : evF F x = some (.map (some g))) (hi : evF F i = some (M.kc k)) (hp : Takes Γ [mp M g l] Γf) :
    OpT P n Γ F ⟨d, .call { callee := .builtin .delete, args := #[x, i], argTypes := #[T, kT'] }, ty, pos, af, gd⟩ [mp M g l] (RLeave [mp M g (Go.Proofs.YtagedgcdonodfaaDoor.mdel l k)]) := fun ρ w hf hw _ => by
  have hb : (mp M g l).holds w := hw _ (hp.mem_iff.2 (List.mem_cons_self ..))
  obtain ⟨o, h1, h2⟩ := run_mdel (P := P) (T := T) (kT' := kT') (ty := ty) hb k hkw
  have : (execOp ρ.eval ⟨d, .call { callee := .builtin .delete, args := #[x, i], argTypes := #[T, kT'] }, ty, pos, af, gd⟩).run P w = .ok (.value (.tuple #[])) (ChangeMaps.setBlock w g o) := by
    simp [execOp, resolve, invoke, builtin, hf.eval hx, hf.eval hi, Sem.run_bind, h1]
  unfold DoesW
  rw [this]
  have hg : ownFp [mp M g l] g := ⟨_, List.mem_singleton.2 rfl, rfl, rfl⟩
  exact ⟨_, rfl, .one (mod_block hg _ _) h2 fun g' hg' => .inr (by rw [show g' = g from hg']; exact hg)⟩
/-! ### Keys of integers and bools -/
def inR : Value → Prop
  | .int k n => (Lit.int k n).wf = true
  | _ => True
theorem mapM_ex {α β : Type} {f : α → Option β} : ∀ {l : List α}, (∀ x ∈ l, ∃ y, f x = some y) → ∃ r, l.mapM f = some r
  | [], _ => ⟨[], rfl⟩
  | a :: l, h => by
    obtain ⟨y, hy⟩ := h a (List.mem_cons_self ..)
    obtain ⟨r, hr⟩ := mapM_ex fun x hx => h x (List.mem_cons_of_mem _ hx)
    exact ⟨y :: r, by rw [List.mapM_cons, hy, hr]; rfl⟩
theorem shp_rep {ks : List (Option IntKind)} : ∀ {n i : Nat} {vs : List Value}, Shp (List.replicate n ks).flatten vs → i < n → Shp ks ((vs.drop (i * ks.length)).take ks.length)
  | 0, _, _, _, h => absurd h (Nat.not_lt_zero _)
  | n + 1, i, vs, h, hi => by
    rw [List.replicate_succ, List.flatten_cons] at h
    obtain ⟨v1, v2, rfl, h1, h2⟩ := Shp.split h
    have hl := h1.length
    cases i with
    | zero =>
      rw [Nat.zero_mul, List.drop_zero, List.take_append_of_le_length (by omega), List.take_of_length_le (by omega)]
      exact h1
    | succ i =>
      rw [Nat.succ_mul, Nat.add_comm, ← List.drop_drop, show (v1 ++ v2).drop ks.length = v2 by rw [← hl, List.drop_left]]
      exact shp_rep h2 (by omega)
theorem shp_fields {P : Program} {fuel tot : Nat} (vs : List Value) : ∀ (fs : List Field) (off : Nat) (ks : List (Option IntKind)), (fs.foldr (fun f acc => fun off => if f.offset = off then (flatT P fuel f.type).bind fun ks => if P.cellsOf f.type = ks.length then (acc (off + ks.length)).map (ks ++ ·) else none else none) (fun off => if tot = off then some [] else none)) off = some ks → Shp ks (vs.drop off) →
    ∀ f ∈ fs, ∃ k1, flatT P fuel f.type = some k1 ∧ P.cellsOf f.type = k1.length ∧ Shp k1 ((vs.drop f.offset).take (P.cellsOf f.type))
  | [], _, _, _, _, f, hf => by cases hf
  | g :: fs, off, ks, h, hs, f, hf => by
    rw [List.foldr_cons] at h
    split at h
    · rename_i ho
      cases h1 : flatT P fuel g.type with
      | none => rw [h1] at h; cases h
      | some k1 =>
        rw [h1] at h
        simp only [Option.bind_some] at h
        split at h
        · rename_i hc
          cases h2 : (fs.foldr (fun f acc => fun off => if f.offset = off then (flatT P fuel f.type).bind fun ks => if P.cellsOf f.type = ks.length then (acc (off + ks.length)).map (ks ++ ·) else none else none) (fun off => if tot = off then some [] else none)) (off + k1.length) with
          | none => rw [h2] at h; cases h
          | some k2 =>
            rw [h2] at h
            simp only [Option.map_some, Option.some.injEq] at h
            subst h
            obtain ⟨c1, c2⟩ := Shp.cut hs
            rw [List.drop_drop] at c2
            rcases List.mem_cons.1 hf with rfl | hf
            · exact ⟨k1, h1, hc, by rw [ho, hc]; exact c1⟩
            · exact shp_fields vs fs _ _ h2 c2 f hf
        · cases h
    · cases h
theorem flat_total {P : Program} {fuel tot : Nat} : ∀ {fs : List Field} {off : Nat} {ks : List (Option IntKind)}, (fs.foldr (fun f acc => fun off => if f.offset = off then (flatT P fuel f.type).bind fun ks => if P.cellsOf f.type = ks.length then (acc (off + ks.length)).map (ks ++ ·) else none else none) (fun off => if tot = off then some [] else none)) off = some ks → off + ks.length = tot
  | [], off, ks, h => by
    simp only [List.foldr_nil] at h
    split at h
    · rename_i e; cases h; simpa using e.symm
    · cases h
  | g :: fs, off, ks, h => by
    rw [List.foldr_cons] at h
    split at h
    · cases h1 : flatT P fuel g.type with
      | none => rw [h1] at h; cases h
      | some k1 =>
        rw [h1] at h
        simp only [Option.bind_some] at h
        split at h
        · cases h2 : (fs.foldr (fun f acc => fun off => if f.offset = off then (flatT P fuel f.type).bind fun ks => if P.cellsOf f.type = ks.length then (acc (off + ks.length)).map (ks ++ ·) else none else none) (fun off => if tot = off then some [] else none)) (off + k1.length) with
          | none => rw [h2] at h; cases h
          | some k2 =>
            rw [h2] at h
            simp only [Option.map_some, Option.some.injEq] at h
            subst h
            have := flat_total h2
            simp only [List.length_append]
            omega
        · cases h
    · cases h
theorem keyLits_shp {P : Program} : ∀ (fuel d : Nat) (t : TypeId) (ks : List (Option IntKind)) (vs : List Value), fuel ≤ d → flatT P fuel t = some ks → eqFine P fuel t = true → Shp ks vs → (∀ v ∈ vs, inR v) → ∃ ls, P.keyLits d t vs = some ls
  | 0, _, _, _, _, _, h, _, _, _ => (by cases h)
  | fuel + 1, 0, _, _, _, h, _, _, _, _ => absurd h (Nat.not_succ_le_zero _)
  | fuel + 1, d + 1, t, ks, vs, hd, hf, he, hs, hr => by
    have hd' : fuel ≤ d := Nat.le_of_succ_le_succ hd
    unfold flatT at hf
    unfold eqFine at he
    unfold Program.keyLits
    cases hu : P.underlying t with
    | none => rw [hu] at hf; cases hf
    | some dd =>
      rw [hu] at hf he
      cases dd with
      | bool =>
        cases hf
        match vs, hs with
        | [v], h =>
          obtain ⟨⟨b, rfl⟩, _⟩ := h
          exact ⟨_, rfl⟩
      | int k =>
        cases hf
        match vs, hs with
        | [v], h =>
          obtain ⟨⟨n, rfl⟩, _⟩ := h
          have : (Lit.int k n).wf = true := hr _ (List.mem_singleton.2 rfl)
          exact ⟨[.int k n], by simp only [this, and_self, if_true]⟩
      | array n e =>
        simp only at hf he
        cases h1 : flatT P fuel e with
        | none => rw [h1] at hf; cases hf
        | some k1 =>
          rw [h1] at hf
          simp only [Option.bind_some] at hf
          split at hf
          · rename_i hc
            simp only [Option.some.injEq] at hf
            subst hf
            have hl : vs.length = P.cellsOf t := by rw [hs.length, hc.2]; simp
            obtain ⟨r, hr2⟩ := mapM_ex (f := fun i => P.keyLits d e ((vs.drop (i * P.cellsOf e)).take (P.cellsOf e))) (l := List.range n) fun i hi => by
              rw [hc.1]
              exact keyLits_shp fuel d e k1 _ hd' h1 he (shp_rep hs (List.mem_range.1 hi)) fun v hv => hr v (List.mem_of_mem_drop (List.mem_of_mem_take hv))
            refine ⟨r.flatten, ?_⟩
            simp only
            rw [if_pos hl, hr2]; rfl
          · cases hf
      | struct fs =>
        simp only [Bool.and_eq_true, List.all_eq_true, decide_eq_true_eq] at hf he
        have hfl := shp_fields (P := P) (fuel := fuel) vs fs.toList 0 ks hf (by rw [List.drop_zero]; exact hs)
        obtain ⟨r, hr2⟩ := mapM_ex (f := fun f : Field => P.keyLits d f.type ((vs.drop f.offset).take (P.cellsOf f.type))) (l := fs.toList) fun f hf' => by
          obtain ⟨k1, g1, g2, g3⟩ := hfl f hf'
          exact keyLits_shp fuel d f.type k1 _ hd' g1 (he.2 f hf').2 g3 fun v hv => hr v (List.mem_of_mem_drop (List.mem_of_mem_take hv))
        have hl : vs.length = P.cellsOf t := by
          rw [hs.length]
          have := flat_total hf; omega
        have hn : fs.all (·.name != "_") = true := by
          rw [← Array.all_toList, List.all_eq_true]
          intro f hf'
          simpa using (he.2 f hf').1
        refine ⟨r.flatten, ?_⟩
        simp only
        rw [if_pos ⟨hl, hn⟩, hr2]; rfl
      | _ => cases hf
theorem keyOf_shp {P : Program} {t : TypeId} {ks : List (Option IntKind)} {cs : Ch} (hE : EqTy P t ks) (hk : P.keyType t = true) (hsz : 8 ≤ P.types.size + 1) (hc : P.cellsOf t = ks.length) (hs : Shp ks (flat cs)) (hr : ∀ v ∈ flat cs, inR v) : ∃ l, keyOf P t (ag cs) = some l := by
  obtain ⟨dd, hu, ha⟩ := hE.agg
  obtain ⟨ls, hls⟩ := keyLits_shp 8 (P.types.size + 1) t ks (flat cs) hsz hE.flat hE.fine hs hr
  have hfm : (ag cs).formed P t = true := by
    unfold ag Value.formed
    rw [hu]
    cases dd <;> first | (cases ha; done) | (simp [hc, hs.length])
  refine ⟨.string (keyBytes ls), ?_⟩
  unfold keyOf
  rw [hu, hk, hfm]
  have hcell : (ag cs).cells.toList = flat cs := by unfold ag; simp [Value.cells]
  cases dd <;> first | (cases ha; done) | (simp only [hcell, hls, Bool.and_self, if_true, Option.map_some])
def RMap {K V : Type} (M : MK K V) (l : List (K × V)) : Value → List Asn → Prop := fun v Γ => ∃ g, v = .map (some g) ∧ Γ = [mp M g l]
theorem OpT.mnew {K V : Type} (M : MK K V) {d : Option Tmp} {T : TypeId} : OpT P n Γ F ⟨d, .makeMap T none, ty, pos, af, gd⟩ [] (RMap M []) := fun ρ w hf hw _ => by
  have : (execOp ρ.eval ⟨d, .makeMap T none, ty, pos, af, gd⟩).run P w = .ok (.value (.map (some w.heap.size))) (w.alloc (.map #[] 0)) := by
    simp [execOp, Instr.makeMap, Sem.run_bind, newObj, Sem.run]
  unfold DoesW
  rw [this]
  exact ⟨_, ⟨_, rfl, rfl⟩, .one (Mod.alloc _ _ _) ⟨#[], 0, alloc_new _ _, rfl, .nil, fun e he => by simp at he, .nil, fun x hx => by cases hx⟩ fun g hg => .inl (Nat.le_of_eq hg.symm)⟩
theorem WPl.mnew {K V : Type} (M : MK K V) {d : Nat} {T : TypeId} (k : ∀ g, WPl P n W S (mp M g [] :: Γ) ((d, .map (some g)) :: F) ops os Q) (hlt : Nat.blt d n = true := by first | rfl | fail) (hw : wantG F ops gd = some true := by first | rfl | fail) :
    WPl P n W S Γ F ops (⟨some d, .makeMap T none, ty, pos, af, gd⟩ :: os) Q :=
  WPl.op .nil hlt hw (OpT.mnew M) (by rintro v Γ' ⟨g, rfl, rfl⟩; exact k g)
theorem WPl.mput [h : MapI P T M] {x i y : Operand} {g : Nat} {l : List (K × V)} (kk : K) (vv : V) (hkw : M.wf kk) {Γf : List Asn} (k : WPl P n W S (mp M g (Go.Proofs.YtagedgcdonodfaaDoor.mput l kk vv) :: Γf) F ops os Q) (hx : evF F x = some (.map (some g)) := by first | rfl | fail) (hi : evF F i = some (M.kc kk) := by first | rfl | fail) (hy : evF F y = some (M.vc vv) := by first | rfl | fail) (hp : Take Γ (mp M g l) Γf := by first | exact takeA | fail) (hw : wantG F ops gd = some true := by first | rfl | fail) :
    WPl P n W S Γ F ops (⟨none, .mapUpdate T x i y, ty, pos, af, gd⟩ :: os) Q := WPl.turn (.cons hp .nil) rfl hw (OpT.mput hkw hx hi hy (.cons hp .nil)) k
theorem WPl.mdel [h : MapI P T M] {x i : Operand} {kT' : TypeId} {g : Nat} {l : List (K × V)} (kk : K) (hkw : M.wf kk) {Γf : List Asn} (k : WPl P n W S (mp M g (Go.Proofs.YtagedgcdonodfaaDoor.mdel l kk) :: Γf) F ops os Q) (hx : evF F x = some (.map (some g)) := by first | rfl | fail) (hi : evF F i = some (M.kc kk) := by first | rfl | fail) (hp : Take Γ (mp M g l) Γf := by first | exact takeA | fail) (hw : wantG F ops gd = some true := by first | rfl | fail) :
    WPl P n W S Γ F ops (⟨none, .call { callee := .builtin .delete, args := #[x, i], argTypes := #[T, kT'] }, ty, pos, af, gd⟩ :: os) Q := WPl.turn (.cons hp .nil) rfl hw (OpT.mdel hkw hx hi (.cons hp .nil)) k
end
end Go.Proofs.YtagedgcdonodfaaDoor
/- Separation: pointers compared with nil, calls that turn several blocks, fields of structs that are values. -/
namespace Go.Proofs.YtagedgcdonodfaaDoor
open Go.RowKit
set_option linter.unusedSimpArgs false
set_option linter.unusedVariables false

section
variable {P : Program} {n : Nat} {W : World} {S : Nat → Prop} {Γ : List Asn} {F : List (Nat × Value)} {Q : Exit → Act → World → Prop} {ops : Array Oper} {os : List Oper}
variable {d : Option Tmp} {ty : TypeId} {pos : String} {af : Array Edge} {gd : Option (Nat × Bool)} {T t2 : TypeId} {x y : Operand} {a : Addr}
theorem BinR.ptrE {p : Option Addr} (hT : P.underlying T = some (.pointer (P.pointee T))) : BinR P .eql T (.pointer p) (.pointer none) (.bool p.isNone) := fun X Y w => by
  rw [Sem.run_bind, show (eqGuard .eql T X Y (.pointer p) (.pointer none)).run P w = .ok () w by simp [eqGuard], Result.andThen_ok, run_eql_pointer_nil w T p hT]
theorem ReadR.pE0 (hx : evF F x = some (.pointer none)) (hy : evF F y = some (.pointer none)) (hT : P.underlying T = some (.pointer (P.pointee T))) : ReadR P n Γ F ⟨d, .binOp .eql T x y t2, ty, pos, af, gd⟩ (.bool true) := ReadR.bin hx hy (BinR.ptrE hT)
theorem ReadR.pE1 (hx : evF F x = some (.pointer (some a))) (hy : evF F y = some (.pointer none)) (hT : P.underlying T = some (.pointer (P.pointee T))) : ReadR P n Γ F ⟨d, .binOp .eql T x y t2, ty, pos, af, gd⟩ (.bool false) := ReadR.bin hx hy (BinR.ptrE hT)
theorem readP {o : Oper} {v : Value} (h : ReadR P n Γ F o v := by first | exact ReadR.pE0 rfl rfl (by kernel_rfl) | exact ReadR.pE1 rfl rfl (by kernel_rfl) | exact ReadR.pN0 rfl rfl (by kernel_rfl) | exact ReadR.pN1 rfl rfl (by kernel_rfl) | fail) : ReadR P n Γ F o v := h

/-- It gives this value, and leaves these. -/
def RTurns (c : Value) (Γ1 : List Asn) : Value → List Asn → Prop := fun v Γ => v = c ∧ Γ = Γ1
theorem WPl.cTs {d : Option Tmp} {f : FuncId} {xs : List Operand} {ts : Array TypeId} {vs : List Value} {Γo Γf Γ1 : List Asn} {c : Value}
    (h : Triple P f vs.toArray Γo (RTurns c Γ1)) (k : WPl P n W S (Γ1 ++ Γf) (putF F d c) ops os Q) (hx : evFs F xs vs := by first | exact evsA | fail) (hp : Takes Γ Γo Γf := by first | exact takesA | fail) (hc : isCode P f = true := by first | kernel_rfl | fail) (hd : dstOk n d = true := by first | rfl | fail) (hw : wantG F ops gd = some true := by first | rfl | fail) :
    WPl P n W S Γ F ops (⟨d, .call { callee := .value (.func f), args := xs.toArray, argTypes := ts }, ty, pos, af, gd⟩ :: os) Q :=
  WPl.callO (Δ := []) h hx hp .nil fpNil hc hd hw (by rintro v Γ' ⟨rfl, rfl⟩; exact k)
/-- A call of which what it leaves is told. -/
theorem WPl.cXs {d : Option Tmp} {f : FuncId} {xs : List Operand} {ts : Array TypeId} {vs : List Value} {Γo Γf : List Asn} {R : Value → List Asn → Prop}
    (h : Triple P f vs.toArray Γo R) (k : ∀ v Γ', R v Γ' → WPl P n W S (Γ' ++ Γf) (putF F d v) ops os Q) (hx : evFs F xs vs := by first | exact evsA | fail) (hp : Takes Γ Γo Γf := by first | exact takesA | fail) (hc : isCode P f = true := by first | kernel_rfl | fail) (hd : dstOk n d = true := by first | rfl | fail) (hw : wantG F ops gd = some true := by first | rfl | fail) :
    WPl P n W S Γ F ops (⟨d, .call { callee := .value (.func f), args := xs.toArray, argTypes := ts }, ty, pos, af, gd⟩ :: os) Q :=
  WPl.callO (Δ := []) h hx hp .nil fpNil hc hd hw k
theorem ownsA {Γ : List Asn} (h : ∀ A, A ∈ Γ → A.own = true := by ((repeat' (first | exact own_nil | refine own_cons (by first | exact bx_own | exact rowN_own | exact mp_own | exact rfl) ?_ | fail)) <;> fail)) : ∀ A, A ∈ Γ → A.own = true := h
end
/-! ### Several assertions of one's own as one -/
def star (Γ : List Asn) : Asn where
  own := true
  fp := fun g => ∃ A, A ∈ Γ ∧ A.fp g
  holds := fun w => Holds Γ w ∧ Γ.Pairwise Apart
  lt := fun w h g hg => by
    obtain ⟨A, hA, hg⟩ := hg
    exact A.lt w (h.1 A hA) g hg
  loc := fun w w' h hl => ⟨fun A hA => A.loc w w' (h.1 A hA) fun g hg => hl g ⟨A, hA, hg⟩, h.2⟩
theorem Post.weakT {T T' : Nat → Prop} {w w' : World} {Γ : List Asn} (h : Post T w Γ w') (ht : ∀ g, T g → T' g) : Post T' w Γ w' :=
  ⟨h.mod.weaken fun g _ hg => ht g hg, h.all, h.apart, fun A hA g hg => (h.new A hA g hg).imp id (ht g)⟩
theorem Post.star {T : Nat → Prop} {w w' : World} {Δ Γ : List Asn} (ho : ∀ A, A ∈ Γ → A.own = true) (h : Post T w (Δ ++ Γ) w') : Post T w (Δ ++ [Go.Proofs.YtagedgcdonodfaaDoor.star Γ]) w' := by
  obtain ⟨h1, h2, h3⟩ := List.pairwise_append.1 h.apart
  refine ⟨h.mod, fun A hA => ?_, List.pairwise_append.2 ⟨h1, List.pairwise_singleton _ _, fun A hA B hB hor g hg hg' => ?_⟩, fun A hA g hg => ?_⟩
  · rcases List.mem_append.1 hA with hA | hA
    · exact h.all A (List.mem_append_left _ hA)
    · rw [List.mem_singleton.1 hA]
      exact ⟨fun B hB => h.all B (List.mem_append_right _ hB), h2⟩
  · rw [List.mem_singleton.1 hB] at hg'
    obtain ⟨C, hC, hg'⟩ := hg'
    exact h3 A hA C hC (.inr (ho C hC)) g hg hg'
  · rcases List.mem_append.1 hA with hA | hA
    · exact h.new A (List.mem_append_left _ hA) g hg
    · rw [List.mem_singleton.1 hA] at hg
      obtain ⟨C, hC, hg⟩ := hg
      exact h.new C (List.mem_append_right _ hC) g hg
theorem Triple.starO {P : Program} {f : FuncId} {args : Array Value} {Δ : List Asn} {R R' : Value → List Asn → Prop} (h : Triple P f args Δ R)
    (hR : ∀ v Γ', R v Γ' → ∃ Δ1 Γ1, Γ' = Δ1 ++ Γ1 ∧ (∀ A, A ∈ Γ1 → A.own = true) ∧ R' v (Δ1 ++ [Go.Proofs.YtagedgcdonodfaaDoor.star Γ1])) : Triple P f args Δ R' := fun w hw ha =>
  (h w hw ha).mono fun _ _ ⟨v, Γ', he, r, p⟩ => by
    obtain ⟨Δ1, Γ1, rfl, h1, h2⟩ := hR v Γ' r
    exact ⟨v, _, he, h2, Post.star h1 p⟩
theorem Triple.permT {P : Program} {f : FuncId} {args : Array Value} {Γ Γ' : List Asn} {R : Value → List Asn → Prop} (h : Triple P f args Γ R) (hp : Γ'.Perm Γ) : Triple P f args Γ' R := fun w hw ha =>
  (h w (fun A hA => hw A (hp.mem_iff.2 hA)) (apart_perm hp ha)).mono fun _ _ ⟨v, Γ1, he, r, p⟩ =>
    ⟨v, Γ1, he, r, p.weakT fun g ⟨A, hA, h1, h2⟩ => ⟨A, hp.mem_iff.2 hA, h1, h2⟩⟩
/-- A field of a struct that is a value. -/
def fieldD (P : Program) (T : TypeId) (k : Nat) : Option (Nat × Option Bool) := match P.underlying T with | some (.struct fs) => (fs[k]?).map fun f => (f.offset, (P.underlying f.type).map aggB) | _ => none
end Go.Proofs.YtagedgcdonodfaaDoor
/- Plain facts: masks of bytes, sums of words. -/
namespace Go.Proofs.YtagedgcdonodfaaDoor
set_option linter.unusedVariables false
set_option linter.unusedSimpArgs false

/-! ### Masks -/

/-- A byte's first k bits. -/
def mskb (k : Nat) (c : UInt8) : UInt8 := UInt8.ofNat (c.toNat / 2 ^ (8 - k) * 2 ^ (8 - k))
/-- How many bits of the byte at a place count. -/
def nbit (n i : Nat) : Nat := min (n - 8 * i) 8
def maskB (l : List UInt8) (n : Nat) : List UInt8 := l.mapIdx fun i c => mskb (nbit n i) c
@[simp] theorem maskB_length (l : List UInt8) (n : Nat) : (maskB l n).length = l.length := by simp [maskB]
/-- Bytes of which the first i are masked. -/
def maskTo (l : List UInt8) (n i : Nat) : List UInt8 := maskB (l.take i) n ++ l.drop i
/-! ### Sums -/

/-- The words of bytes, added; whether the next byte is a high one. -/
def wsum : Bool → List UInt8 → Nat
  | _, [] => 0
  | true, b :: l => 256 * b.toNat + wsum false l
  | false, b :: l => b.toNat + wsum true l
def par : Bool → List UInt8 → Bool
  | b, [] => b
  | b, _ :: l => par (!b) l
/-- A sum, what is above 16 bits added below. -/
def fold (n : Nat) : Nat := if n = 0 then 0 else (n - 1) % 65535 + 1
def csum (l : List UInt8) : Nat := 65535 - fold (wsum true l)
/-- How great a number may be behind so many rounds. -/
def fbnd : Nat → Nat
  | 0 => 18446744073709551615
  | 1 => 281474976776192
  | 2 => 8589934592
  | 3 => 262144
  | 4 => 65539
  | _ => 65535
end Go.Proofs.YtagedgcdonodfaaDoor
/- The types of this program, as instances: sizes, fields, zero values. Written by a program. -/
namespace Go.Proofs.YtagedgcdonodfaaDoor
open Go.RowKit
set_option linter.unusedSimpArgs false
set_option linter.unusedVariables false
set_option maxRecDepth 100000

instance : TyI Tryd.prog 2 false 1 := ⟨by kernel_rfl, by kernel_rfl⟩
instance : IntI Tryd.prog 2 .i64 := ⟨by kernel_rfl⟩
instance : ZeroI Tryd.prog 2 [(1, [.int .i64 0])] := ⟨by kernel_rfl, FOk.one1 rfl (FOk.nil)⟩
instance : TyI Tryd.prog 3 false 1 := ⟨by kernel_rfl, by kernel_rfl⟩
instance : IntI Tryd.prog 3 .i64 := ⟨by kernel_rfl⟩
instance : ZeroI Tryd.prog 3 [(1, [.int .i64 0])] := ⟨by kernel_rfl, FOk.one1 rfl (FOk.nil)⟩
instance : EltI Tryd.prog 3 (.int .i64 0) 8 := ⟨by kernel_rfl, rfl⟩
instance : TyI Tryd.prog 4 false 1 := ⟨by kernel_rfl, by kernel_rfl⟩
instance : ZeroI Tryd.prog 4 [(1, [.bool false])] := ⟨by kernel_rfl, FOk.one1 rfl (FOk.nil)⟩
instance : TyI Tryd.prog 5 false 1 := ⟨by kernel_rfl, by kernel_rfl⟩
instance : IntI Tryd.prog 5 .u8 := ⟨by kernel_rfl⟩
instance : ZeroI Tryd.prog 5 [(1, [.int .u8 0])] := ⟨by kernel_rfl, FOk.one1 rfl (FOk.nil)⟩
instance : EltI Tryd.prog 5 (.int .u8 0) 1 := ⟨by kernel_rfl, rfl⟩
instance : TyI Tryd.prog 9 false 1 := ⟨by kernel_rfl, by kernel_rfl⟩
instance : ZeroI Tryd.prog 9 [(1, [.string (ByteArray.mk #[])])] := ⟨by kernel_rfl, FOk.one1 rfl (FOk.nil)⟩
instance : EltI Tryd.prog 9 (.string (ByteArray.mk #[])) 16 := ⟨by kernel_rfl, rfl⟩
instance : TyI Tryd.prog 12 false 1 := ⟨by kernel_rfl, by kernel_rfl⟩
instance : IntI Tryd.prog 12 .u64 := ⟨by kernel_rfl⟩
instance : ZeroI Tryd.prog 12 [(1, [.int .u64 0])] := ⟨by kernel_rfl, FOk.one1 rfl (FOk.nil)⟩
instance : TyI Tryd.prog 15 false 1 := ⟨by kernel_rfl, by kernel_rfl⟩
instance : ZeroI Tryd.prog 15 [(1, [.pointer none])] := ⟨by kernel_rfl, FOk.one1 rfl (FOk.nil)⟩
instance : TyI Tryd.prog 16 false 1 := ⟨by kernel_rfl, by kernel_rfl⟩
instance : ZeroI Tryd.prog 16 [(1, [.pointer none])] := ⟨by kernel_rfl, FOk.one1 rfl (FOk.nil)⟩
instance : TyI Tryd.prog 17 false 1 := ⟨by kernel_rfl, by kernel_rfl⟩
instance : ZeroI Tryd.prog 17 [(1, [.pointer none])] := ⟨by kernel_rfl, FOk.one1 rfl (FOk.nil)⟩
instance : TyI Tryd.prog 21 false 1 := ⟨by kernel_rfl, by kernel_rfl⟩
instance : IntI Tryd.prog 21 .i32 := ⟨by kernel_rfl⟩
instance : ZeroI Tryd.prog 21 [(1, [.int .i32 0])] := ⟨by kernel_rfl, FOk.one1 rfl (FOk.nil)⟩
instance : TyI Tryd.prog 22 false 1 := ⟨by kernel_rfl, by kernel_rfl⟩
instance : SliI Tryd.prog 22 41 := ⟨by kernel_rfl⟩
instance : ZeroI Tryd.prog 22 [(1, [.slice none 0 0])] := ⟨by kernel_rfl, FOk.one1 rfl (FOk.nil)⟩
instance : TyI Tryd.prog 23 false 1 := ⟨by kernel_rfl, by kernel_rfl⟩
instance : ZeroI Tryd.prog 23 [(1, [.pointer none])] := ⟨by kernel_rfl, FOk.one1 rfl (FOk.nil)⟩
instance : TyI Tryd.prog 27 false 1 := ⟨by kernel_rfl, by kernel_rfl⟩
instance : SliI Tryd.prog 27 31 := ⟨by kernel_rfl⟩
instance : ZeroI Tryd.prog 27 [(1, [.slice none 0 0])] := ⟨by kernel_rfl, FOk.one1 rfl (FOk.nil)⟩
instance : TyI Tryd.prog 30 true 4 := ⟨by kernel_rfl, by kernel_rfl⟩
instance : FldI Tryd.prog 30 0 0 := ⟨by kernel_rfl⟩
instance : FldI Tryd.prog 30 1 1 := ⟨by kernel_rfl⟩
instance : FldI Tryd.prog 30 2 2 := ⟨by kernel_rfl⟩
instance : FldI Tryd.prog 30 3 3 := ⟨by kernel_rfl⟩
instance : StrI Tryd.prog 30 [(0, 1), (1, 1), (2, 1), (3, 1)] := ⟨by kernel_rfl⟩
instance : EqI Tryd.prog 30 [some .i64, some .i64, some .i64, some .i64] := ⟨⟨aggTy, by kernel_rfl, by kernel_rfl, by kernel_rfl⟩⟩
instance : ZeroI Tryd.prog 30 [(1, [.int .i64 0]), (1, [.int .i64 0]), (1, [.int .i64 0]), (1, [.int .i64 0])] := ⟨by kernel_rfl, FOk.one1 rfl (FOk.one1 rfl (FOk.one1 rfl (FOk.one1 rfl (FOk.nil))))⟩
instance : TyI Tryd.prog 31 true 4 := ⟨by kernel_rfl, by kernel_rfl⟩
instance : FldI Tryd.prog 31 0 0 := ⟨by kernel_rfl⟩
instance : FldI Tryd.prog 31 1 1 := ⟨by kernel_rfl⟩
instance : FldI Tryd.prog 31 2 2 := ⟨by kernel_rfl⟩
instance : FldI Tryd.prog 31 3 3 := ⟨by kernel_rfl⟩
instance : StrI Tryd.prog 31 [(0, 1), (1, 1), (2, 1), (3, 1)] := ⟨by kernel_rfl⟩
instance : EqI Tryd.prog 31 [some .i64, some .i64, some .i64, some .i64] := ⟨⟨aggTy, by kernel_rfl, by kernel_rfl, by kernel_rfl⟩⟩
instance : ZeroI Tryd.prog 31 [(1, [.int .i64 0]), (1, [.int .i64 0]), (1, [.int .i64 0]), (1, [.int .i64 0])] := ⟨by kernel_rfl, FOk.one1 rfl (FOk.one1 rfl (FOk.one1 rfl (FOk.one1 rfl (FOk.nil))))⟩
instance : TyI Tryd.prog 35 false 1 := ⟨by kernel_rfl, by kernel_rfl⟩
instance : IntI Tryd.prog 35 .i64 := ⟨by kernel_rfl⟩
instance : ZeroI Tryd.prog 35 [(1, [.int .i64 0])] := ⟨by kernel_rfl, FOk.one1 rfl (FOk.nil)⟩
instance : TyI Tryd.prog 37 false 1 := ⟨by kernel_rfl, by kernel_rfl⟩
instance : SliI Tryd.prog 37 5 := ⟨by kernel_rfl⟩
instance : ZeroI Tryd.prog 37 [(1, [.slice none 0 0])] := ⟨by kernel_rfl, FOk.one1 rfl (FOk.nil)⟩
instance : TyI Tryd.prog 38 true 6 := ⟨by kernel_rfl, by kernel_rfl⟩
instance : FldI Tryd.prog 38 0 0 := ⟨by kernel_rfl⟩
instance : FldI Tryd.prog 38 1 1 := ⟨by kernel_rfl⟩
instance : FldI Tryd.prog 38 2 2 := ⟨by kernel_rfl⟩
instance : FldI Tryd.prog 38 3 3 := ⟨by kernel_rfl⟩
instance : FldI Tryd.prog 38 4 4 := ⟨by kernel_rfl⟩
instance : FldI Tryd.prog 38 5 5 := ⟨by kernel_rfl⟩
instance : StrI Tryd.prog 38 [(0, 1), (1, 1), (2, 1), (3, 1), (4, 1), (5, 1)] := ⟨by kernel_rfl⟩
instance : ZeroI Tryd.prog 38 [(1, [.int .i64 0]), (1, [.slice none 0 0]), (1, [.int .i64 0]), (1, [.int .i64 0]), (1, [.bool false]), (1, [.int .i64 0])] := ⟨by kernel_rfl, FOk.one1 rfl (FOk.one1 rfl (FOk.one1 rfl (FOk.one1 rfl (FOk.one1 rfl (FOk.one1 rfl (FOk.nil))))))⟩
instance : TyI Tryd.prog 39 true 6 := ⟨by kernel_rfl, by kernel_rfl⟩
instance : FldI Tryd.prog 39 0 0 := ⟨by kernel_rfl⟩
instance : FldI Tryd.prog 39 1 1 := ⟨by kernel_rfl⟩
instance : FldI Tryd.prog 39 2 2 := ⟨by kernel_rfl⟩
instance : FldI Tryd.prog 39 3 3 := ⟨by kernel_rfl⟩
instance : FldI Tryd.prog 39 4 4 := ⟨by kernel_rfl⟩
instance : FldI Tryd.prog 39 5 5 := ⟨by kernel_rfl⟩
instance : StrI Tryd.prog 39 [(0, 1), (1, 1), (2, 1), (3, 1), (4, 1), (5, 1)] := ⟨by kernel_rfl⟩
instance : ZeroI Tryd.prog 39 [(1, [.int .i64 0]), (1, [.slice none 0 0]), (1, [.int .i64 0]), (1, [.int .i64 0]), (1, [.bool false]), (1, [.int .i64 0])] := ⟨by kernel_rfl, FOk.one1 rfl (FOk.one1 rfl (FOk.one1 rfl (FOk.one1 rfl (FOk.one1 rfl (FOk.one1 rfl (FOk.nil))))))⟩
instance : TyI Tryd.prog 40 true 10 := ⟨by kernel_rfl, by kernel_rfl⟩
instance : FldI Tryd.prog 40 0 0 := ⟨by kernel_rfl⟩
instance : FldI Tryd.prog 40 1 6 := ⟨by kernel_rfl⟩
instance : FldI Tryd.prog 40 2 7 := ⟨by kernel_rfl⟩
instance : FldI Tryd.prog 40 3 8 := ⟨by kernel_rfl⟩
instance : FldI Tryd.prog 40 4 9 := ⟨by kernel_rfl⟩
instance : StrI Tryd.prog 40 [(0, 6), (6, 1), (7, 1), (8, 1), (9, 1)] := ⟨by kernel_rfl⟩
instance : ZeroI Tryd.prog 40 [(1, [.int .i64 0]), (1, [.slice none 0 0]), (1, [.int .i64 0]), (1, [.int .i64 0]), (1, [.bool false]), (1, [.int .i64 0]), (1, [.int .i64 0]), (1, [.int .i64 0]), (1, [.int .i64 0]), (1, [.bool false])] := ⟨by kernel_rfl, FOk.one1 rfl (FOk.one1 rfl (FOk.one1 rfl (FOk.one1 rfl (FOk.one1 rfl (FOk.one1 rfl (FOk.one1 rfl (FOk.one1 rfl (FOk.one1 rfl (FOk.one1 rfl (FOk.nil))))))))))⟩
instance : TyI Tryd.prog 41 true 10 := ⟨by kernel_rfl, by kernel_rfl⟩
instance : FldI Tryd.prog 41 0 0 := ⟨by kernel_rfl⟩
instance : FldI Tryd.prog 41 1 6 := ⟨by kernel_rfl⟩
instance : FldI Tryd.prog 41 2 7 := ⟨by kernel_rfl⟩
instance : FldI Tryd.prog 41 3 8 := ⟨by kernel_rfl⟩
instance : FldI Tryd.prog 41 4 9 := ⟨by kernel_rfl⟩
instance : StrI Tryd.prog 41 [(0, 6), (6, 1), (7, 1), (8, 1), (9, 1)] := ⟨by kernel_rfl⟩
instance : ZeroI Tryd.prog 41 [(1, [.int .i64 0]), (1, [.slice none 0 0]), (1, [.int .i64 0]), (1, [.int .i64 0]), (1, [.bool false]), (1, [.int .i64 0]), (1, [.int .i64 0]), (1, [.int .i64 0]), (1, [.int .i64 0]), (1, [.bool false])] := ⟨by kernel_rfl, FOk.one1 rfl (FOk.one1 rfl (FOk.one1 rfl (FOk.one1 rfl (FOk.one1 rfl (FOk.one1 rfl (FOk.one1 rfl (FOk.one1 rfl (FOk.one1 rfl (FOk.one1 rfl (FOk.nil))))))))))⟩
instance : TyI Tryd.prog 48 false 1 := ⟨by kernel_rfl, by kernel_rfl⟩
instance : ZeroI Tryd.prog 48 [(1, [.map none])] := ⟨by kernel_rfl, FOk.one1 rfl (FOk.nil)⟩
instance : TyI Tryd.prog 49 false 1 := ⟨by kernel_rfl, by kernel_rfl⟩
instance : ZeroI Tryd.prog 49 [(1, [.map none])] := ⟨by kernel_rfl, FOk.one1 rfl (FOk.nil)⟩
instance : TyI Tryd.prog 50 false 1 := ⟨by kernel_rfl, by kernel_rfl⟩
instance : ZeroI Tryd.prog 50 [(1, [.map none])] := ⟨by kernel_rfl, FOk.one1 rfl (FOk.nil)⟩
instance : TyI Tryd.prog 51 true 3 := ⟨by kernel_rfl, by kernel_rfl⟩
instance : FldI Tryd.prog 51 0 0 := ⟨by kernel_rfl⟩
instance : FldI Tryd.prog 51 1 1 := ⟨by kernel_rfl⟩
instance : FldI Tryd.prog 51 2 2 := ⟨by kernel_rfl⟩
instance : StrI Tryd.prog 51 [(0, 1), (1, 1), (2, 1)] := ⟨by kernel_rfl⟩
instance : ZeroI Tryd.prog 51 [(1, [.map none]), (1, [.map none]), (1, [.map none])] := ⟨by kernel_rfl, FOk.one1 rfl (FOk.one1 rfl (FOk.one1 rfl (FOk.nil)))⟩
instance : TyI Tryd.prog 52 true 3 := ⟨by kernel_rfl, by kernel_rfl⟩
instance : FldI Tryd.prog 52 0 0 := ⟨by kernel_rfl⟩
instance : FldI Tryd.prog 52 1 1 := ⟨by kernel_rfl⟩
instance : FldI Tryd.prog 52 2 2 := ⟨by kernel_rfl⟩
instance : StrI Tryd.prog 52 [(0, 1), (1, 1), (2, 1)] := ⟨by kernel_rfl⟩
instance : ZeroI Tryd.prog 52 [(1, [.map none]), (1, [.map none]), (1, [.map none])] := ⟨by kernel_rfl, FOk.one1 rfl (FOk.one1 rfl (FOk.one1 rfl (FOk.nil)))⟩
instance : TyI Tryd.prog 55 true 2 := ⟨by kernel_rfl, by kernel_rfl⟩
instance : FldI Tryd.prog 55 0 0 := ⟨by kernel_rfl⟩
instance : FldI Tryd.prog 55 1 1 := ⟨by kernel_rfl⟩
instance : StrI Tryd.prog 55 [(0, 1), (1, 1)] := ⟨by kernel_rfl⟩
instance : EqI Tryd.prog 55 [some .i64, some .i64] := ⟨⟨aggTy, by kernel_rfl, by kernel_rfl, by kernel_rfl⟩⟩
instance : ZeroI Tryd.prog 55 [(1, [.int .i64 0]), (1, [.int .i64 0])] := ⟨by kernel_rfl, FOk.one1 rfl (FOk.one1 rfl (FOk.nil))⟩
instance : TyI Tryd.prog 56 true 2 := ⟨by kernel_rfl, by kernel_rfl⟩
instance : FldI Tryd.prog 56 0 0 := ⟨by kernel_rfl⟩
instance : FldI Tryd.prog 56 1 1 := ⟨by kernel_rfl⟩
instance : StrI Tryd.prog 56 [(0, 1), (1, 1)] := ⟨by kernel_rfl⟩
instance : EqI Tryd.prog 56 [some .i64, some .i64] := ⟨⟨aggTy, by kernel_rfl, by kernel_rfl, by kernel_rfl⟩⟩
instance : ZeroI Tryd.prog 56 [(1, [.int .i64 0]), (1, [.int .i64 0])] := ⟨by kernel_rfl, FOk.one1 rfl (FOk.one1 rfl (FOk.nil))⟩
instance : TyI Tryd.prog 57 true 2 := ⟨by kernel_rfl, by kernel_rfl⟩
instance : FldI Tryd.prog 57 0 0 := ⟨by kernel_rfl⟩
instance : FldI Tryd.prog 57 1 1 := ⟨by kernel_rfl⟩
instance : StrI Tryd.prog 57 [(0, 1), (1, 1)] := ⟨by kernel_rfl⟩
instance : EqI Tryd.prog 57 [some .i64, some .i64] := ⟨⟨aggTy, by kernel_rfl, by kernel_rfl, by kernel_rfl⟩⟩
instance : ZeroI Tryd.prog 57 [(1, [.int .i64 0]), (1, [.int .i64 0])] := ⟨by kernel_rfl, FOk.one1 rfl (FOk.one1 rfl (FOk.nil))⟩
instance : TyI Tryd.prog 58 true 2 := ⟨by kernel_rfl, by kernel_rfl⟩
instance : FldI Tryd.prog 58 0 0 := ⟨by kernel_rfl⟩
instance : FldI Tryd.prog 58 1 1 := ⟨by kernel_rfl⟩
instance : StrI Tryd.prog 58 [(0, 1), (1, 1)] := ⟨by kernel_rfl⟩
instance : EqI Tryd.prog 58 [some .i64, some .i64] := ⟨⟨aggTy, by kernel_rfl, by kernel_rfl, by kernel_rfl⟩⟩
instance : ZeroI Tryd.prog 58 [(1, [.int .i64 0]), (1, [.int .i64 0])] := ⟨by kernel_rfl, FOk.one1 rfl (FOk.one1 rfl (FOk.nil))⟩
instance : TyI Tryd.prog 66 false 1 := ⟨by kernel_rfl, by kernel_rfl⟩
instance : ZeroI Tryd.prog 66 [(1, [.pointer none])] := ⟨by kernel_rfl, FOk.one1 rfl (FOk.nil)⟩
instance : TyI Tryd.prog 67 true 2 := ⟨by kernel_rfl, by kernel_rfl⟩
instance : FldI Tryd.prog 67 0 0 := ⟨by kernel_rfl⟩
instance : FldI Tryd.prog 67 1 1 := ⟨by kernel_rfl⟩
instance : StrI Tryd.prog 67 [(0, 1), (1, 1)] := ⟨by kernel_rfl⟩
instance : ZeroI Tryd.prog 67 [(1, [.pointer none]), (1, [.slice none 0 0])] := ⟨by kernel_rfl, FOk.one1 rfl (FOk.one1 rfl (FOk.nil))⟩
instance : TyI Tryd.prog 68 true 2 := ⟨by kernel_rfl, by kernel_rfl⟩
instance : FldI Tryd.prog 68 0 0 := ⟨by kernel_rfl⟩
instance : FldI Tryd.prog 68 1 1 := ⟨by kernel_rfl⟩
instance : StrI Tryd.prog 68 [(0, 1), (1, 1)] := ⟨by kernel_rfl⟩
instance : ZeroI Tryd.prog 68 [(1, [.pointer none]), (1, [.slice none 0 0])] := ⟨by kernel_rfl, FOk.one1 rfl (FOk.one1 rfl (FOk.nil))⟩
instance : TyI Tryd.prog 69 true 2 := ⟨by kernel_rfl, by kernel_rfl⟩
instance : FldI Tryd.prog 69 0 0 := ⟨by kernel_rfl⟩
instance : StrI Tryd.prog 69 [(0, 2)] := ⟨by kernel_rfl⟩
instance : ZeroI Tryd.prog 69 [(1, [.pointer none]), (1, [.slice none 0 0])] := ⟨by kernel_rfl, FOk.one1 rfl (FOk.one1 rfl (FOk.nil))⟩
instance : TyI Tryd.prog 70 true 2 := ⟨by kernel_rfl, by kernel_rfl⟩
instance : FldI Tryd.prog 70 0 0 := ⟨by kernel_rfl⟩
instance : StrI Tryd.prog 70 [(0, 2)] := ⟨by kernel_rfl⟩
instance : ZeroI Tryd.prog 70 [(1, [.pointer none]), (1, [.slice none 0 0])] := ⟨by kernel_rfl, FOk.one1 rfl (FOk.one1 rfl (FOk.nil))⟩
instance : TyI Tryd.prog 72 false 1 := ⟨by kernel_rfl, by kernel_rfl⟩
instance : SliI Tryd.prog 72 3 := ⟨by kernel_rfl⟩
instance : ZeroI Tryd.prog 72 [(1, [.slice none 0 0])] := ⟨by kernel_rfl, FOk.one1 rfl (FOk.nil)⟩
instance : TyI Tryd.prog 74 false 1 := ⟨by kernel_rfl, by kernel_rfl⟩
instance : SliI Tryd.prog 74 9 := ⟨by kernel_rfl⟩
instance : ZeroI Tryd.prog 74 [(1, [.slice none 0 0])] := ⟨by kernel_rfl, FOk.one1 rfl (FOk.nil)⟩
instance : TyI Tryd.prog 83 false 1 := ⟨by kernel_rfl, by kernel_rfl⟩
instance : ZeroI Tryd.prog 83 [(1, [.pointer none])] := ⟨by kernel_rfl, FOk.one1 rfl (FOk.nil)⟩
instance : TyI Tryd.prog 93 false 1 := ⟨by kernel_rfl, by kernel_rfl⟩
instance : ZeroI Tryd.prog 93 [(1, [.pointer none])] := ⟨by kernel_rfl, FOk.one1 rfl (FOk.nil)⟩
instance : TyI Tryd.prog 96 false 1 := ⟨by kernel_rfl, by kernel_rfl⟩
instance : IntI Tryd.prog 96 .u64 := ⟨by kernel_rfl⟩
instance : ZeroI Tryd.prog 96 [(1, [.int .u64 0])] := ⟨by kernel_rfl, FOk.one1 rfl (FOk.nil)⟩
instance : TyI Tryd.prog 99 false 1 := ⟨by kernel_rfl, by kernel_rfl⟩
instance : IntI Tryd.prog 99 .u64 := ⟨by kernel_rfl⟩
instance : ZeroI Tryd.prog 99 [(1, [.int .u64 0])] := ⟨by kernel_rfl, FOk.one1 rfl (FOk.nil)⟩
instance : TyI Tryd.prog 101 true 256 := ⟨by kernel_rfl, by kernel_rfl⟩
instance : ArrI Tryd.prog 101 256 5 := ⟨by kernel_rfl⟩
instance : ZeroI Tryd.prog 101 [(256, u8s (List.replicate 256 0))] := ⟨by kernel_rfl, FOk.bytes (by simp) (FOk.nil)⟩
instance : TyI Tryd.prog 105 false 1 := ⟨by kernel_rfl, by kernel_rfl⟩
instance : IntI Tryd.prog 105 .i64 := ⟨by kernel_rfl⟩
instance : ZeroI Tryd.prog 105 [(1, [.int .i64 0])] := ⟨by kernel_rfl, FOk.one1 rfl (FOk.nil)⟩
instance : TyI Tryd.prog 113 false 1 := ⟨by kernel_rfl, by kernel_rfl⟩
instance : IntI Tryd.prog 113 .u32 := ⟨by kernel_rfl⟩
instance : ZeroI Tryd.prog 113 [(1, [.int .u32 0])] := ⟨by kernel_rfl, FOk.one1 rfl (FOk.nil)⟩
instance : TyI Tryd.prog 120 false 1 := ⟨by kernel_rfl, by kernel_rfl⟩
instance : SliI Tryd.prog 120 122 := ⟨by kernel_rfl⟩
instance : ZeroI Tryd.prog 120 [(1, [.slice none 0 0])] := ⟨by kernel_rfl, FOk.one1 rfl (FOk.nil)⟩
instance : TyI Tryd.prog 121 true 2 := ⟨by kernel_rfl, by kernel_rfl⟩
instance : FldI Tryd.prog 121 0 0 := ⟨by kernel_rfl⟩
instance : FldI Tryd.prog 121 1 1 := ⟨by kernel_rfl⟩
instance : StrI Tryd.prog 121 [(0, 1), (1, 1)] := ⟨by kernel_rfl⟩
instance : EqI Tryd.prog 121 [some .i64, some .i64] := ⟨⟨aggTy, by kernel_rfl, by kernel_rfl, by kernel_rfl⟩⟩
instance : ZeroI Tryd.prog 121 [(1, [.int .i64 0]), (1, [.int .i64 0])] := ⟨by kernel_rfl, FOk.one1 rfl (FOk.one1 rfl (FOk.nil))⟩
instance : TyI Tryd.prog 122 true 2 := ⟨by kernel_rfl, by kernel_rfl⟩
instance : FldI Tryd.prog 122 0 0 := ⟨by kernel_rfl⟩
instance : FldI Tryd.prog 122 1 1 := ⟨by kernel_rfl⟩
instance : StrI Tryd.prog 122 [(0, 1), (1, 1)] := ⟨by kernel_rfl⟩
instance : EqI Tryd.prog 122 [some .i64, some .i64] := ⟨⟨aggTy, by kernel_rfl, by kernel_rfl, by kernel_rfl⟩⟩
instance : ZeroI Tryd.prog 122 [(1, [.int .i64 0]), (1, [.int .i64 0])] := ⟨by kernel_rfl, FOk.one1 rfl (FOk.one1 rfl (FOk.nil))⟩
instance : TyI Tryd.prog 124 false 1 := ⟨by kernel_rfl, by kernel_rfl⟩
instance : ZeroI Tryd.prog 124 [(1, [.pointer none])] := ⟨by kernel_rfl, FOk.one1 rfl (FOk.nil)⟩
instance : TyI Tryd.prog 125 false 1 := ⟨by kernel_rfl, by kernel_rfl⟩
instance : IntI Tryd.prog 125 .u64 := ⟨by kernel_rfl⟩
instance : ZeroI Tryd.prog 125 [(1, [.int .u64 0])] := ⟨by kernel_rfl, FOk.one1 rfl (FOk.nil)⟩
instance : TyI Tryd.prog 129 false 1 := ⟨by kernel_rfl, by kernel_rfl⟩
instance : ZeroI Tryd.prog 129 [(1, [.pointer none])] := ⟨by kernel_rfl, FOk.one1 rfl (FOk.nil)⟩
instance : TyI Tryd.prog 131 true 24 := ⟨by kernel_rfl, by kernel_rfl⟩
instance : ArrI Tryd.prog 131 24 5 := ⟨by kernel_rfl⟩
instance : EqI Tryd.prog 131 [some .u8, some .u8, some .u8, some .u8, some .u8, some .u8, some .u8, some .u8, some .u8, some .u8, some .u8, some .u8, some .u8, some .u8, some .u8, some .u8, some .u8, some .u8, some .u8, some .u8, some .u8, some .u8, some .u8, some .u8] := ⟨⟨aggTy, by kernel_rfl, by kernel_rfl, by kernel_rfl⟩⟩
instance : ZeroI Tryd.prog 131 [(24, u8s (List.replicate 24 0))] := ⟨by kernel_rfl, FOk.bytes (by simp) (FOk.nil)⟩
instance : TyI Tryd.prog 141 false 1 := ⟨by kernel_rfl, by kernel_rfl⟩
instance : SliI Tryd.prog 141 147 := ⟨by kernel_rfl⟩
instance : ZeroI Tryd.prog 141 [(1, [.slice none 0 0])] := ⟨by kernel_rfl, FOk.one1 rfl (FOk.nil)⟩
instance : TyI Tryd.prog 142 false 1 := ⟨by kernel_rfl, by kernel_rfl⟩
instance : SliI Tryd.prog 142 150 := ⟨by kernel_rfl⟩
instance : ZeroI Tryd.prog 142 [(1, [.slice none 0 0])] := ⟨by kernel_rfl, FOk.one1 rfl (FOk.nil)⟩
instance : TyI Tryd.prog 143 true 3 := ⟨by kernel_rfl, by kernel_rfl⟩
instance : FldI Tryd.prog 143 0 0 := ⟨by kernel_rfl⟩
instance : FldI Tryd.prog 143 1 1 := ⟨by kernel_rfl⟩
instance : FldI Tryd.prog 143 2 2 := ⟨by kernel_rfl⟩
instance : StrI Tryd.prog 143 [(0, 1), (1, 1), (2, 1)] := ⟨by kernel_rfl⟩
instance : ZeroI Tryd.prog 143 [(1, [.slice none 0 0]), (1, [.slice none 0 0]), (1, [.int .i64 0])] := ⟨by kernel_rfl, FOk.one1 rfl (FOk.one1 rfl (FOk.one1 rfl (FOk.nil)))⟩
instance : TyI Tryd.prog 144 true 3 := ⟨by kernel_rfl, by kernel_rfl⟩
instance : FldI Tryd.prog 144 0 0 := ⟨by kernel_rfl⟩
instance : FldI Tryd.prog 144 1 1 := ⟨by kernel_rfl⟩
instance : FldI Tryd.prog 144 2 2 := ⟨by kernel_rfl⟩
instance : StrI Tryd.prog 144 [(0, 1), (1, 1), (2, 1)] := ⟨by kernel_rfl⟩
instance : ZeroI Tryd.prog 144 [(1, [.slice none 0 0]), (1, [.slice none 0 0]), (1, [.int .i64 0])] := ⟨by kernel_rfl, FOk.one1 rfl (FOk.one1 rfl (FOk.one1 rfl (FOk.nil)))⟩
instance : TyI Tryd.prog 145 false 1 := ⟨by kernel_rfl, by kernel_rfl⟩
instance : IntI Tryd.prog 145 .u16 := ⟨by kernel_rfl⟩
instance : ZeroI Tryd.prog 145 [(1, [.int .u16 0])] := ⟨by kernel_rfl, FOk.one1 rfl (FOk.nil)⟩
instance : TyI Tryd.prog 146 true 3 := ⟨by kernel_rfl, by kernel_rfl⟩
instance : FldI Tryd.prog 146 0 0 := ⟨by kernel_rfl⟩
instance : FldI Tryd.prog 146 1 1 := ⟨by kernel_rfl⟩
instance : FldI Tryd.prog 146 2 2 := ⟨by kernel_rfl⟩
instance : StrI Tryd.prog 146 [(0, 1), (1, 1), (2, 1)] := ⟨by kernel_rfl⟩
instance : EqI Tryd.prog 146 [some .u16, some .u16, some .u16] := ⟨⟨aggTy, by kernel_rfl, by kernel_rfl, by kernel_rfl⟩⟩
instance : ZeroI Tryd.prog 146 [(1, [.int .u16 0]), (1, [.int .u16 0]), (1, [.int .u16 0])] := ⟨by kernel_rfl, FOk.one1 rfl (FOk.one1 rfl (FOk.one1 rfl (FOk.nil)))⟩
instance : TyI Tryd.prog 147 true 3 := ⟨by kernel_rfl, by kernel_rfl⟩
instance : FldI Tryd.prog 147 0 0 := ⟨by kernel_rfl⟩
instance : FldI Tryd.prog 147 1 1 := ⟨by kernel_rfl⟩
instance : FldI Tryd.prog 147 2 2 := ⟨by kernel_rfl⟩
instance : StrI Tryd.prog 147 [(0, 1), (1, 1), (2, 1)] := ⟨by kernel_rfl⟩
instance : EqI Tryd.prog 147 [some .u16, some .u16, some .u16] := ⟨⟨aggTy, by kernel_rfl, by kernel_rfl, by kernel_rfl⟩⟩
instance : ZeroI Tryd.prog 147 [(1, [.int .u16 0]), (1, [.int .u16 0]), (1, [.int .u16 0])] := ⟨by kernel_rfl, FOk.one1 rfl (FOk.one1 rfl (FOk.one1 rfl (FOk.nil)))⟩
instance : TyI Tryd.prog 149 true 3 := ⟨by kernel_rfl, by kernel_rfl⟩
instance : FldI Tryd.prog 149 0 0 := ⟨by kernel_rfl⟩
instance : FldI Tryd.prog 149 1 1 := ⟨by kernel_rfl⟩
instance : FldI Tryd.prog 149 2 2 := ⟨by kernel_rfl⟩
instance : StrI Tryd.prog 149 [(0, 1), (1, 1), (2, 1)] := ⟨by kernel_rfl⟩
instance : EqI Tryd.prog 149 [some .u32, some .u32, some .u32] := ⟨⟨aggTy, by kernel_rfl, by kernel_rfl, by kernel_rfl⟩⟩
instance : ZeroI Tryd.prog 149 [(1, [.int .u32 0]), (1, [.int .u32 0]), (1, [.int .u32 0])] := ⟨by kernel_rfl, FOk.one1 rfl (FOk.one1 rfl (FOk.one1 rfl (FOk.nil)))⟩
instance : TyI Tryd.prog 150 true 3 := ⟨by kernel_rfl, by kernel_rfl⟩
instance : FldI Tryd.prog 150 0 0 := ⟨by kernel_rfl⟩
instance : FldI Tryd.prog 150 1 1 := ⟨by kernel_rfl⟩
instance : FldI Tryd.prog 150 2 2 := ⟨by kernel_rfl⟩
instance : StrI Tryd.prog 150 [(0, 1), (1, 1), (2, 1)] := ⟨by kernel_rfl⟩
instance : EqI Tryd.prog 150 [some .u32, some .u32, some .u32] := ⟨⟨aggTy, by kernel_rfl, by kernel_rfl, by kernel_rfl⟩⟩
instance : ZeroI Tryd.prog 150 [(1, [.int .u32 0]), (1, [.int .u32 0]), (1, [.int .u32 0])] := ⟨by kernel_rfl, FOk.one1 rfl (FOk.one1 rfl (FOk.one1 rfl (FOk.nil)))⟩
instance : TyI Tryd.prog 152 false 1 := ⟨by kernel_rfl, by kernel_rfl⟩
instance : ZeroI Tryd.prog 152 [(1, [.pointer none])] := ⟨by kernel_rfl, FOk.one1 rfl (FOk.nil)⟩
instance : TyI Tryd.prog 156 true 20 := ⟨by kernel_rfl, by kernel_rfl⟩
instance : ArrI Tryd.prog 156 20 99 := ⟨by kernel_rfl⟩
instance : EqI Tryd.prog 156 [some .u64, some .u64, some .u64, some .u64, some .u64, some .u64, some .u64, some .u64, some .u64, some .u64, some .u64, some .u64, some .u64, some .u64, some .u64, some .u64, some .u64, some .u64, some .u64, some .u64] := ⟨⟨aggTy, by kernel_rfl, by kernel_rfl, by kernel_rfl⟩⟩
instance : ZeroI Tryd.prog 156 [(20, List.replicate 20 (.int .u64 0))] := ⟨by kernel_rfl, FOk.seg (by simp) (fun v h => by rw [List.eq_of_mem_replicate h]; rfl) (FOk.nil)⟩
instance : TyI Tryd.prog 157 true 65 := ⟨by kernel_rfl, by kernel_rfl⟩
instance : ArrI Tryd.prog 157 65 5 := ⟨by kernel_rfl⟩
instance : EqI Tryd.prog 157 [some .u8, some .u8, some .u8, some .u8, some .u8, some .u8, some .u8, some .u8, some .u8, some .u8, some .u8, some .u8, some .u8, some .u8, some .u8, some .u8, some .u8, some .u8, some .u8, some .u8, some .u8, some .u8, some .u8, some .u8, some .u8, some .u8, some .u8, some .u8, some .u8, some .u8, some .u8, some .u8, some .u8, some .u8, some .u8, some .u8, some .u8, some .u8, some .u8, some .u8, some .u8, some .u8, some .u8, some .u8, some .u8, some .u8, some .u8, some .u8, some .u8, some .u8, some .u8, some .u8, some .u8, some .u8, some .u8, some .u8, some .u8, some .u8, some .u8, some .u8, some .u8, some .u8, some .u8, some .u8, some .u8] := ⟨⟨aggTy, by kernel_rfl, by kernel_rfl, by kernel_rfl⟩⟩
instance : ZeroI Tryd.prog 157 [(65, u8s (List.replicate 65 0))] := ⟨by kernel_rfl, FOk.bytes (by simp) (FOk.nil)⟩
instance : TyI Tryd.prog 160 false 1 := ⟨by kernel_rfl, by kernel_rfl⟩
instance : ZeroI Tryd.prog 160 [(1, [.pointer none])] := ⟨by kernel_rfl, FOk.one1 rfl (FOk.nil)⟩
instance : TyI Tryd.prog 161 false 1 := ⟨by kernel_rfl, by kernel_rfl⟩
instance : ZeroI Tryd.prog 161 [(1, [.pointer none])] := ⟨by kernel_rfl, FOk.one1 rfl (FOk.nil)⟩
instance : TyI Tryd.prog 163 true 32 := ⟨by kernel_rfl, by kernel_rfl⟩
instance : ArrI Tryd.prog 163 32 5 := ⟨by kernel_rfl⟩
instance : EqI Tryd.prog 163 [some .u8, some .u8, some .u8, some .u8, some .u8, some .u8, some .u8, some .u8, some .u8, some .u8, some .u8, some .u8, some .u8, some .u8, some .u8, some .u8, some .u8, some .u8, some .u8, some .u8, some .u8, some .u8, some .u8, some .u8, some .u8, some .u8, some .u8, some .u8, some .u8, some .u8, some .u8, some .u8] := ⟨⟨aggTy, by kernel_rfl, by kernel_rfl, by kernel_rfl⟩⟩
instance : ZeroI Tryd.prog 163 [(32, u8s (List.replicate 32 0))] := ⟨by kernel_rfl, FOk.bytes (by simp) (FOk.nil)⟩
instance : TyI Tryd.prog 164 true 64 := ⟨by kernel_rfl, by kernel_rfl⟩
instance : ArrI Tryd.prog 164 64 5 := ⟨by kernel_rfl⟩
instance : EqI Tryd.prog 164 [some .u8, some .u8, some .u8, some .u8, some .u8, some .u8, some .u8, some .u8, some .u8, some .u8, some .u8, some .u8, some .u8, some .u8, some .u8, some .u8, some .u8, some .u8, some .u8, some .u8, some .u8, some .u8, some .u8, some .u8, some .u8, some .u8, some .u8, some .u8, some .u8, some .u8, some .u8, some .u8, some .u8, some .u8, some .u8, some .u8, some .u8, some .u8, some .u8, some .u8, some .u8, some .u8, some .u8, some .u8, some .u8, some .u8, some .u8, some .u8, some .u8, some .u8, some .u8, some .u8, some .u8, some .u8, some .u8, some .u8, some .u8, some .u8, some .u8, some .u8, some .u8, some .u8, some .u8, some .u8] := ⟨⟨aggTy, by kernel_rfl, by kernel_rfl, by kernel_rfl⟩⟩
instance : ZeroI Tryd.prog 164 [(64, u8s (List.replicate 64 0))] := ⟨by kernel_rfl, FOk.bytes (by simp) (FOk.nil)⟩
end Go.Proofs.YtagedgcdonodfaaDoor
/- Maps of keys of integers and bools: that they are such; what stands in them. -/
namespace Go.Proofs.YtagedgcdonodfaaDoor
open Go.RowKit
set_option linter.unusedSimpArgs false
set_option linter.unusedVariables false

def in64 (n : Int) : Prop := -9223372036854775808 ≤ n ∧ n ≤ 9223372036854775807
theorem in64_wf {n : Int} (h : in64 n) : inR (.int .i64 n) := by
  unfold inR in64 at *
  simp [Lit.wf, IntKind.min, IntKind.max, IntKind.signed, IntKind.bits]
  omega
theorem run_zero {P : Program} {T : TypeId} {z : Value} (h : (P.info? T).bind (·.zero) = some z) (w : World) : (zeroValue T).run P w = .ok z w := by
  cases hi : P.info? T with
  | none => rw [hi] at h; cases h
  | some i =>
    rw [hi] at h
    simp only [Option.bind_some] at h
    simp [zeroValue, typeInfo, hi, h, Sem.run_bind]
theorem mapI_of {K V : Type} {P : Program} {T kT eT : TypeId} {ks : List (Option IntKind)} {M : MK K V} (kc : K → Ch) (hM : ∀ k, M.kc k = ag (kc k)) (hu : P.underlying T = some (.map kT eT)) (hE : EqI P kT ks) (hkt : P.keyType kT = true) (hsz : Nat.ble 8 (P.types.size + 1) = true) (hc : P.cellsOf kT = ks.length) (hl : laidOutB P = true) (hrow : kT < P.types.size) (hka : P.keyTypeAt 5 kT = true)
    (hw : (match P.underlying kT with | some (.array _ _) | some (.struct _) => true | _ => false) = true) (hs : ∀ k, M.wf k → Shp ks (flat (kc k)) ∧ ∀ v ∈ flat (kc k), inR v) (hz : (P.info? eT).bind (·.zero) = some (M.vc M.v0)) (hi : ∀ a b, flat (kc a) = flat (kc b) → a = b) : MapI P T M where
  law := ⟨kT, eT, hu, .of_law (deep_law_laid hl (m := 5) (by omega) hrow hka hw), fun k hk => by
    rw [hM]
    exact keyOf_shp hE.ty hkt (Nat.le_of_ble_eq_true hsz) hc (hs k hk).1 (hs k hk).2, fun w => run_zero hz w⟩
  inj := fun a b h => by
    rw [hM, hM] at h
    unfold ag at h
    apply hi
    simpa using h
theorem flatten_at {α : Type} {sz : Nat} : ∀ {l : List (List α)} {i o : Nat}, (∀ x ∈ l, x.length = sz) → o < sz → l.flatten[i * sz + o]? = (l[i]?).bind (fun x => x[o]?)
  | [], i, o, _, _ => by simp
  | x :: l, i, o, h, ho => by
    have hx := h x (List.mem_cons_self ..)
    cases i with
    | zero => rw [List.flatten_cons, Nat.zero_mul, Nat.zero_add, List.getElem?_append_left (by omega)]; simp
    | succ i =>
      rw [List.flatten_cons, List.getElem?_append_right (by rw [Nat.succ_mul]; omega), show (i + 1) * sz + o - x.length = i * sz + o by rw [Nat.succ_mul]; omega]
      rw [flatten_at (fun y hy => h y (List.mem_cons_of_mem _ hy)) ho]
      simp
theorem flatten_len {α : Type} {sz : Nat} : ∀ {l : List (List α)}, (∀ x ∈ l, x.length = sz) → l.flatten.length = l.length * sz
  | [], _ => by simp
  | x :: l, h => by
    rw [List.flatten_cons, List.length_append, h x (List.mem_cons_self ..), flatten_len fun y hy => h y (List.mem_cons_of_mem _ hy), List.length_cons, Nat.succ_mul]
    omega
theorem rows_at {α : Type} {c : α → Ch} {sz : Nat} {l : List α} {i o : Nat} {x : α} {u : Value} (hc : ∀ x, (flat (c x)).length = sz) (hx : l[i]? = some x) (ho : o < sz) (hu : (flat (c x))[o]? = some u) : (l.map fun x => flat (c x)).flatten[i * sz + o]? = some u := by
  rw [flatten_at (by intro y hy; obtain ⟨z, _, rfl⟩ := List.mem_map.1 hy; exact hc z) ho, List.getElem?_map, hx]
  exact hu
theorem rows_len {α : Type} {c : α → Ch} {sz : Nat} {l : List α} (hc : ∀ x, (flat (c x)).length = sz) : (l.map fun x => flat (c x)).flatten.length = l.length * sz := by
  rw [flatten_len (sz := sz) (by intro y hy; obtain ⟨z, _, rfl⟩ := List.mem_map.1 hy; exact hc z), List.length_map]
section
variable {P : Program} {n : Nat} {Γ : List Asn} {F : List (Nat × Value)} {ops : Array Oper} {eats : List (Nat × Nat)} {K : Prev → Prop} {j : Nat} {os : List Oper} {o : Oper} {D bad : List Nat} {Ds : List (List Nat × List Nat)} {prev : Prev}
/-- In a drawn region: what gives a value, and turns several. -/
theorem RGl.turns {c : Env → Value} {Γ1 Γ2 : Env → List Asn} (h : ∀ e, oksR D e prev → OpT P n (ensR eats D j e prev ++ Γ) (bndR D e prev ++ fcutR bad F) o (Γ1 e) (RTurns (c e) (Γ2 e)))
    (k : RGl P n Γ F ops eats K (j + 1) os Ds ((j, o.dst, ⟨fun e _ => c e, fun e _ => Γ2 e, fun _ _ => True⟩) :: prev)) (hs : ∀ e, ∀ A, A ∈ Γ1 e → A ∈ eaten1R eats j e prev := by intro e A hA; first | exact hA | simpa [eaten1R, psp, or_comm] using hA) (hw : ∀ e, wantG (bndR D e prev ++ fcutR bad F) ops o.guard = some true := by intro e; first | rfl | fail) (hi : ∀ e, c (mask D e) = c e ∧ Γ2 (mask D e) = Γ2 e := by intro e; first | exact ⟨rfl, rfl⟩ | fail) :
    RGl P n Γ F ops eats K j (o :: os) ((D, bad) :: Ds) prev :=
  RGl.stepR (fun e he => .op (hw e) (h e he) (hs e) (by rintro v Γ' ⟨rfl, rfl⟩; exact ⟨rfl, rfl, trivial⟩)) (fun e _ => ⟨(hi e).1, (hi e).2, rfl⟩) k
theorem OpT.callTs {d : Option Tmp} {f : FuncId} {xs : List Operand} {ts : Array TypeId} {ty : TypeId} {pos : String} {af : Array Edge} {gd : Option (Nat × Bool)} {vs : List Value} {Γo Γf : List Asn} {R : Value → List Asn → Prop}
    (h : Triple P f vs.toArray Γo R) (hx : evFs F xs vs := by (try dsimp only [bndR, ensR, oksR, fcutR, List.append_nil, List.nil_append, List.cons_append, List.append_assoc]); exact evsA) (hp : Takes Γ Γo Γf := by (try dsimp only [bndR, ensR, oksR, fcutR, List.append_nil, List.nil_append, List.cons_append, List.append_assoc]); exact takesA) (hc : isCode P f = true := by kernel_rfl) : OpT P n Γ F ⟨d, .call { callee := .value (.func f), args := xs.toArray, argTypes := ts }, ty, pos, af, gd⟩ Γo R := by
  intro ρ w hf hw ha
  unfold DoesW
  rw [run_call hc, hx.map hf]
  refine (Triple.frame (Δ := []) (Γo := Γo) (Γf := Γf) h (fun A hA => hw A (hp.mem_iff.2 hA)) (apart_perm hp ha) .nil (fun A hA => by cases hA)).mono ?_
  rintro e w' ⟨v, Γ', he, hR, hp⟩
  exact ⟨v, he, Γ', hR, hp⟩
end
variable {K V : Type} [DecidableEq K]
theorem mfind_none_of {l : List (K × V)} {k : K} (h : mfind l k = none) : ∀ a ∈ l, a.1 ≠ k := by
  induction l with
  | nil => intro a ha; cases ha
  | cons b l ih =>
    unfold mfind at h
    split at h
    · cases h
    · rename_i hb
      intro a ha
      rcases List.mem_cons.1 ha with rfl | ha
      · exact hb
      · exact ih h a ha
theorem mfind_mem {l : List (K × V)} {k : K} {vd : V} (h : mfind l k = some vd) : (k, vd) ∈ l := by
  induction l with
  | nil => cases h
  | cons b l ih =>
    unfold mfind at h
    split at h
    · rename_i hb
      cases h
      rw [← hb]
      exact List.mem_cons_self ..
    · exact List.mem_cons_of_mem _ (ih h)
end Go.Proofs.YtagedgcdonodfaaDoor
/- Addresses, as they stand in cells. -/
namespace Go.Proofs.YtagedgcdonodfaaDoor
open Go.RowKit
set_option linter.unusedSimpArgs false
set_option linter.unusedVariables false

/-- An address. -/
structure Adr where
  six : Bool
  b : List UInt8
  len : b.length = 16
instance (a : Adr) : LenI a.b 16 := ⟨a.len⟩
abbrev adc (a : Adr) : Ch := [(1, [.bool a.six]), (16, u8s a.b)]
theorem Adr.ext {a c : Adr} (h : a.six = c.six) (k : a.b = c.b) : a = c := by cases a; cases c; simp_all
def Adr.bytes (a : Adr) : List UInt8 := if a.six then a.b else seg a.b 12 4
/-- The address of IPv4 of four bytes. -/
def Adr.of4 (l : List UInt8) (h : l.length = 4) : Adr := ⟨false, over (List.replicate 16 0) 12 l, by rw [over_length] <;> simp [h]⟩
def Adr.of6 (l : List UInt8) (h : l.length = 16) : Adr := ⟨true, l, h⟩
def Adr.zero : Adr := ⟨false, List.replicate 16 0, by simp⟩
def Adr.good (a : Adr) : Bool := a.six || decide (seg a.b 0 12 = List.replicate 12 0)

instance adrDec : DecidableEq Adr := fun a b => if h : a.six = b.six ∧ a.b = b.b then .isTrue (Adr.ext h.1 h.2) else .isFalse fun e => h ⟨e ▸ rfl, e ▸ rfl⟩
end Go.Proofs.YtagedgcdonodfaaDoor
/- (Without bytes.) What came in, opened: an argument's reading gives its shape (as separation tells it). -/
namespace Go.Proofs.YtagedgcdonodfaaDoor
open Go.ChangeShapes Go.WideShapes Go.ChangeAt Go.RowKit
set_option linter.unusedSimpArgs false
set_option linter.unusedVariables false

theorem Tryd.own : ownKnob Tryd.prog.godebug = none := by kernel_rfl
theorem Tryd.laidOut : laidOutB Tryd.prog = true := by kernel_rfl

section
variable {H : Type} {enc : TypeId × Value → H} {P : Program} {W : World} {base : Nat} {v : Value} {d : DataW H} {p : List MemPlace} {t : TypeId}

theorem open_i64 (ht : P.underlying t = some (.int .i64)) (hval : Value.okWide P W .any base t v) (h : DataW.Trod enc P W 0 (fun _ => true) true t v d p) :
    ∃ n : Int, v = .int .i64 n ∧ -9223372036854775808 ≤ n ∧ n ≤ 9223372036854775807 := by
  obtain ⟨n, rfl, _, _, hw⟩ := open_int ht hval h
  have := bounds_i64 hw
  exact ⟨n, rfl, by omega, by omega⟩

end

/-! ### Values that hold integers and bools alone -/

/-- Cells of given kinds (none: a bool). -/
def Fits : List (Option IntKind) → List Value → Prop
  | [], [] => True
  | none :: ks, v :: vs => (∃ b, v = .bool b) ∧ Fits ks vs
  | some k :: ks, v :: vs => (∃ n, v = .int k n ∧ (Lit.int k n).wf = true) ∧ Fits ks vs
  | _, _ => False

theorem Fits.append : ∀ {ks ks' : List (Option IntKind)} {vs vs' : List Value}, Fits ks vs → Fits ks' vs' → Fits (ks ++ ks') (vs ++ vs')
  | [], _, [], _, _, h => h
  | none :: _, _, _ :: _, _, h, h' => ⟨h.1, Fits.append h.2 h'⟩
  | some _ :: _, _, _ :: _, _, h, h' => ⟨h.1, Fits.append h.2 h'⟩
  | [], _, _ :: _, _, h, _ => h.elim
  | none :: _, _, [], _, h, _ => h.elim
  | some _ :: _, _, [], _, h, _ => h.elim

theorem Fits.length : ∀ {ks : List (Option IntKind)} {vs : List Value}, Fits ks vs → vs.length = ks.length
  | [], [], _ => rfl
  | none :: _, _ :: _, h => by simp [Fits.length h.2]
  | some _ :: _, _ :: _, h => by simp [Fits.length h.2]
  | [], _ :: _, h => h.elim
  | none :: _, [], h => h.elim
  | some _ :: _, [], h => h.elim

/-- The kinds of a type's cells, where it holds integers and bools alone. -/
def flatK (P : Program) : Nat → TypeId → Option (List (Option IntKind))
  | 0, _ => none
  | fuel + 1, t =>
    match P.underlying t with
    | some .bool => some [none]
    | some (.int k) => some [some k]
    | some (.struct fs) => (fs.toList.foldr (fun f acc => fun off => if f.offset = off then (flatK P fuel f.type).bind fun ks => if P.cellsOf f.type = ks.length then (acc (off + ks.length)).map (ks ++ ·) else none else none) (fun off => if P.cellsOf t = off then some [] else none)) 0
    | some (.array n e) => (flatK P fuel e).bind fun ks => if P.cellsOf e = ks.length ∧ P.cellsOf t = n * ks.length then some (List.replicate n ks).flatten else none
    | _ => none

theorem mapM_each {α β : Type} {f : α → Option β} : ∀ {l : List α} {r : List β}, l.mapM f = some r → ∀ x ∈ l, ∃ y, f x = some y
  | [], _, _, _, h => (by cases h)
  | a :: l, r, h, x, hx => by
    rw [List.mapM_cons] at h
    cases ha : f a with
    | none => rw [ha] at h; cases h
    | some y =>
      rw [ha] at h
      cases hl : l.mapM f with
      | none => rw [hl] at h; cases h
      | some ys =>
        rcases List.mem_cons.1 hx with rfl | hx
        · exact ⟨y, ha⟩
        · exact mapM_each hl x hx

section
variable {H : Type} {enc : TypeId × Value → H} {P : Program} {W : World}

theorem flat_fields {spare : Nat → Bool} {held : Bool} {base fuel f2 : Nat} (ih : ∀ t ks cs x, flatK P fuel t = some ks → DataW.trod enc P W base spare held f2 t cs = some x → Fits ks cs) (tot : Nat) (cs : List Value) :
    ∀ (fs : List Field) (off : Nat) (ks : List (Option IntKind)),
      (fs.foldr (fun f acc => fun off => if f.offset = off then (flatK P fuel f.type).bind fun ks => if P.cellsOf f.type = ks.length then (acc (off + ks.length)).map (ks ++ ·) else none else none) (fun off => if tot = off then some [] else none)) off = some ks →
      (∀ f ∈ fs, ∃ y, DataW.trod enc P W base spare held f2 f.type ((cs.drop f.offset).take (P.cellsOf f.type)) = some y) → cs.length = tot → Fits ks (cs.drop off)
  | [], off, ks, h, _, hl => by
    simp only [List.foldr_nil] at h
    split at h
    · cases h
      rw [List.drop_eq_nil_of_le (by omega)]
      trivial
    · cases h
  | f :: fs, off, ks, h, hall, hl => by
    simp only [List.foldr_cons] at h
    split at h
    · rename_i hoff
      cases hk : flatK P fuel f.type with
      | none => rw [hk] at h; cases h
      | some k1 =>
        rw [hk] at h
        simp only [Option.bind_some] at h
        split at h
        · rename_i hc
          rw [Option.map_eq_some_iff] at h
          obtain ⟨k2, h2, rfl⟩ := h
          obtain ⟨y, hy⟩ := hall f (List.mem_cons_self ..)
          have f1 := ih _ _ _ _ hk hy
          have r := flat_fields ih tot cs fs (off + k1.length) k2 h2 (fun g hg => hall g (List.mem_cons_of_mem _ hg)) hl
          rw [hoff, hc] at f1
          have e : cs.drop off = (cs.drop off).take k1.length ++ cs.drop (off + k1.length) := by
            rw [← List.drop_drop, List.take_append_drop]
          rw [e]
          exact f1.append r
        · cases h
    · cases h

theorem flat_cells {spare : Nat → Bool} {held : Bool} {base : Nat} : ∀ (fuel : Nat) (f2 : Nat) (t : TypeId) (ks : List (Option IntKind)) (cs : List Value) (x : DataW H × List MemPlace),
    flatK P fuel t = some ks → DataW.trod enc P W base spare held f2 t cs = some x → Fits ks cs
  | 0, _, _, _, _, _, h, _ => (by cases h)
  | fuel + 1, 0, _, _, _, _, _, h => (by cases h)
  | fuel + 1, f2 + 1, t, ks, cs, x, h, hx => by
    unfold flatK at h
    cases ht : P.underlying t with
    | none => rw [ht] at h; cases h
    | some d =>
      rw [ht] at h
      cases d with
      | bool =>
        cases h
        unfold DataW.trod at hx
        rw [ht] at hx
        split at hx <;> simp_all [Fits]
      | int k =>
        cases h
        obtain ⟨n, hc, _, hw⟩ := DataW.trod_int ht hx
        subst hc
        exact ⟨⟨n, rfl, hw⟩, trivial⟩
      | struct fs =>
        simp only at h
        unfold DataW.trod at hx
        rw [ht] at hx
        simp only at hx
        split at hx
        · rename_i hlen
          rw [Option.map_eq_some_iff] at hx
          obtain ⟨ys, hys, _⟩ := hx
          have := flat_fields (fun t ks cs x => flat_cells fuel f2 t ks cs x) (P.cellsOf t) cs fs.toList 0 ks h (fun f hf => mapM_each hys f hf) hlen
          simpa using this
        · cases hx
      | array n e =>
        simp only at h
        unfold DataW.trod at hx
        rw [ht] at hx
        simp only at hx
        split at hx
        · rename_i hlen
          rw [Option.map_eq_some_iff] at hx
          obtain ⟨ys, hys, _⟩ := hx
          cases hk : flatK P fuel e with
          | none => rw [hk] at h; cases h
          | some k1 =>
            rw [hk] at h
            simp only [Option.bind_some] at h
            split at h
            · rename_i hc
              cases h
              rw [hc.2] at hlen
              rw [hc.1] at hys
              have each : ∀ i, i < n → Fits k1 ((cs.drop (i * k1.length)).take k1.length) := by
                intro i hi
                obtain ⟨y, hy⟩ := mapM_each hys i (by simpa using hi)
                exact flat_cells fuel f2 _ _ _ _ hk hy
              have all : ∀ m, m ≤ n → Fits (List.replicate m k1).flatten (cs.take (m * k1.length)) := by
                intro m
                induction m with
                | zero => intro _; simp [Fits]
                | succ m ihm =>
                  intro hm
                  rw [List.replicate_succ', List.flatten_append, Nat.succ_mul, List.take_add]
                  refine (ihm (by omega)).append ?_
                  simpa using each m (by omega)
              have := all n (Nat.le_refl _)
              rwa [List.take_of_length_le (by omega)] at this
            · cases h
        · cases hx
      | _ => cases h

theorem Fits.split : ∀ {ks ks' : List (Option IntKind)} {vs : List Value}, Fits (ks ++ ks') vs → ∃ v1 v2, vs = v1 ++ v2 ∧ Fits ks v1 ∧ Fits ks' v2
  | [], _, vs, h => ⟨[], vs, rfl, trivial, h⟩
  | none :: ks, ks', v :: vs, h => by
    obtain ⟨v1, v2, rfl, h1, h2⟩ := Fits.split h.2
    exact ⟨v :: v1, v2, rfl, ⟨h.1, h1⟩, h2⟩
  | some k :: ks, ks', v :: vs, h => by
    obtain ⟨v1, v2, rfl, h1, h2⟩ := Fits.split h.2
    exact ⟨v :: v1, v2, rfl, ⟨h.1, h1⟩, h2⟩
  | none :: _, _, [], h => h.elim
  | some _ :: _, _, [], h => h.elim

/-- The kinds of an address's cells. -/
def adKinds : List (Option IntKind) := none :: List.replicate 16 (some .u8)
/-- The kinds of a flow's cells. -/
def flKinds : List (Option IntKind) := adKinds ++ (adKinds ++ [some .u16, some .u16, some .u8])

/-- Nothing old has turned. -/
def Ext (w w' : World) : Prop := Below w.heap.size w w'
/-- A law, out of its contract. -/
theorem law_of {f : FuncId} {args : Array Value} {c : Value} {Γ : List Asn} (h : Triple P f args Γ (RVal c)) (ho : ∀ A, A ∈ Γ → A.own = false) (hw : Holds Γ W) : Calls P f args W fun e W' => e = .returned c ∧ Ext W W' := by
  refine (h W hw ?_).mono ?_
  · clear hw h
    induction Γ with
    | nil => exact .nil
    | cons A Γ ih =>
      refine .cons (fun B hB hor => ?_) (ih fun B hB => ho B (List.mem_cons_of_mem _ hB))
      rw [ho A (List.mem_cons_self ..), ho B (List.mem_cons_of_mem _ hB)] at hor
      simp at hor
  · rintro e W' ⟨v, Γ', rfl, ⟨rfl, rfl⟩, hp⟩
    refine ⟨rfl, hp.mod.os, hp.mod.tape, hp.mod.output, hp.mod.size, fun g hg => hp.mod.block g hg ?_⟩
    rintro ⟨A, hA, hao, _⟩
    rw [ho A hA] at hao
    cases hao
theorem hold0 : Holds [] W := fun _ h => by cases h
theorem hold1 {A : Asn} {Γ : List Asn} (h : A.holds W) (k : Holds Γ W) : Holds (A :: Γ) W := fun B hB => by
  rcases List.mem_cons.1 hB with rfl | hB
  · exact h
  · exact k B hB

end

end Go.Proofs.YtagedgcdonodfaaDoor
/- Slices of structs of integers and bools that came in, opened. -/
namespace Go.Proofs.YtagedgcdonodfaaDoor
open Go.ChangeShapes Go.WideShapes Go.ChangeAt Go.RowKit
set_option linter.unusedSimpArgs false
set_option linter.unusedVariables false
section
variable {H : Type} {enc : TypeId × Value → H} {P : Program} {W : World}
theorem mapM_get {α β : Type} {f : α → Option β} : ∀ {l : List α} {r : List β}, l.mapM f = some r → r.length = l.length ∧ ∀ (j : Nat) (x : α), l[j]? = some x → f x = r[j]?
  | [], r, h => by
    simp only [List.mapM_nil, Option.pure_def, Option.some.injEq] at h
    subst h
    exact ⟨rfl, fun j x hx => by simp at hx⟩
  | a :: l, r, h => by
    rw [List.mapM_cons] at h
    cases ha : f a with
    | none => rw [ha] at h; cases h
    | some y =>
      rw [ha] at h
      cases hl : l.mapM f with
      | none => rw [hl] at h; cases h
      | some ys =>
        rw [hl] at h
        obtain rfl : y :: ys = r := by simpa using h
        obtain ⟨h1, h2⟩ := mapM_get hl
        refine ⟨by simp [h1], fun j x hx => ?_⟩
        cases j with
        | zero => simp at hx; subst hx; simpa using ha
        | succ j => simpa using h2 j x (by simpa using hx)
theorem cells_get {b0 : Nat} {a : Addr} {n : Nat} {cs : List Value} (h : W.cells? b0 a n = some cs) : cs.length = n ∧ ∀ j, j < n → W.cell? (a.add j) = cs[j]? := by
  unfold World.cells? at h
  split at h
  · obtain ⟨h1, h2⟩ := mapM_get h
    refine ⟨by simpa using h1, fun j hj => h2 j j ?_⟩
    rw [List.getElem?_range hj]
  · cases h
theorem list_of {α β : Type} {c : α → β} {p : α → Prop} : ∀ {l : List β}, (∀ x ∈ l, ∃ y, x = c y ∧ p y) → ∃ r : List α, l = r.map c ∧ ∀ y ∈ r, p y
  | [], _ => ⟨[], rfl, by simp⟩
  | x :: l, h => by
    obtain ⟨y, rfl, hy⟩ := h x (List.mem_cons_self ..)
    obtain ⟨r, rfl, hr⟩ := list_of fun z hz => h z (List.mem_cons_of_mem _ hz)
    exact ⟨y :: r, rfl, fun z hz => by
      rcases List.mem_cons.1 hz with rfl | hz
      · exact hy
      · exact hr z hz⟩
end
end Go.Proofs.YtagedgcdonodfaaDoor
/- What came in and holds slices of integers within, opened. -/
namespace Go.Proofs.YtagedgcdonodfaaDoor
open Go.ChangeShapes Go.WideShapes Go.ChangeAt Go.RowKit
set_option linter.unusedSimpArgs false
set_option linter.unusedVariables false
/-- The kind of a cell: a bool, an integer, or a slice of integers. -/
inductive KV where
  | k (o : Option IntKind)
  | s (k : IntKind)
def FitsV (W : World) : List KV → List Value → Prop
  | [], [] => True
  | .k none :: ks, v :: vs => (∃ b, v = .bool b) ∧ FitsV W ks vs
  | .k (some k) :: ks, v :: vs => (∃ n, v = .int k n ∧ (Lit.int k n).wf = true) ∧ FitsV W ks vs
  | .s k :: ks, v :: vs => (∃ xs : List Int, (rdN v xs.length (xs.map (Value.int k))).holds W ∧ ∀ n ∈ xs, (Lit.int k n).wf = true) ∧ FitsV W ks vs
  | _, _ => False
theorem FitsV.append {W : World} : ∀ {ks ks' : List KV} {vs vs' : List Value}, FitsV W ks vs → FitsV W ks' vs' → FitsV W (ks ++ ks') (vs ++ vs')
  | [], _, [], _, _, h => h
  | .k none :: _, _, _ :: _, _, h, h' => ⟨h.1, FitsV.append h.2 h'⟩
  | .k (some _) :: _, _, _ :: _, _, h, h' => ⟨h.1, FitsV.append h.2 h'⟩
  | .s _ :: _, _, _ :: _, _, h, h' => ⟨h.1, FitsV.append h.2 h'⟩
  | [], _, _ :: _, _, h, _ => h.elim
  | .k none :: _, _, [], _, h, _ => h.elim
  | .k (some _) :: _, _, [], _, h, _ => h.elim
  | .s _ :: _, _, [], _, h, _ => h.elim
theorem FitsV.length {W : World} : ∀ {ks : List KV} {vs : List Value}, FitsV W ks vs → vs.length = ks.length
  | [], [], _ => rfl
  | .k none :: _, _ :: _, h => by simp [FitsV.length h.2]
  | .k (some _) :: _, _ :: _, h => by simp [FitsV.length h.2]
  | .s _ :: _, _ :: _, h => by simp [FitsV.length h.2]
  | [], _ :: _, h => h.elim
  | .k none :: _, [], h => h.elim
  | .k (some _) :: _, [], h => h.elim
  | .s _ :: _, [], h => h.elim
theorem FitsV.of {W : World} : ∀ {ks : List (Option IntKind)} {vs : List Value}, Fits ks vs → FitsV W (ks.map KV.k) vs
  | [], [], _ => trivial
  | none :: _, _ :: _, h => ⟨h.1, FitsV.of h.2⟩
  | some _ :: _, _ :: _, h => ⟨h.1, FitsV.of h.2⟩
  | [], _ :: _, h => h.elim
  | none :: _, [], h => h.elim
  | some _ :: _, [], h => h.elim
def flatV (P : Program) : Nat → TypeId → Option (List KV)
  | 0, _ => none
  | fuel + 1, t =>
    match P.underlying t with
    | some (.struct fs) => (fs.toList.foldr (fun f acc => fun off => if f.offset = off then (flatV P fuel f.type).bind fun ks => if P.cellsOf f.type = ks.length then (acc (off + ks.length)).map (ks ++ ·) else none else none) (fun off => if P.cellsOf t = off then some [] else none)) 0
    | some (.slice e) => match P.underlying e with
      | some (.int k) => if P.cellsOf e = 1 then some [.s k] else none
      | _ => none
    | _ => (flatK P (fuel + 1) t).map (List.map KV.k)
section
variable {H : Type} {enc : TypeId × Value → H} {P : Program} {W : World}
theorem flatV_fields {spare : Nat → Bool} {held : Bool} {base fuel f2 : Nat} (ih : ∀ t ks cs x, flatV P fuel t = some ks → DataW.trod enc P W base spare held f2 t cs = some x → FitsV W ks cs) (tot : Nat) (cs : List Value) :
    ∀ (fs : List Field) (off : Nat) (ks : List KV),
      (fs.foldr (fun f acc => fun off => if f.offset = off then (flatV P fuel f.type).bind fun ks => if P.cellsOf f.type = ks.length then (acc (off + ks.length)).map (ks ++ ·) else none else none) (fun off => if tot = off then some [] else none)) off = some ks →
      (∀ f ∈ fs, ∃ y, DataW.trod enc P W base spare held f2 f.type ((cs.drop f.offset).take (P.cellsOf f.type)) = some y) → cs.length = tot → FitsV W ks (cs.drop off)
  | [], off, ks, h, _, hl => by
    simp only [List.foldr_nil] at h
    split at h
    · cases h
      rw [List.drop_eq_nil_of_le (by omega)]
      trivial
    · cases h
  | f :: fs, off, ks, h, hall, hl => by
    simp only [List.foldr_cons] at h
    split at h
    · rename_i hoff
      cases hk : flatV P fuel f.type with
      | none => rw [hk] at h; cases h
      | some k1 =>
        rw [hk] at h
        simp only [Option.bind_some] at h
        split at h
        · rename_i hc
          rw [Option.map_eq_some_iff] at h
          obtain ⟨k2, h2, rfl⟩ := h
          obtain ⟨y, hy⟩ := hall f (List.mem_cons_self ..)
          have f1 := ih _ _ _ _ hk hy
          have r := flatV_fields ih tot cs fs (off + k1.length) k2 h2 (fun g hg => hall g (List.mem_cons_of_mem _ hg)) hl
          rw [hoff, hc] at f1
          have e : cs.drop off = (cs.drop off).take k1.length ++ cs.drop (off + k1.length) := by
            rw [← List.drop_drop, List.take_append_drop]
          rw [e]
          exact f1.append r
        · cases h
    · cases h
theorem flatV_ints {spare : Nat → Bool} {held : Bool} {f2 : Nat} {t e : TypeId} {k : IntKind} {cs : List Value} {x : DataW H × List MemPlace} (ht : P.underlying t = some (.slice e)) (he : P.underlying e = some (.int k)) (hc : P.cellsOf e = 1) (h : DataW.trod enc P W 0 spare held f2 t cs = some x) :
    ∃ v, cs = [v] ∧ ∃ xs : List Int, (rdN v xs.length (xs.map (Value.int k))).holds W ∧ ∀ n ∈ xs, (Lit.int k n).wf = true := by
  rcases DataW.trod_slice ht h with ⟨rfl, _⟩ | ⟨a, len, cap, elems, rest, n, _, rfl, _, hb, hl, hm, hlen, hel, _⟩
  · exact ⟨_, rfl, [], .inl ⟨rfl, rfl, rfl⟩, by simp⟩
  · have hex : ∀ i, i < len → ∃ m : Int, W.cell? (a.add i) = some (.int k m) ∧ (Lit.int k m).wf = true := by
      intro i hi
      have h1 := hel i hi
      rw [hc, Nat.mul_one, List.getElem?_eq_getElem (by omega), Option.bind_eq_some_iff] at h1
      obtain ⟨cs, h2, h3⟩ := h1
      obtain ⟨m, hm2, _, hw⟩ := DataW.trod_int he h3
      subst hm2
      have h4 := (cells_get h2).2 0 (by omega)
      rw [add_add, Nat.add_zero] at h4
      exact ⟨m, h4, hw⟩
    obtain ⟨xs, h1, h2⟩ : ∃ xs : List Int, xs.length = len ∧ ∀ i, i < len → ∃ m, xs[i]? = some m ∧ W.cell? (a.add i) = some (.int k m) ∧ (Lit.int k m).wf = true := by
      refine ⟨(List.range len).map fun i => if hi : i < len then (hex i hi).choose else 0, by simp, fun i hi => ⟨(hex i hi).choose, ?_, (hex i hi).choose_spec⟩⟩
      simp [hi]
    refine ⟨_, rfl, xs, .inr ⟨a, cap, by rw [h1], by omega, hm, fun j u hj => ?_⟩, fun m hm => ?_⟩
    · have hj' : j < len := by have := (List.getElem?_eq_some_iff.1 hj).1; simpa [h1] using this
      obtain ⟨m, g1, g2, _⟩ := h2 j hj'
      rw [List.getElem?_map, g1] at hj
      cases hj
      exact g2
    · obtain ⟨i, hi⟩ := List.getElem?_of_mem hm
      obtain ⟨m', g1, _, g3⟩ := h2 i (by have := (List.getElem?_eq_some_iff.1 hi).1; omega)
      rw [hi] at g1
      cases g1
      exact g3
theorem flatV_cells {spare : Nat → Bool} {held : Bool} : ∀ (fuel : Nat) (f2 : Nat) (t : TypeId) (ks : List KV) (cs : List Value) (x : DataW H × List MemPlace),
    flatV P fuel t = some ks → DataW.trod enc P W 0 spare held f2 t cs = some x → FitsV W ks cs
  | 0, _, _, _, _, _, h, _ => (by cases h)
  | fuel + 1, 0, _, _, _, _, _, h => (by cases h)
  | fuel + 1, f2 + 1, t, ks, cs, x, h, hx => by
    have hflat : (flatK P (fuel + 1) t).map (List.map KV.k) = some ks → FitsV W ks cs := fun h => by
      rw [Option.map_eq_some_iff] at h
      obtain ⟨k1, h1, rfl⟩ := h
      exact .of (flat_cells _ _ _ _ _ _ h1 hx)
    unfold flatV at h
    cases ht : P.underlying t with
    | none => rw [ht] at h; exact hflat h
    | some d =>
      rw [ht] at h
      cases d with
      | struct fs =>
        simp only at h
        unfold DataW.trod at hx
        rw [ht] at hx
        simp only at hx
        split at hx
        · rename_i hlen
          rw [Option.map_eq_some_iff] at hx
          obtain ⟨ys, hys, _⟩ := hx
          have := flatV_fields (fun t ks cs x => flatV_cells fuel f2 t ks cs x) (P.cellsOf t) cs fs.toList 0 ks h (fun f hf => mapM_each hys f hf) hlen
          simpa using this
        · cases hx
      | slice e =>
        simp only at h
        split at h
        · rename_i k he
          split at h
          · rename_i hc
            cases h
            obtain ⟨v, rfl, hv⟩ := flatV_ints ht he hc hx
            exact ⟨hv, trivial⟩
          · cases h
        · cases h
      | _ => exact hflat h
theorem open_rowsV {v : Value} {d : DataW H} {p : List MemPlace} {base : Nat} {t e : TypeId} {ks : List KV} (fuel : Nat) (ht : P.underlying t = some (.slice e)) (hk : flatV P fuel e = some ks) (hc : P.cellsOf e = ks.length) (h0 : 0 < ks.length)
    (hval : Value.okWide P W .any base t v) (h : DataW.Trod enc P W 0 (fun _ => true) true t v d p) : ∃ ess : List (List Value), (rdN v ess.length ess.flatten).holds W ∧ ∀ es ∈ ess, FitsV W ks es := by
  obtain ⟨a0, len0, cap0, rfl⟩ := okWide_slice ht hval
  obtain ⟨f2, hf⟩ := h
  rcases DataW.trod_slice ht hf with ⟨hcs, _⟩ | ⟨a, len, cap, elems, rest, n, _, hcs, _, hb, hl, hm, hlen, hel, _⟩
  · simp [Value.cells] at hcs
    obtain ⟨rfl, rfl, rfl⟩ := hcs
    exact ⟨[], .inl ⟨rfl, rfl, rfl⟩, by simp⟩
  · simp [Value.cells] at hcs
    obtain ⟨rfl, rfl, rfl⟩ := hcs
    have hex : ∀ i, i < len0 → ∃ cs, W.cells? 0 (a.add (i * ks.length)) ks.length = some cs ∧ FitsV W ks cs := by
      intro i hi
      have h1 := hel i hi
      rw [hc, List.getElem?_eq_getElem (by omega), Option.bind_eq_some_iff] at h1
      obtain ⟨cs, h2, h3⟩ := h1
      exact ⟨cs, h2, flatV_cells fuel n e ks cs _ hk h3⟩
    obtain ⟨ess, h1, h2⟩ : ∃ ess : List (List Value), ess.length = len0 ∧ ∀ i, i < len0 → ∃ cs, ess[i]? = some cs ∧ W.cells? 0 (a.add (i * ks.length)) ks.length = some cs ∧ FitsV W ks cs := by
      refine ⟨(List.range len0).map fun i => if hi : i < len0 then (hex i hi).choose else [], by simp, fun i hi => ⟨(hex i hi).choose, ?_, (hex i hi).choose_spec⟩⟩
      simp [hi]
    have hfit : ∀ es ∈ ess, FitsV W ks es := by
      intro es hes
      obtain ⟨i, hi⟩ := List.getElem?_of_mem hes
      obtain ⟨cs, g1, g2, g3⟩ := h2 i (by have := (List.getElem?_eq_some_iff.1 hi).1; omega)
      rw [hi] at g1
      cases g1
      exact g3
    refine ⟨ess, .inr ⟨a, cap0, by rw [h1], by omega, hm, fun j u hj => ?_⟩, hfit⟩
    have hfl := flatten_len fun x hx => (hfit x hx).length
    have hj' : j < ess.length * ks.length := by have := (List.getElem?_eq_some_iff.1 hj).1; omega
    have hi : j / ks.length < len0 := by rw [← h1]; exact (Nat.div_lt_iff_lt_mul h0).2 hj'
    have ho := Nat.mod_lt j h0
    have hjj : j / ks.length * ks.length + j % ks.length = j := by rw [Nat.mul_comm]; exact Nat.div_add_mod ..
    obtain ⟨cs, g1, g2, g3⟩ := h2 _ hi
    rw [← hjj, flatten_at (fun x hx => (hfit x hx).length) ho, g1] at hj
    have := (cells_get g2).2 _ ho
    rw [add_add, hjj] at this
    rw [this]
    exact hj
theorem open_listV {α : Type} {v : Value} {d : DataW H} {p : List MemPlace} {base : Nat} {t e : TypeId} {ks : List KV} (c : α → Ch) (q : α → Prop) (hq : ∀ es, FitsV W ks es → ∃ x, es = flat (c x) ∧ q x) (fuel : Nat) (ht : P.underlying t = some (.slice e)) (hk : flatV P fuel e = some ks) (hc : P.cellsOf e = ks.length) (h0 : 0 < ks.length)
    (hval : Value.okWide P W .any base t v) (h : DataW.Trod enc P W 0 (fun _ => true) true t v d p) : ∃ l : List α, (rdN v l.length (l.map fun x => flat (c x)).flatten).holds W ∧ ∀ x ∈ l, q x := by
  obtain ⟨ess, h1, h2⟩ := open_rowsV fuel ht hk hc h0 hval h
  obtain ⟨r, rfl, hr⟩ := list_of (c := fun x => flat (c x)) (p := q) fun es hes => hq es (h2 es hes)
  exact ⟨r, by simpa using h1, hr⟩
end
end Go.Proofs.YtagedgcdonodfaaDoor
/- Separation: a pool, several blocks of one type as one assertion. -/
namespace Go.Proofs.YtagedgcdonodfaaDoor
open Go.RowKit
set_option linter.unusedSimpArgs false
set_option linter.unusedVariables false

/-- These blocks are one's own, and hold these cells. -/
def pool (T : TypeId) (f : Nat → Option Ch) : Asn where
  own := true
  fp := fun g => ∃ cs, f g = some cs
  holds := fun w => ∀ g cs, f g = some cs → (bx g T cs).holds w
  lt := fun w h g hg => by
    obtain ⟨cs, hcs⟩ := hg
    exact (bx g T cs).lt w (h g cs hcs) g rfl
  loc := fun w w' h hl g cs hcs => (bx g T cs).loc w w' (h g cs hcs) fun g' hg' => hl g' (by rw [show g' = g from hg']; exact ⟨cs, hcs⟩)
def fset (f : Nat → Option Ch) (g : Nat) (cs : Ch) : Nat → Option Ch := fun g' => if g' = g then some cs else f g'
section
variable {P : Program} {n : Nat} {W : World} {S : Nat → Prop} {Γ : List Asn} {F : List (Nat × Value)} {Q : Exit → Act → World → Prop} {ops : Array Oper} {os : List Oper}
variable {d : Option Tmp} {ty : TypeId} {pos : String} {af : Array Edge} {gd : Option (Nat × Bool)} {T T' : TypeId} {f : Nat → Option Ch} {g off : Nat} {cs : Ch}
theorem ownsP {Γ : List Asn} (h : ∀ A, A ∈ Γ → A.own = true := by ((repeat' (first | exact own_nil | refine own_cons (by first | exact bx_own | exact rowN_own | exact mp_own | exact pool_own | exact star_own | exact rfl) ?_ | fail)) <;> fail)) : ∀ A, A ∈ Γ → A.own = true := h
theorem WPq.dTp {fn : Func} {rs : List ResultVar} {vs : List Value} {c : Value} {Γ1 Γx : List Asn} {e : Exit} (he : e = .ret ∨ e = .normal := by first | exact .inl rfl | exact .inr rfl | fail) (hr : fn.results = rs.toArray := by first | rfl | fail) (h : ResF P Γ F rs vs := by first | exact resA | fail) (hp : Takes Γ Γ1 Γx := by first | exact takesA | fail) (hc : resV vs = c := by first | rfl | fail) (ho : ∀ A, A ∈ Γ1 → A.own = true := by first | exact ownsP | fail) :
    WPq n W S Γ F (Done P fn W S (RTurns c Γ1)) e := WPq.done he hr h hp ho ⟨hc, rfl⟩
/-- What a call leaves, told by a law of it. -/
theorem WPq.dX {fn : Func} {rs : List ResultVar} {vs : List Value} {R : Value → List Asn → Prop} (Γ1 : List Asn) {Γx : List Asn} {e : Exit} (hR : R (resV vs) Γ1) (he : e = .ret ∨ e = .normal := by first | exact .inl rfl | exact .inr rfl | fail) (hr : fn.results = rs.toArray := by first | rfl | fail) (h : ResF P Γ F rs vs := by first | exact resA | fail) (hp : Takes Γ Γ1 Γx := by first | exact takesA | fail) (ho : ∀ A, A ∈ Γ1 → A.own = true := by first | exact ownsP | fail) :
    WPq n W S Γ F (Done P fn W S R) e := WPq.done he hr h hp ho hR
/-- The state told in other words. -/
theorem Good.conv {Γ' : List Asn} {w : World} (h : Good W S Γ w) (hh : Holds Γ w → Holds Γ' w) (ha : Γ.Pairwise Apart → Γ'.Pairwise Apart) (hf : ∀ A, A ∈ Γ' → A.own = true → ∀ g, A.fp g → ∃ B, B ∈ Γ ∧ B.own = true ∧ B.fp g) : Good W S Γ' w :=
  ⟨h.mod, hh h.all, ha h.apart, fun A hA ho g hg => by
    obtain ⟨B, hB, h1, h2⟩ := hf A hA ho g hg
    exact h.mine B hB h1 g h2⟩
/-- Opened, closed: several assertions as one. -/
theorem Good.open' {Γ1 Γf : List Asn} {w : World} (ho : ∀ A, A ∈ Γ1 → A.own = true) (h : Good W S (star Γ1 :: Γf) w) : Good W S (Γ1 ++ Γf) w := by
  have h1 := h.apart
  rw [List.pairwise_cons] at h1
  have hs := h.all _ (List.mem_cons_self ..)
  refine h.conv (fun hh A hA => ?_) (fun _ => List.pairwise_append.2 ⟨hs.2, h1.2, fun A hA B hB hor g' hg' hB' => ?_⟩) (fun A hA ho' g' hg' => ?_)
  · rcases List.mem_append.1 hA with hA | hA
    · exact hs.1 A hA
    · exact hh A (List.mem_cons_of_mem _ hA)
  · exact h1.1 B hB (.inl rfl) g' ⟨A, hA, hg'⟩ hB'
  · rcases List.mem_append.1 hA with hA | hA
    · exact ⟨_, List.mem_cons_self .., rfl, A, hA, hg'⟩
    · exact ⟨A, List.mem_cons_of_mem _ hA, ho', hg'⟩
theorem Good.close {Γ1 Γf : List Asn} {w : World} (ho : ∀ A, A ∈ Γ1 → A.own = true) (h : Good W S (Γ1 ++ Γf) w) : Good W S (star Γ1 :: Γf) w := by
  obtain ⟨a1, a2, a3⟩ := List.pairwise_append.1 h.apart
  refine h.conv (fun hh A hA => ?_) (fun _ => List.pairwise_cons.2 ⟨fun B hB hor g' hg' hB' => ?_, a2⟩) (fun A hA ho' g' hg' => ?_)
  · rcases List.mem_cons.1 hA with rfl | hA
    · exact ⟨fun B hB => hh B (List.mem_append_left _ hB), a1⟩
    · exact hh A (List.mem_append_right _ hA)
  · obtain ⟨A, hA, hg'⟩ := hg'
    exact a3 A hA B hB (.inl (ho A hA)) g' hg' hB'
  · rcases List.mem_cons.1 hA with rfl | hA
    · obtain ⟨B, hB, hg'⟩ := hg'
      exact ⟨B, List.mem_append_left _ hB, ho B hB, hg'⟩
    · exact ⟨A, List.mem_append_right _ hA, ho', hg'⟩
end
end Go.Proofs.YtagedgcdonodfaaDoor
/- Maps that are ranged over; functions that are called by their value. -/
namespace Go.Proofs.YtagedgcdonodfaaDoor
open Go.RowKit
set_option linter.unusedSimpArgs false
set_option linter.unusedVariables false
set_option linter.unusedSectionVars false

section
variable {K V : Type} [DecidableEq K]
theorem mfind_at {l : List (K × V)} (hn : (l.map (·.1)).Nodup) {x : K × V} (hx : x ∈ l) : mfind l x.1 = some x.2 := by
  obtain ⟨j, hj⟩ := List.getElem?_of_mem hx
  exact (mfind_some hn hj rfl).1
/-- Map m and its iterator r: l is held, td is left, c is the one that came last. -/
def rg (M : MK K V) (m r : Nat) (l td : List (K × V)) (c : Option (K × V)) : Asn where
  own := true
  fp := fun g => g = m ∨ g = r
  holds := fun w => m ≠ r ∧ ∃ es clock since seen c0, w.heap[r]? = some (.mapIter (some m) since seen c0) ∧ w.heap[m]? = some (.map es clock) ∧
    (es.toList.map (fun e => (e.key, e.val)) = l.map (fun x => (M.kc x.1, M.vc x.2)) ∧ (es.toList.map (·.born)).Pairwise (· < ·) ∧ (∀ e ∈ es.toList, e.born < clock) ∧ (l.map (·.1)).Nodup ∧ ∀ x ∈ l, M.wf x.1) ∧
    (since ≤ c0 ∧ since ≤ clock) ∧ (∀ e ∈ es.toList, e.born < since) ∧ (leftOf es seen).toList.map (fun e => (e.key, e.val)) = td.map (fun x => (M.kc x.1, M.vc x.2)) ∧ td.Sublist l ∧
    (∀ x, c = some x → c0 = clock ∧ ∃ e ∈ es.toList, seen.back? = some e.born ∧ e.key = M.kc x.1 ∧ e.val = M.vc x.2)
  lt := fun w h g hg => by
    obtain ⟨_, es, clock, since, seen, c0, h1, h2, _⟩ := h
    rcases hg with rfl | rfl
    · exact (Array.getElem?_eq_some_iff.1 h2).1
    · exact (Array.getElem?_eq_some_iff.1 h1).1
  loc := fun w w' h hl => by
    obtain ⟨h0, es, clock, since, seen, c0, h1, h2, h3⟩ := h
    exact ⟨h0, es, clock, since, seen, c0, by rw [hl r (.inr rfl)]; exact h1, by rw [hl m (.inl rfl)]; exact h2, h3⟩
theorem rg_mp {M : MK K V} {m r : Nat} {l td : List (K × V)} {c : Option (K × V)} {w : World} (h : (rg M m r l td c).holds w) : (mp M m l).holds w := by
  obtain ⟨h0, es, clock, since, seen, c0, h1, h2, h3, _⟩ := h
  exact ⟨es, clock, h2, h3⟩

theorem born_inj {L : List MapEntry} (hp : (L.map (·.born)).Pairwise (· < ·)) {A B : List MapEntry} {e : MapEntry} (h : L = A ++ e :: B) : L.filter (fun x => !(x.born == e.born)) = A ++ B := by
  subst h
  rw [List.map_append, List.map_cons, List.pairwise_append, List.pairwise_cons] at hp
  obtain ⟨h1, ⟨h2, h3⟩, h4⟩ := hp
  rw [List.filter_append, List.filter_cons]
  simp only [beq_self_eq_true, Bool.not_true, Bool.false_eq_true, if_false]
  congr 1
  · rw [List.filter_eq_self]
    intro x hx
    have := h4 x.born (List.mem_map.2 ⟨x, hx, rfl⟩) e.born (List.mem_cons_self ..)
    have hne : x.born ≠ e.born := by omega
    simpa using hne
  · rw [List.filter_eq_self]
    intro x hx
    have := h2 x.born (List.mem_map.2 ⟨x, hx, rfl⟩)
    have hne : x.born ≠ e.born := by omega
    simpa using hne
theorem leftOf_sub' {es : Array MapEntry} {seen : Array Nat} : (leftOf es seen).toList = es.toList.filter (fun e => !seen.contains e.born) := by
  unfold leftOf; rw [Array.toList_filter]
theorem left_push {es : Array MapEntry} {seen : Array Nat} {b : Nat} : (leftOf es (seen.push b)).toList = (leftOf es seen).toList.filter (fun x => !(x.born == b)) := by
  unfold leftOf
  rw [Array.toList_filter, Array.toList_filter, List.filter_filter]
  congr 1
  funext x
  rw [Array.contains_push, Bool.not_or, Bool.and_comm]
end

section
variable {P : Program} {n : Nat} {W : World} {S : Nat → Prop} {Γ : List Asn} {F : List (Nat × Value)} {Q : Exit → Act → World → Prop} {ops : Array Oper} {os : List Oper}
variable {ty : TypeId} {pos : String} {af : Array Edge} {gd : Option (Nat × Bool)}
variable {K V : Type} [DecidableEq K] {T : TypeId} {M : MK K V}
def RRg (M : MK K V) (m : Nat) (l : List (K × V)) : Value → List Asn → Prop := fun v Γ => ∃ r, v = .pointer (some ⟨r, 0, none⟩) ∧ Γ = [rg M m r l l none]
theorem OpT.mrange [h : MapI P T M] {d : Option Tmp} {x : Operand} {m : Nat} {l : List (K × V)} {Γf : List Asn} (hx : evF F x = some (.map (some m))) (hp : Takes Γ [mp M m l] Γf) :
    OpT P n Γ F ⟨d, .range T x, ty, pos, af, gd⟩ [mp M m l] (RRg M m l) := fun ρ w hf hw _ => by
  obtain ⟨kT, eT, hu, _⟩ := h.law
  obtain ⟨es, clock, hb, h1, h2, h3, h4, h5⟩ := hw _ (hp.mem_iff.2 (List.mem_cons_self ..))
  have hrun : (execOp ρ.eval ⟨d, .range T x, ty, pos, af, gd⟩).run P w = .ok (.value (.pointer (some ⟨w.heap.size, 0, none⟩))) (w.alloc (.mapIter (some m) clock #[] clock)) := by
    simp [execOp, hf.eval hx, Instr.range, Sem.run_bind, run_underlying hu, MapKept.run_getObj_map hb, Result.andThen, newObj, Sem.run]
  unfold DoesW
  rw [hrun]
  have hlt : m < w.heap.size := (Array.getElem?_eq_some_iff.1 hb).1
  have hm : (w.alloc (.mapIter (some m) clock #[] clock)).heap[m]? = some (.map es clock) := by
    show (w.heap.push _)[m]? = _
    rw [Array.getElem?_push_lt hlt, ← Array.getElem?_eq_getElem hlt, hb]
  refine ⟨_, ⟨_, rfl, rfl⟩, .one (Mod.alloc _ _ _) ⟨Nat.ne_of_lt hlt, es, clock, clock, #[], clock, alloc_new _ _, hm, ⟨h1, h2, h3, h4, h5⟩, ⟨Nat.le_refl _, Nat.le_refl _⟩, h3, ?_, List.Sublist.refl _, fun x hx => by cases hx⟩ fun g hg => ?_⟩
  · rw [← h1]
    congr 1
    rw [leftOf_sub', List.filter_eq_self]
    intro a _
    simp
  · rcases hg with rfl | rfl
    · exact .inr ⟨_, List.mem_singleton.2 rfl, rfl, rfl⟩
    · exact .inl (Nat.le_refl _)
def RNxt (M : MK K V) (m r : Nat) (l td : List (K × V)) (c : Option (K × V)) : Value → List Asn → Prop := fun v Γ =>
  (td = [] ∧ v = .tuple #[.bool false] ∧ Γ = [rg M m r l td c]) ∨ ∃ A x B, td = A ++ x :: B ∧ v = .tuple #[.bool true, M.kc x.1, M.vc x.2] ∧ Γ = [rg M m r l (A ++ B) (some x)]
theorem map_split {α β γ : Type} {f : α → γ} {g : β → γ} : ∀ {A B : List α} {e : α} {td : List β}, (A ++ e :: B).map f = td.map g → ∃ A' x B', td = A' ++ x :: B' ∧ f e = g x ∧ (A ++ B).map f = (A' ++ B').map g
  | [], B, e, td, h => by
    cases td with
    | nil => cases h
    | cons x td =>
      simp only [List.nil_append, List.map_cons, List.cons.injEq] at h
      exact ⟨[], x, td, rfl, h.1, h.2⟩
  | a :: A, B, e, td, h => by
    cases td with
    | nil => cases h
    | cons y td =>
      simp only [List.cons_append, List.map_cons, List.cons.injEq] at h
      obtain ⟨A', x, B', h1, h2, h3⟩ := map_split h.2
      exact ⟨y :: A', x, B', by rw [h1]; rfl, h2, by simp only [List.cons_append, List.map_cons, h3, h.1]⟩
theorem OpT.next {d : Option Tmp} {x : Operand} {m r : Nat} {l td : List (K × V)} {c : Option (K × V)} {Γf : List Asn} (hx : evF F x = some (.pointer (some ⟨r, 0, none⟩))) (hp : Takes Γ [rg M m r l td c] Γf) :
    OpT P n Γ F ⟨d, .next x false, ty, pos, af, gd⟩ [rg M m r l td c] (RNxt M m r l td c) := fun ρ w hf hw _ => by
  have hb0 : (rg M m r l td c).holds w := hw _ (hp.mem_iff.2 (List.mem_cons_self ..))
  have hb1 := hb0
  obtain ⟨h0, es, clock, since, seen, c0, hr, hm, hmp, hsc, hold, hleft, hsub, hcur⟩ := hb0
  have hown : ∀ g, (g = m ∨ g = r) → ownFp [rg M m r l td c] g := fun g hg => ⟨_, List.mem_singleton.2 rfl, rfl, hg⟩
  rcases run_next_at (P := P) w ty r m since c0 seen es clock hr hm hold hsc.1 with ⟨hz, hrun⟩ | ⟨e, he, w1, hw1, hrun⟩
  · have hex : (execOp ρ.eval ⟨d, .next x false, ty, pos, af, gd⟩).run P w = .ok (.value (.tuple #[.bool false])) w := by
      simp [execOp, hf.eval hx, Sem.run_bind, hrun]
    have htd : td = [] := by
      have h1 := congrArg List.length hleft
      rw [List.length_map, List.length_map, Array.length_toList, hz] at h1
      exact List.eq_nil_of_length_eq_zero h1.symm
    unfold DoesW
    rw [hex]
    exact ⟨_, .inl ⟨htd, rfl, rfl⟩, .one (Mod.refl _ _) hb1 fun g hg => .inr (hown g hg)⟩
  · have hex : (execOp ρ.eval ⟨d, .next x false, ty, pos, af, gd⟩).run P w = .ok (.value (.tuple #[.bool true, e.key, e.val])) (ChangeMaps.setBlock w1 r (.mapIter (some m) since (seen.push e.born) clock)) := by
      simp [execOp, hf.eval hx, Sem.run_bind, hrun]
    have hmem : e ∈ es.toList := by
      have he2 := he
      rw [leftOf_sub'] at he2
      exact (List.mem_filter.1 he2).1
    obtain ⟨A, B, hAB⟩ := List.append_of_mem he
    have hmap := hleft
    rw [hAB] at hmap
    obtain ⟨A', y, B', htd, hey, hmap2⟩ := map_split hmap
    simp only [Prod.mk.injEq] at hey
    unfold DoesW
    rw [hex]
    have hw1h : w1.heap = w.heap := by rcases hw1 with rfl | rfl <;> rfl
    have hmod : Mod (ownFp [rg M m r l td c]) w w1 := by
      rcases hw1 with rfl | rfl
      · exact Mod.refl _ _
      · exact ⟨rfl, rfl, rfl, Nat.le_refl _, Nat.le_refl _, fun _ _ _ => rfl⟩
    refine ⟨_, .inr ⟨A', y, B', htd, by rw [hey.1, hey.2], rfl⟩, .one (hmod.trans (mod_block (hown r (.inr rfl)) _ _)) ⟨h0, es, clock, since, seen.push e.born, clock, block_set (by rw [hw1h]; exact hr), ?_, hmp, ?_, hold, ?_, ?_, fun x' hx' => ⟨rfl, e, hmem, Array.back?_push, by cases hx'; exact hey.1, by cases hx'; exact hey.2⟩⟩ fun g hg => .inr (hown g hg)⟩
    · rw [← hm, ← hw1h]; simp [ChangeMaps.setBlock, Array.getElem?_setIfInBounds, Ne.symm h0]
    · exact ⟨hsc.2, hsc.2⟩
    · rw [left_push, born_inj ?_ hAB]
      · exact hmap2
      · unfold leftOf
        rw [Array.toList_filter]
        exact hmp.2.1.sublist (List.Sublist.map _ List.filter_sublist)
    · refine List.Sublist.trans ?_ hsub
      rw [htd]
      exact List.Sublist.append (List.Sublist.refl _) (List.sublist_cons_self ..)
theorem ReadR.entry {d : Option Tmp} {x : Operand} {m r : Nat} {l td : List (K × V)} {y : K × V} {kv vv : Value} (hk : M.kc y.1 = kv) (hv : M.vc y.2 = vv) (hm : rg M m r l td (some y) ∈ Γ) (hx : evF F x = some (.pointer (some ⟨r, 0, none⟩))) :
    ReadR P n Γ F ⟨d, .entry x, ty, pos, af, gd⟩ (.tuple #[kv, vv]) := fun ρ w hf hw => by
  subst hk hv
  obtain ⟨h0, es, clock, since, seen, c0, hr, hb, ⟨he, h1, h2, hn, hwf⟩, hsc, hold, hleft, hsub, hcur⟩ := hw _ hm
  obtain ⟨rfl, e, hem, hbk, hke, hve⟩ := hcur y rfl
  have hnd : (es.toList.map (·.born)).Nodup := h1.imp (fun h => Nat.ne_of_lt h)
  have hfd : es.find? (·.born == e.born) = some e := by rw [← Array.find?_toList]; exact find_born e es.toList hnd hem
  have : (Instr.entry (.pointer (some ⟨r, 0, none⟩))).run P w = .ok (.tuple #[e.key, e.val]) w := by
    simp only [Instr.entry, getObj, Sem.run_bind, Sem.run, hr, hb, Result.andThen, hbk, bne_self_eq_false, Bool.false_eq_true, if_false, hfd]
    rfl
  simp [execOp, hf.eval hx, Sem.run_bind, this, hke, hve]
theorem WPl.mrange [h : MapI P T M] {d : Nat} {x : Operand} {m : Nat} {l : List (K × V)} {Γf : List Asn} (k : ∀ r, WPl P n W S (rg M m r l l none :: Γf) ((d, .pointer (some ⟨r, 0, none⟩)) :: F) ops os Q) (hx : evF F x = some (.map (some m)) := by first | rfl | fail) (hp : Take Γ (mp M m l) Γf := by first | exact takeA | fail) (hlt : Nat.blt d n = true := by first | rfl | fail) (hw : wantG F ops gd = some true := by first | rfl | fail) :
    WPl P n W S Γ F ops (⟨some d, .range T x, ty, pos, af, gd⟩ :: os) Q :=
  WPl.op (.cons hp .nil) hlt hw (OpT.mrange (h := h) hx (.cons hp .nil)) (by rintro v Γ' ⟨r, rfl, rfl⟩; exact k r)
theorem WPl.mnext {d : Nat} {x : Operand} {m r : Nat} {l td : List (K × V)} {c : Option (K × V)} {Γf : List Asn} (kf : K → Value) (vf : V → Value) (k0 : td = [] → WPl P n W S (rg M m r l td c :: Γf) ((d, .tuple #[.bool false]) :: F) ops os Q)
    (k1 : ∀ A y B, td = A ++ y :: B → WPl P n W S (rg M m r l (A ++ B) (some y) :: Γf) ((d, .tuple #[.bool true, kf y.1, vf y.2]) :: F) ops os Q) (hk : ∀ z, M.kc z = kf z := by first | exact fun _ => rfl | fail) (hv : ∀ z, M.vc z = vf z := by first | exact fun _ => rfl | fail)
    (hx : evF F x = some (.pointer (some ⟨r, 0, none⟩)) := by first | rfl | fail) (hp : Take Γ (rg M m r l td c) Γf := by first | exact takeA | fail) (hlt : Nat.blt d n = true := by first | rfl | fail) (hw : wantG F ops gd = some true := by first | rfl | fail) :
    WPl P n W S Γ F ops (⟨some d, .next x false, ty, pos, af, gd⟩ :: os) Q :=
  WPl.op (.cons hp .nil) hlt hw (OpT.next hx (.cons hp .nil)) (by
    rintro v Γ' (⟨h0, rfl, rfl⟩ | ⟨A, y, B, h0, rfl, rfl⟩)
    · exact k0 h0
    · have := k1 A y B h0
      rw [← hk, ← hv] at this
      exact this)
/-- The range is over: the map as it was held. -/
theorem Good.rgOut {m r : Nat} {l td : List (K × V)} {c : Option (K × V)} {Γf : List Asn} {w : World} (h : Good W S (rg M m r l td c :: Γf) w) : Good W S (mp M m l :: Γf) w := by
  have h1 := h.apart
  rw [List.pairwise_cons] at h1
  refine h.conv (fun hh A hA => ?_) (fun _ => List.pairwise_cons.2 ⟨fun B hB hor g' hg' hB' => h1.1 B hB (.inl rfl) g' (.inl hg') hB', h1.2⟩) (fun A hA ho g' hg' => ?_)
  · rcases List.mem_cons.1 hA with rfl | hA
    · exact rg_mp (hh _ (List.mem_cons_self ..))
    · exact hh A (List.mem_cons_of_mem _ hA)
  · rcases List.mem_cons.1 hA with rfl | hA
    · exact ⟨_, List.mem_cons_self .., rfl, .inl hg'⟩
    · exact ⟨A, List.mem_cons_of_mem _ hA, ho, hg'⟩
theorem WPl.rgOut {m r : Nat} {l td : List (K × V)} {c : Option (K × V)} {Γf : List Asn} (k : WPl P n W S (mp M m l :: Γf) F ops os Q) (hp : Take Γ (rg M m r l td c) Γf := by first | exact takeA | fail) : WPl P n W S Γ F ops os Q := fun a w hf hg => k a w hf (hg.perm hp).rgOut
theorem WPq.rgOut {e : Exit} {m r : Nat} {l td : List (K × V)} {c : Option (K × V)} {Γf : List Asn} (hp : Take Γ (rg M m r l td c) Γf) (k : WPq n W S (mp M m l :: Γf) F Q e) : WPq n W S Γ F Q e := fun a w hf hg => k a w hf (hg.perm hp).rgOut
theorem WPc.mkeys {cd : Code} {m : Nat} {l : List (K × V)} (hm : mp M m l ∈ Γ) (h : (l.map (·.1)).Nodup → (∀ x ∈ l, M.wf x.1) → WPc P n W S Γ F cd Q) : WPc P n W S Γ F cd Q :=
  WPc.know (p := (l.map (·.1)).Nodup ∧ ∀ x ∈ l, M.wf x.1) (fun w hw => by obtain ⟨es, clock, _, _, _, _, h1, h2⟩ := hw _ hm; exact ⟨h1, h2⟩) (fun hp => h hp.1 hp.2)
theorem WPc.rgsub {cd : Code} {m r : Nat} {l td : List (K × V)} {c : Option (K × V)} (hm : rg M m r l td c ∈ Γ) (h : td.Sublist l → (l.map (·.1)).Nodup → (∀ x ∈ l, M.wf x.1) → WPc P n W S Γ F cd Q) : WPc P n W S Γ F cd Q :=
  WPc.know (p := td.Sublist l ∧ (l.map (·.1)).Nodup ∧ ∀ x ∈ l, M.wf x.1) (fun w hw => by
    obtain ⟨h0, es, clock, since, seen, c0, hr, hb, ⟨he, h1, h2, hn, hwf⟩, hsc, hold, hleft, hsub, hcur⟩ := hw _ hm
    exact ⟨hsub, hn, hwf⟩) (fun hp => h hp.1 hp.2.1 hp.2.2)
/-! ### Functions that are called by their value -/
end
end Go.Proofs.YtagedgcdonodfaaDoor
/- Separation: rows of structs: literals, append. -/
namespace Go.Proofs.YtagedgcdonodfaaDoor
open Go.RowKit
set_option linter.unusedSimpArgs false
set_option linter.unusedVariables false
class EltN (P : Program) (e : TypeId) (sz : outParam Nat) : Prop where
  info : ((P.info? e).bind fun i => i.zero.map fun z => (Nat.beq z.cells.size sz && Nat.beq i.size sz && Nat.ble i.bytes 512 && Nat.blt 0 sz)) = some true
theorem EltN.parts {P : Program} {e : TypeId} {sz : Nat} (h : EltN P e sz) : ∃ i z, P.info? e = some i ∧ i.zero = some z ∧ i.size = sz ∧ z.cells.size = sz ∧ i.bytes ≤ 512 ∧ 0 < sz := by
  have h1 := h.info
  cases hi : P.info? e with
  | none => rw [hi] at h1; cases h1
  | some i =>
    rw [hi] at h1
    simp only [Option.bind_some] at h1
    cases hz : i.zero with
    | none => rw [hz] at h1; cases h1
    | some z =>
      rw [hz] at h1
      simp only [Option.map_some, Option.some.injEq, Bool.and_eq_true] at h1
      obtain ⟨⟨⟨h2, h3⟩, h4⟩, h5⟩ := h1
      exact ⟨i, z, rfl, hz, Nat.eq_of_beq_eq_true h3, Nat.eq_of_beq_eq_true h2, Nat.le_of_ble_eq_true h4, Nat.le_of_ble_eq_true h5⟩
section
variable {P : Program} {n : Nat} {W : World} {S : Nat → Prop} {Γ : List Asn} {F : List (Nat × Value)} {Q : Exit → Act → World → Prop} {ops : Array Oper} {os : List Oper}
variable {d : Option Tmp} {ty : TypeId} {pos : String} {af : Array Edge} {gd : Option (Nat × Bool)}
theorem OpT.appendN {T e : TypeId} {sz : Nat} [hT : SliI P T e] [he : EltN P e sz] {s x : Operand} {v v2 : Value} {m m2 : Nat} {xs ys : List Value} {Γf : List Asn} (hs : evF F s = some v) (hx : evF F x = some v2) (hp : Takes Γ [rowN e sz v m xs] Γf) (h2 : HasS Γ v2 m2 ys) (hm2 : ys.length = m2 * sz) (h1 : ∀ u, u ∈ ys → u.oneCell' = true) (h63 : m + m2 ≤ 68719476736) :
    OpT P n Γ F ⟨d, .call { callee := .builtin .append, args := #[s, x], argTypes := #[T, T] }, ty, pos, af, gd⟩ [rowN e sz v m xs] (RRow e sz (m + m2) (xs ++ ys)) := fun ρ w hf hw _ => by
  have hb : (rowN e sz v m xs).holds w := hw _ (hp.mem_iff.2 (List.mem_cons_self ..))
  obtain ⟨i0, z, hi, hz0, hz1, hzs, hby, hsz⟩ := he.parts
  obtain ⟨a, cap, hv2, g1, g2, g3, g4⟩ := (h2 w hw).at
  have hbig : (m + m2) * i0.bytes ≤ 140737488355328 := by
    have : (m + m2) * i0.bytes ≤ 68719476736 * 512 := Nat.mul_le_mul h63 hby
    omega
  have key : ∃ v' w', (Builtin.append_ #[T, T] ty #[v, v2]).run P w = .ok v' w' ∧ w'.ownsRow 0 e sz v' (m + m2) (xs ++ ys) ∧ w.grownBy w' v.ownBlock ∧ (v'.ownBlock = v.ownBlock ∨ ∀ g, v'.ownBlock = some g → w.heap.size ≤ g) := by
    cases a with
    | none =>
      have hc0 := g3 rfl
      have hm0 : m2 = 0 := by omega
      subst hm0 hc0 hv2
      have hy : ys = [] := List.length_eq_zero_iff.1 (by simpa using hm2)
      subst hy
      have := run_append_owned_none (P := P) (w := w) 0 T ty e i0 sz hT.und hi v m xs hb
      exact ⟨v, w, this, by have h := hb; unfold rowN at h; simpa using h, ⟨rfl, rfl, rfl, Nat.le_refl _, fun _ _ _ => rfl⟩, .inl rfl⟩
    | some q =>
      subst hv2
      have hq : ∀ j u, ys[j]? = some u → w.cell? (q.add j) = some u := fun j u hj => by
        obtain ⟨ad, h, hc⟩ := g4 j u hj
        cases h; exact hc
      by_cases hm0 : m2 = 0
      · subst hm0
        have hy : ys = [] := List.length_eq_zero_iff.1 (by simpa using hm2)
        subst hy
        rcases hb.2 with ⟨hv, h0⟩ | ⟨g, cap', cur, hv, hB, hg, hnc, hcm, hcs, ht⟩
        · obtain ⟨v', w', hrun, h3, h4, h5⟩ := run_append_own (P := P) w 0 T ty e i0 z sz i0.bytes hT.und hi hz0 hz1 rfl hzs hsz v m xs hb q 0 cap [] (by simp) hq (by simp) (by unfold maxLen; omega) hbig (Nat.zero_le _)
          exact ⟨v', w', hrun, h3, h4, .inl (by rw [h5.2 ⟨hv, rfl⟩, hv])⟩
        · subst hv
          have hl : xs.length = m * sz := hb.1
          have hle : m * sz ≤ cap' * sz := Nat.mul_le_mul_right _ hnc
          have hfit : m * i0.size + ([] : List Value).length ≤ cur.size := by rw [hz1, hcs]; simp; omega
          have hrun := run_append_room (P := P) w T ty e i0 hT.und hi g m cap' cur hg q 0 cap [] (by simp) hq (by simp) hnc hfit
          refine ⟨_, _, hrun, ⟨by simp; omega, .inr ⟨g, cap', _, rfl, Nat.zero_le _, setRow_heap w g cur _ e _ hg, hnc, hcm, ?_, ?_⟩⟩, ⟨rfl, rfl, rfl, by simp, fun k _ hk => setRow_other w g k _ (fun e => hk (by simp [Value.ownBlock, e]))⟩, .inl rfl⟩
          · simp only [List.size_toArray, List.length_append, List.length_take, List.length_drop, Array.length_toList, List.length_nil, hz1]
            omega
          · rw [hz1, ht]
            have : (m + 0) * sz = (xs ++ []).length := by simp; omega
            rw [this]
            exact List.take_left
      · obtain ⟨g, cap', w', hrun, h3, h4, h5, _⟩ := run_append_lies (P := P) w T ty 0 e i0 z sz i0.bytes hT.und hi hz0 hz1 rfl hzs hsz v m xs hb q m2 cap ys hm2 hq h1 (by omega) (by unfold maxLen; omega) hbig (Nat.zero_le _) w.heap.size rfl
        refine ⟨_, w', hrun, h3, h4, ?_⟩
        rcases h5 with h5 | h5
        · exact .inl h5.symm
        · exact .inr fun g' hg' => by cases hg'; exact Nat.le_of_eq h5.symm
  obtain ⟨v', w', hrun, h3, h4, h5⟩ := key
  have : (execOp ρ.eval ⟨d, .call { callee := .builtin .append, args := #[s, x], argTypes := #[T, T] }, ty, pos, af, gd⟩).run P w = .ok (.value v') w' := by
    simp only [execOp, resolve, invoke, builtin, Sem.run_bind, Sem.run_pure, Result.andThen_ok, List.map_toArray, List.map_cons, List.map_nil, hf.eval hs, hf.eval hx, hrun]
  unfold DoesW
  rw [this]
  have hone : v'.oneCell' = true := by
    rcases h3.2 with ⟨rfl, _⟩ | ⟨g, c, cu, rfl, _⟩ <;> rfl
  refine ⟨_, ⟨hone, rfl⟩, .one ⟨h4.os, h4.tape, h4.output, h4.size, h4.size, fun g hg hn => h4.block g hg fun hh => hn ⟨_, List.mem_singleton.2 rfl, rfl, hh.symm⟩⟩ h3 fun g hg => ?_⟩
  rcases h5 with h5 | h5
  · exact .inr ⟨_, List.mem_singleton.2 rfl, rfl, h5.symm.trans hg⟩
  · exact .inl (h5 g hg)
/-- A literal of one struct. -/
theorem OpT.buildS1 {T e : TypeId} {sz : Nat} [hT : SliI P T e] [he : EltN P e sz] {x : Operand} {ds : Ch} (hx : evF F x = some (ag ds)) (hk : FOk ds) (ht : total ds = sz) (hsm : Nat.ble sz 16777216 = true) :
    OpT P n Γ F ⟨d, .buildSlice T 1 #[(0, x)], ty, pos, af, gd⟩ [] (RRow e sz 1 (flat ds)) := fun ρ w hf hw _ => by
  obtain ⟨i0, z, hi, hz0, hz1, hzs, hby, hsz⟩ := he.parts
  have hsm' : sz ≤ 16777216 := by simpa using hsm
  have hl : (flat ds).length = sz := by rw [flat_length hk.len, ht]
  have hszr : (sizeOf e).run P w = .ok sz w := by simp [sizeOf, typeInfo, hi, hz1]
  have hz : (zeroValue e).run P w = .ok z w := by simp [zeroValue, typeInfo, hi, hz0]
  have hfill : ∀ c : Array Value, c.size = sz → Instr.fill (fun i => some (i * sz, sz)) c [(0, ag ds)] = some (flat ds).toArray := by
    intro c hc
    have hcell : (ag ds).cells = (flat ds).toArray := by unfold ag; rfl
    simp only [Instr.fill, hcell]
    have : ¬ ((flat ds).toArray.size ≠ sz || decide (0 * sz + (flat ds).toArray.size > c.size)) = true := by simp; omega
    rw [if_neg this]
    have h3 := fold_fill c (0 * sz) (flat ds) 0 (by omega)
    have h4 : ((flat ds).toArray.zipIdx.foldl (fun cs (c, j) => cs.setIfInBounds (0 * sz + j) c) c) = (flat ds).toArray := by
      have h5 : (((flat ds).zipIdx 0).foldl (fun cs (c, j) => cs.setIfInBounds (0 * sz + j) c) c).toList = flat ds := by
        rw [h3, Nat.zero_mul, List.take_zero, List.nil_append, List.drop_of_length_le (by simp; omega), List.append_nil]
      apply Array.toList_inj.1
      rw [List.toList_toArray]
      refine Eq.trans ?_ h5
      simp
    rw [h4]
  have hrun : (Instr.buildSlice T 1 ((#[(0, x)] : Array (Nat × Operand)).map fun (i, x) => (i, ρ.eval x))).run P w = .ok (.slice (some ⟨w.heap.size, 0, none⟩) 1 1) (w.alloc (.cells (flat ds).toArray e)) := by
    unfold Instr.buildSlice
    simp only [Sem.run_bind, run_underlying hT.und, Result.andThen_ok, hszr, Nat.one_mul, Sem.run_ite]
    rw [if_neg (by omega), if_neg (by omega)]
    simp only [hz, Sem.run_bind, Result.andThen_ok, Sem.run_pure]
    have hlist : ((#[(0, x)] : Array (Nat × Operand)).map fun (i, x) => (i, ρ.eval x)).toList = [(0, ag ds)] := by simp [hf.eval hx]
    rw [hlist, hfill _ (by simp)]
    simp [newRow, newObj, Sem.run]
  have : (execOp ρ.eval ⟨d, .buildSlice T 1 #[(0, x)], ty, pos, af, gd⟩).run P w = .ok (.value (.slice (some ⟨w.heap.size, 0, none⟩) 1 1)) (w.alloc (.cells (flat ds).toArray e)) := by
    simp only [execOp, Sem.run_bind, hrun, Result.andThen_ok, Sem.run_pure]
  unfold DoesW
  rw [this]
  refine ⟨_, ⟨rfl, rfl⟩, .one (Mod.alloc _ _ _) ⟨by simp [hl], .inr ⟨w.heap.size, 1, (flat ds).toArray, rfl, Nat.zero_le _, alloc_new _ _, Nat.le_refl _, by unfold maxLen; omega, by simp [hl], ?_⟩⟩ fun g hg => .inl ?_⟩
  · simp [List.take_of_length_le, hl]
  · cases hg; exact Nat.le_refl _
/-- A literal of none. -/
theorem OpT.buildS0 {T e : TypeId} {sz : Nat} [hT : SliI P T e] [he : EltN P e sz] :
    OpT P n Γ F ⟨d, .buildSlice T 0 #[], ty, pos, af, gd⟩ [] (RRow e sz 0 []) := fun ρ w hf hw _ => by
  obtain ⟨i0, z, hi, hz0, hz1, hzs, hby, hsz⟩ := he.parts
  have hszr : (sizeOf e).run P w = .ok sz w := by simp [sizeOf, typeInfo, hi, hz1]
  have hrun : (Instr.buildSlice T 0 ((#[] : Array (Nat × Operand)).map fun (i, x) => (i, ρ.eval x))).run P w = .ok (.slice (some ⟨w.heap.size, 0, none⟩) 0 0) (w.alloc (.cells #[] e)) := by
    unfold Instr.buildSlice
    simp only [Sem.run_bind, run_underlying hT.und, Result.andThen_ok, hszr, Nat.zero_mul, Sem.run_ite]
    rw [if_neg (by omega)]
    simp [newRow, newObj, Sem.run, Instr.fill, show Array.range 0 = #[] from rfl]
  have : (execOp ρ.eval ⟨d, .buildSlice T 0 #[], ty, pos, af, gd⟩).run P w = .ok (.value (.slice (some ⟨w.heap.size, 0, none⟩) 0 0)) (w.alloc (.cells #[] e)) := by
    simp only [execOp, Sem.run_bind, hrun, Result.andThen_ok, Sem.run_pure]
  unfold DoesW
  rw [this]
  refine ⟨_, ⟨rfl, rfl⟩, .one (Mod.alloc _ _ _) ⟨by simp, .inr ⟨w.heap.size, 0, #[], rfl, Nat.zero_le _, alloc_new _ _, Nat.le_refl _, by unfold maxLen; omega, by simp, by simp⟩⟩ fun g hg => .inl ?_⟩
  cases hg; exact Nat.le_refl _
theorem WPc.nilRowN {c : Code} (e : TypeId) (sz : Nat) (h : WPc P n W S (rowN e sz (.slice none 0 0) 0 [] :: Γ) F c Q) : WPc P n W S Γ F c Q := fun a w hf hg =>
  h a w hf ⟨hg.mod, fun A hA => by
      rcases List.mem_cons.1 hA with rfl | hA
      · exact World.ownsRow_nil w 0 e sz
      · exact hg.all A hA,
    List.pairwise_cons.2 ⟨fun B _ _ g hg' _ => (by cases (show (none : Option Nat) = some g from hg')), hg.apart⟩, fun A hA ho g hg' => by
      rcases List.mem_cons.1 hA with rfl | hA
      · exact (by cases (show (none : Option Nat) = some g from hg'))
      · exact hg.mine A hA ho g hg'⟩
/-- append, where what is appended may itself be a row of one's own. -/
theorem WPl.appN {d : Nat} {T e : TypeId} {sz : Nat} [hT : SliI P T e] [he : EltN P e sz] {s x : Operand} {v v2 : Value} {m m2 : Nat} {xs ys : List Value} {Γf : List Asn} (hm2 : ys.length = m2 * sz) (h1 : ∀ u, u ∈ ys → u.oneCell' = true) (h63 : m + m2 ≤ 68719476736) (k : ∀ v, v.oneCell' = true → WPl P n W S (rowN e sz v (m + m2) (xs ++ ys) :: Γf) ((d, v) :: F) ops os Q)
    (hlt : Nat.blt d n = true := by first | rfl | fail) (hw : wantG F ops gd = some true := by first | rfl | fail) (hs : evF F s = some v := by first | rfl | fail) (hx : evF F x = some v2 := by first | rfl | fail) (hp : Take Γ (rowN e sz v m xs) Γf := by first | exact takeA | fail) (h2 : HasS Γ v2 m2 ys := by first | exact hasA | fail) :
    WPl P n W S Γ F ops (⟨some d, .call { callee := .builtin .append, args := #[s, x], argTypes := #[T, T] }, ty, pos, af, gd⟩ :: os) Q := WPl.row (.cons hp .nil) rfl hlt hw (OpT.appendN hs hx (.cons hp .nil) h2 hm2 h1 h63) k
theorem WPl.litS1 {d : Nat} {T e : TypeId} {sz : Nat} [hT : SliI P T e] [he : EltN P e sz] {x : Operand} {ds : Ch} (k : ∀ v, v.oneCell' = true → WPl P n W S (rowN e sz v 1 (flat ds) :: Γ) ((d, v) :: F) ops os Q)
    (hlt : Nat.blt d n = true := by first | rfl | fail) (hw : wantG F ops gd = some true := by first | rfl | fail) (hx : evF F x = some (ag ds) := by first | rfl | fail) (hk : FOk ds := by first | exact fokA | fail) (ht : total ds = sz := by first | rfl | fail) (hsm : Nat.ble sz 16777216 = true := by first | rfl | fail) :
    WPl P n W S Γ F ops (⟨some d, .buildSlice T 1 #[(0, x)], ty, pos, af, gd⟩ :: os) Q := WPl.row .nil rfl hlt hw (OpT.buildS1 hx hk ht hsm) k
theorem WPl.litS0 {d : Nat} {T e : TypeId} {sz : Nat} [hT : SliI P T e] [he : EltN P e sz] (k : ∀ v, v.oneCell' = true → WPl P n W S (rowN e sz v 0 [] :: Γ) ((d, v) :: F) ops os Q)
    (hlt : Nat.blt d n = true := by first | rfl | fail) (hw : wantG F ops gd = some true := by first | rfl | fail) :
    WPl P n W S Γ F ops (⟨some d, .buildSlice T 0 #[], ty, pos, af, gd⟩ :: os) Q := WPl.row .nil rfl hlt hw OpT.buildS0 k
theorem ag_flat {cs ds : Ch} (h : flat cs = flat ds) : ag cs = ag ds := by unfold ag; rw [h]
/-- A struct out of a row, as it is built. -/
theorem ReadR.loadES {T : TypeId} {sz : Nat} [hT : TyI P T true sz] {x : Operand} {s : Value} {i m : Nat} {xs : List Value} {cs : Ch} (hxs : (xs.drop i).take sz = flat cs) (hi : i + sz ≤ xs.length) (hx : evF F x = some (.pointer (some (ela s i)))) (h : HasS Γ s m xs) :
    ReadR P n Γ F ⟨d, .load T x, ty, pos, af, gd⟩ (ag cs) := by
  have h1 := ReadR.loadEA (P := P) (n := n) (d := d) (ty := ty) (pos := pos) (af := af) (gd := gd) (T := T) hx h hi
  rwa [hxs, show ag [(sz, flat cs)] = ag cs from ag_flat (by simp [flat])] at h1
end
theorem rows_drop {α : Type} {c : α → Ch} {sz : Nat} : ∀ {l : List α} {i : Nat} {x : α}, (∀ x, (flat (c x)).length = sz) → l[i]? = some x → ((l.map fun x => flat (c x)).flatten.drop (i * sz)).take sz = flat (c x)
  | [], i, x, _, h => by simp at h
  | y :: l, 0, x, hc, h => by
    simp only [List.getElem?_cons_zero, Option.some.injEq] at h
    subst h
    rw [Nat.zero_mul, List.drop_zero, List.map_cons, List.flatten_cons, List.take_append_of_le_length (by rw [hc]; exact Nat.le_refl _), List.take_of_length_le (by rw [hc]; exact Nat.le_refl _)]
  | y :: l, i + 1, x, hc, h => by
    simp only [List.getElem?_cons_succ] at h
    rw [List.map_cons, List.flatten_cons, Nat.succ_mul, Nat.add_comm, ← List.drop_drop, show (flat (c y) ++ (l.map fun x => flat (c x)).flatten).drop sz = (l.map fun x => flat (c x)).flatten by rw [← hc y, List.drop_left]]
    exact rows_drop hc h
end Go.Proofs.YtagedgcdonodfaaDoor
/- Where ways meet; parts of what is read; stores into rows of structs. -/
namespace Go.Proofs.YtagedgcdonodfaaDoor
open Go.RowKit
set_option linter.unusedSimpArgs false
set_option linter.unusedVariables false
/-- A walk that waits. -/
structure Held (p : Prop) : Prop where
  it : p
section
variable {P : Program} {n : Nat} {W : World} {S : Nat → Prop} {Γ : List Asn} {F : List (Nat × Value)} {Q : Exit → Act → World → Prop} {ops : Array Oper} {os : List Oper}
variable {d : Option Tmp} {ty : TypeId} {pos : String} {af : Array Edge} {gd : Option (Nat × Bool)}
/-! ### A store of one cell into a row of structs -/
theorem OpT.storeEN {T e : TypeId} {sz i m : Nat} {xs : List Value} {a x : Operand} {s v : Value} {Γf : List Asn} [hT : TyI P T false 1] (ha : evF F a = some (.pointer (some (ela s i)))) (hx : evF F x = some v) (hp : Takes Γ [rowN e sz s m xs] Γf) (h1 : v.oneCell' = true) (hi : i < xs.length) :
    OpT P n Γ F ⟨d, .store T a x, ty, pos, af, gd⟩ [rowN e sz s m xs] (RLeave [rowN e sz s m (xs.set i v)]) := fun ρ w hf hw _ => by
  have hb : (rowN e sz s m xs).holds w := hw _ (hp.mem_iff.2 (List.mem_cons_self ..))
  obtain ⟨h2, h3⟩ := hb
  have hm : m ≠ 0 := by rintro rfl; simp at h2; subst h2; simp at hi
  rcases h3 with ⟨_, h0⟩ | ⟨g, cap, cur, rfl, hB, hg, hnc, hcm, hcs, ht⟩
  · exact absurd h0 hm
  have hlt : i < cur.size := by
    rw [hcs]
    have e1 : xs.length = m * sz := h2
    have e2 : m * sz ≤ cap * sz := Nat.mul_le_mul_right sz hnc
    omega
  have hst := run_storeCells_at P g i e [v] 0 cur w hg (by simp; omega) (fun u hu => by rw [List.mem_singleton.1 hu]; exact h1)
  simp only [Nat.add_zero, List.length_singleton] at hst
  have e1 := List.set_eq_take_append_cons_drop (l := cur.toList) (i := i) (a := v)
  rw [if_pos (by simpa using hlt)] at e1
  rw [List.append_assoc, List.singleton_append, ← e1] at hst
  have : (execOp ρ.eval ⟨d, .store T a x, ty, pos, af, gd⟩).run P w = .ok .skip (w.setRow g (cur.toList.set i v).toArray) := by
    simp [execOp, hf.eval ha, hf.eval hx, Instr.storeAt, Instr.sureAddr, Sem.run_bind, storeVar, hT.run_sizeOf, cells_one h1, ela, add_mk, hst]
  unfold DoesW
  rw [this]
  have hg' : ownFp [rowN e sz (.slice (some ⟨g, 0, none⟩) m cap) m xs] g := ⟨_, List.mem_singleton.2 rfl, rfl, rfl⟩
  refine ⟨_, rfl, .one (Mod.setRow hg' _ _) ⟨by simpa using h2, .inr ⟨g, cap, _, rfl, hB, setRow_heap w g _ _ e (0, 0) hg, hnc, hcm, by simpa using hcs, ?_⟩⟩ fun k hk => .inr (by cases hk; exact hg')⟩
  rw [← ht]
  simp [List.take_set]
theorem rows_set {α : Type} {f : α → List Value} {sz : Nat} {x y : α} {o : Nat} {u : Value} (hf : ∀ x, (f x).length = sz) (hy : f y = (f x).set o u) (ho : o < sz) : ∀ {l : List α} {i : Nat}, l[i]? = some x → (l.map f).flatten.set (i * sz + o) u = ((l.set i y).map f).flatten
  | [], i, h => by simp at h
  | a :: l, 0, h => by
    simp only [List.getElem?_cons_zero, Option.some.injEq] at h
    subst h
    rw [Nat.zero_mul, Nat.zero_add, List.map_cons, List.flatten_cons, List.set_append_left _ _ (by rw [hf]; exact ho), ← hy]; rfl
  | a :: l, i + 1, h => by
    simp only [List.getElem?_cons_succ] at h
    rw [List.map_cons, List.flatten_cons, List.set_append_right _ _ (by rw [hf, Nat.succ_mul]; omega), hf, show (i + 1) * sz + o - sz = i * sz + o by rw [Nat.succ_mul]; omega, rows_set hf hy ho h]; rfl
end
end Go.Proofs.YtagedgcdonodfaaDoor
/- Separation: a block that is only read. -/
namespace Go.Proofs.YtagedgcdonodfaaDoor
open Go.RowKit
set_option linter.unusedSimpArgs false
set_option linter.unusedVariables false
def rbx (g : Nat) (T : TypeId) (cs : Ch) : Asn where
  own := false
  fp := fun g' => g' = g
  holds := (bx g T cs).holds
  lt := (bx g T cs).lt
  loc := (bx g T cs).loc
theorem Prov.bx {Γ : List Asn} {g : Nat} {T : TypeId} {cs : Ch} (h : Go.Proofs.YtagedgcdonodfaaDoor.bx g T cs ∈ Γ) : Prov Γ (rbx g T cs) := ⟨rfl, fun w hw => hw (Go.Proofs.YtagedgcdonodfaaDoor.bx g T cs) h⟩
section
variable {P : Program} {n : Nat} {Γ : List Asn} {F : List (Nat × Value)}
variable {d : Option Tmp} {ty : TypeId} {pos : String} {af : Array Edge} {gd : Option (Nat × Bool)}
theorem ReadR.loadO {T T' : TypeId} [hT : TyI P T false 1] {x : Operand} {g off : Nat} {cs : Ch} {v : Value} (hm : rbx g T' cs ∈ Γ) (hs : sel cs off 1 = some [(1, [v])]) (hx : evF F x = some (.pointer (some ⟨g, off, none⟩))) :
    ReadR P n Γ F ⟨d, .load T x, ty, pos, af, gd⟩ v := fun ρ w hf hw => by
  have hb : (bx g T' cs).holds w := hw (rbx g T' cs) hm
  have hc : w.cell? ⟨g, off, none⟩ = some v := by
    rw [bx_cell hb]
    exact sel_cells hs hb.2.len 0 v rfl
  simp [execOp, hf.eval hx, Instr.loadAt, Instr.sureAddr, run_load1 (T := T) hc]
end
end Go.Proofs.YtagedgcdonodfaaDoor
/- Drawn regions with calls that are told by a relation; stores of structs into rows. -/
namespace Go.Proofs.YtagedgcdonodfaaDoor
open Go.RowKit
set_option linter.unusedSimpArgs false
set_option linter.unusedVariables false
/-- What a list of what is owned is told by. -/
noncomputable def pickG {σ : Type} [Inhabited σ] (G : σ → List Asn) (ok : σ → Prop) (Γ : List Asn) : σ := Classical.epsilon (fun x => Γ = G x ∧ ok x)
section
variable {P : Program} {n : Nat} {Γ : List Asn} {F : List (Nat × Value)} {ops : Array Oper} {eats : List (Nat × Nat)} {K : Prev → Prop} {j : Nat} {os : List Oper} {o : Oper} {D bad : List Nat} {Ds : List (List Nat × List Nat)} {prev : Prev}
/-- The same, told by a state. -/
theorem RGl.relG {σ : Type} [Inhabited σ] {R : Value → List Asn → Prop} (c : Value) (G : σ → List Asn) (ok : σ → Prop) {Γ1 : Env → List Asn} (hR : ∀ v Γ', R v Γ' → v = c ∧ ∃ x, Γ' = G x ∧ ok x) (h : ∀ e, oksR D e prev → OpT P n (ensR eats D j e prev ++ Γ) (bndR D e prev ++ fcutR bad F) o (Γ1 e) R)
    (k : RGl P n Γ F ops eats K (j + 1) os Ds ((j, o.dst, ⟨fun _ _ => c, fun _ r => G (pickG G ok r.2), fun _ r => ok (pickG G ok r.2)⟩) :: prev)) (hs : ∀ e, ∀ A, A ∈ Γ1 e → A ∈ eaten1R eats j e prev := by intro e A hA; first | exact hA | simpa [eaten1R, psp, or_comm] using hA) (hw : ∀ e, wantG (bndR D e prev ++ fcutR bad F) ops o.guard = some true := by intro e; first | rfl | fail) :
    RGl P n Γ F ops eats K j (o :: os) ((D, bad) :: Ds) prev :=
  RGl.stepR (fun e he => .op (hw e) (h e he) (hs e) (by intro v Γ' hr; obtain ⟨h1, hx⟩ := hR v Γ' hr; have h2 := Classical.epsilon_spec hx; exact ⟨h1, h2.1, h2.2⟩)) (fun e _ => ⟨rfl, rfl, rfl⟩) k
variable {d : Option Tmp} {ty : TypeId} {pos : String} {af : Array Edge} {gd : Option (Nat × Bool)}
end
end Go.Proofs.YtagedgcdonodfaaDoor
