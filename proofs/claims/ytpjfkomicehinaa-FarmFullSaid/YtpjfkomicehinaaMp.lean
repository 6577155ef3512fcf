/- Maps: what they hold, and what operations do with them. -/
import Derived.Test.YtpjfkomicehinaaBn
import Derived.Maps.Keyed
import Derived.DeepKeys4
namespace Go.Proofs.Ytpjfkomicehinaa
open Go.RowKit
set_option linter.unusedSimpArgs false
set_option linter.unusedVariables false
set_option linter.unusedSectionVars false

/-- How keys and elements stand in a map. -/
structure MK (K V : Type) where
  kc : K → Value
  vc : V → Value
  v0 : V
  wf : K → Prop
section
variable {K V : Type} [DecidableEq K]
def mfind : List (K × V) → K → Option V
  | [], _ => none
  | x :: l, k => if x.1 = k then some x.2 else mfind l k
def mput : List (K × V) → K → V → List (K × V)
  | [], k, v => [(k, v)]
  | x :: l, k, v => if x.1 = k then (k, v) :: l else x :: mput l k v
def mdel : List (K × V) → K → List (K × V)
  | [], _ => []
  | x :: l, k => if x.1 = k then l else x :: mdel l k
def mget (M : MK K V) (l : List (K × V)) (k : K) : V := (mfind l k).getD M.v0
def mhas (l : List (K × V)) (k : K) : Bool := (mfind l k).isSome
theorem mfind_none {l : List (K × V)} {k : K} (h : ∀ x ∈ l, x.1 ≠ k) : mfind l k = none ∧ (∀ v, mput l k v = l ++ [(k, v)]) ∧ mdel l k = l := by
  induction l with
  | nil => exact ⟨rfl, fun _ => rfl, rfl⟩
  | cons x l ih =>
    obtain ⟨h1, h2, h3⟩ := ih fun y hy => h y (List.mem_cons_of_mem _ hy)
    have hx := h x (List.mem_cons_self ..)
    simp only [mfind, mput, mdel, if_neg hx, h1, h2, h3, List.cons_append, implies_true, and_self]
theorem mfind_some {l : List (K × V)} {k : K} (hn : (l.map (·.1)).Nodup) : ∀ {j : Nat} {x : K × V}, l[j]? = some x → x.1 = k → mfind l k = some x.2 ∧ (∀ v, mput l k v = l.set j (k, v)) ∧ mdel l k = l.eraseIdx j := by
  induction l with
  | nil => intro j x h; simp at h
  | cons y l ih =>
    intro j x h hk
    rw [List.map_cons, List.nodup_cons] at hn
    cases j with
    | zero =>
      simp only [List.getElem?_cons_zero, Option.some.injEq] at h
      subst h
      simp only [mfind, mput, mdel, if_pos hk, List.set_cons_zero, List.eraseIdx_cons_zero, implies_true, and_self]
    | succ j =>
      simp only [List.getElem?_cons_succ] at h
      have hne : y.1 ≠ k := by
        intro e
        apply hn.1
        rw [e, ← hk]
        exact List.mem_map.2 ⟨x, List.mem_of_getElem? h, rfl⟩
      obtain ⟨h1, h2, h3⟩ := ih hn.2 h hk
      simp only [mfind, mput, mdel, if_neg hne, h1, h2, h3, List.set_cons_succ, List.eraseIdx_cons_succ, implies_true, and_self]
theorem mput_keys {l : List (K × V)} {k : K} {v : V} (hn : (l.map (·.1)).Nodup) : ((mput l k v).map (·.1)).Nodup := by
  have key : ∀ l : List (K × V), ∀ a, a ∈ (mput l k v).map (·.1) → a = k ∨ a ∈ l.map (·.1) := by
    intro l
    induction l with
    | nil => intro a h; simpa [mput] using h
    | cons x l ih =>
      intro a h
      unfold mput at h
      split at h
      · simp only [List.map_cons, List.mem_cons] at h ⊢
        rcases h with h | h
        · exact .inl h
        · exact .inr (.inr h)
      · simp only [List.map_cons, List.mem_cons] at h ⊢
        rcases h with h | h
        · exact .inr (.inl h)
        · rcases ih a h with h | h
          · exact .inl h
          · exact .inr (.inr h)
  induction l with
  | nil => simp [mput]
  | cons x l ih =>
    rw [List.map_cons, List.nodup_cons] at hn
    unfold mput
    split
    · rename_i e
      subst e
      rw [List.map_cons, List.nodup_cons]
      exact hn
    · rename_i e
      rw [List.map_cons, List.nodup_cons]
      refine ⟨fun hm => ?_, ih hn.2⟩
      rcases key l _ hm with h | h
      · exact e h
      · exact hn.1 h
theorem mdel_sub {l : List (K × V)} {k : K} : (mdel l k).Sublist l := by
  induction l with
  | nil => exact .slnil
  | cons x l ih =>
    unfold mdel
    split
    · exact List.sublist_cons_self ..
    · exact ih.cons_cons _
theorem mdel_keys {l : List (K × V)} {k : K} (hn : (l.map (·.1)).Nodup) : ((mdel l k).map (·.1)).Nodup := (mdel_sub.map _).nodup hn
theorem mfind_put {l : List (K × V)} {k k' : K} {v : V} : mfind (mput l k v) k' = if k = k' then some v else mfind l k' := by
  induction l with
  | nil => simp [mput, mfind]
  | cons x l ih =>
    unfold mput
    split
    · rename_i e
      subst e
      simp only [mfind]
      split <;> rfl
    · rename_i e
      simp only [mfind, ih]
      by_cases h : x.1 = k'
      · have : k ≠ k' := fun hh => e (h.trans hh.symm)
        rw [if_pos h, if_neg this, if_pos h]
      · rw [if_neg h, if_neg h]
theorem mget_put {M : MK K V} {l : List (K × V)} {k k' : K} {v : V} : mget M (mput l k v) k' = if k = k' then v else mget M l k' := by
  unfold mget
  rw [mfind_put]
  split <;> rfl
end

/-- Map g is one's own, and holds these. -/
def mp {K V : Type} (M : MK K V) (g : Nat) (l : List (K × V)) : Asn where
  own := true
  fp := fun g' => g' = g
  holds := fun w => ∃ es clock, w.heap[g]? = some (.map es clock) ∧ es.toList.map (fun e => (e.key, e.val)) = l.map (fun x => (M.kc x.1, M.vc x.2)) ∧ (es.toList.map (·.born)).Pairwise (· < ·) ∧ (∀ e ∈ es.toList, e.born < clock) ∧ (l.map (·.1)).Nodup ∧ ∀ x ∈ l, M.wf x.1
  lt := fun w h g' hg => by
    subst hg
    obtain ⟨es, clock, h, _⟩ := h
    rcases Nat.lt_or_ge g' w.heap.size with h1 | h1
    · exact h1
    · rw [Array.getElem?_eq_none h1] at h; cases h
  loc := fun w w' h hl => by
    obtain ⟨es, clock, h, h2⟩ := h
    exact ⟨es, clock, by rw [hl g rfl]; exact h, h2⟩
theorem mp_own {K V : Type} {M : MK K V} {g : Nat} {l : List (K × V)} : (mp M g l).own = true := rfl

class MapI {K V : Type} (P : Program) (T : TypeId) (M : MK K V) : Prop where
  law : ∃ kT eT, P.underlying T = some (.map kT eT) ∧ Go.Maps.Keyed P kT ∧ (∀ k, M.wf k → ∃ l, keyOf P kT (M.kc k) = some l) ∧ ∀ w, (zeroValue eT).run P w = .ok (M.vc M.v0) w
  inj : ∀ a b, M.kc a = M.kc b → a = b

section
variable {K V : Type} [DecidableEq K] {P : Program} {T : TypeId} {M : MK K V}
theorem mp_at {es : List MapEntry} {l : List (K × V)} (h : es.map (fun e => (e.key, e.val)) = l.map (fun x => (M.kc x.1, M.vc x.2))) {j : Nat} {e : MapEntry} (he : es[j]? = some e) : ∃ x, l[j]? = some x ∧ e.key = M.kc x.1 ∧ e.val = M.vc x.2 := by
  have h1 : (es.map (fun e => (e.key, e.val)))[j]? = some (e.key, e.val) := by rw [List.getElem?_map, he]; rfl
  rw [h, List.getElem?_map] at h1
  cases hx : l[j]? with
  | none => rw [hx] at h1; cases h1
  | some x =>
    rw [hx] at h1
    simp only [Option.map_some, Option.some.injEq, Prod.mk.injEq] at h1
    exact ⟨x, rfl, h1.1.symm, h1.2.symm⟩
theorem mp_key {es : List MapEntry} {l : List (K × V)} (h : es.map (fun e => (e.key, e.val)) = l.map (fun x => (M.kc x.1, M.vc x.2))) {e : MapEntry} (he : e ∈ es) : ∃ x ∈ l, e.key = M.kc x.1 := by
  obtain ⟨j, hj⟩ := List.getElem?_of_mem he
  obtain ⟨x, h0, h1, _⟩ := mp_at h hj
  exact ⟨x, List.mem_of_getElem? h0, h1⟩
theorem mp_no {es : List MapEntry} {l : List (K × V)} (h : es.map (fun e => (e.key, e.val)) = l.map (fun x => (M.kc x.1, M.vc x.2))) {k : K} (hk : ∀ e ∈ es, e.key ≠ M.kc k) : ∀ x ∈ l, x.1 ≠ k := by
  intro x hx e
  have : (M.kc x.1, M.vc x.2) ∈ es.map (fun e => (e.key, e.val)) := by rw [h]; exact List.mem_map.2 ⟨x, hx, rfl⟩
  obtain ⟨y, hy, he⟩ := List.mem_map.1 this
  simp only [Prod.mk.injEq] at he
  exact hk y hy (by rw [he.1, e])
theorem run_mlook [h : MapI P T M] {g : Nat} {l : List (K × V)} {w : World} (hm : (mp M g l).holds w) (k : K) (hkw : M.wf k) (ok : Bool) :
    (Instr.lookup T (.map (some g)) (M.kc k) ok).run P w = .ok (if ok then .tuple #[M.vc (mget M l k), .bool (mhas l k)] else M.vc (mget M l k)) w := by
  obtain ⟨kT, eT, hu, hK, hk, hz⟩ := h.law
  obtain ⟨es, clock, hb, he, h1, h2, hn, hwf⟩ := hm
  obtain ⟨kl, hkl⟩ := hk k hkw
  have hall : ∀ e ∈ es.toList, ∃ l, keyOf P kT e.key = some l := fun e hm => by
    obtain ⟨x', hx', hk'⟩ := mp_key he hm
    rw [hk']; exact hk _ (hwf x' hx')
  rcases hK.find w hkl es.toList hall with ⟨f1, f2⟩ | ⟨j, e0, f1, f2, f3⟩
  · have := (mfind_none (mp_no he f2)).1
    simp [Instr.lookup, run_underlying hu, MapKept.run_getObj_map hb, hK.check w _ hkl, f1, hz, Result.andThen, mget, mhas, this]
  · obtain ⟨x, g1, g2, g3⟩ := mp_at he f2
    have hx : x.1 = k := h.inj _ _ (g2.symm.trans f3)
    have := (mfind_some hn g1 hx).1
    simp [Instr.lookup, run_underlying hu, MapKept.run_getObj_map hb, hK.check w _ hkl, f1, Result.andThen, mget, mhas, this, g3]
theorem mod_block {S : Nat → Prop} {g : Nat} (hg : S g) (w : World) (o : Obj) : Mod S w (ChangeMaps.setBlock w g o) :=
  ⟨rfl, rfl, rfl, by simp [ChangeMaps.setBlock], by simp [ChangeMaps.setBlock], fun k _ hk => by
    have : g ≠ k := fun e => hk (e ▸ hg)
    simp [ChangeMaps.setBlock, Array.getElem?_setIfInBounds, this]⟩
theorem block_set {w : World} {g : Nat} {o o' : Obj} (h : w.heap[g]? = some o) : (ChangeMaps.setBlock w g o').heap[g]? = some o' := by
  have : g < w.heap.size := (Array.getElem?_eq_some_iff.1 h).1
  simp [ChangeMaps.setBlock, Array.getElem?_setIfInBounds, this]
theorem mput_wf {l : List (K × V)} {k : K} {v : V} (h : ∀ x ∈ l, M.wf x.1) (hk : M.wf k) : ∀ x ∈ Go.Proofs.Ytpjfkomicehinaa.mput l k v, M.wf x.1 := by
  induction l with
  | nil => intro x hx; simp only [Go.Proofs.Ytpjfkomicehinaa.mput, List.mem_singleton] at hx; subst hx; exact hk
  | cons y l ih =>
    intro x hx
    unfold Go.Proofs.Ytpjfkomicehinaa.mput at hx
    split at hx
    · rcases List.mem_cons.1 hx with rfl | hx
      · exact hk
      · exact h x (List.mem_cons_of_mem _ hx)
    · rcases List.mem_cons.1 hx with rfl | hx
      · exact h _ (List.mem_cons_self ..)
      · exact ih (fun z hz => h z (List.mem_cons_of_mem _ hz)) x hx
theorem run_mput [h : MapI P T M] {g : Nat} {l : List (K × V)} {w : World} (hm : (mp M g l).holds w) (k : K) (hkw : M.wf k) (v : V) :
    ∃ o, (Instr.mapUpdate T (.map (some g)) (M.kc k) (M.vc v)).run P w = .ok () (ChangeMaps.setBlock w g o) ∧ (mp M g (mput l k v)).holds (ChangeMaps.setBlock w g o) := by
  obtain ⟨kT, eT, hu, hK, hk, hz⟩ := h.law
  obtain ⟨es, clock, hb, he, h1, h2, hn, hwf⟩ := hm
  obtain ⟨kl, hkl⟩ := hk k hkw
  have hall : ∀ e ∈ es.toList, ∃ l, keyOf P kT e.key = some l := fun e hm => by
    obtain ⟨x', hx', hk'⟩ := mp_key he hm
    rw [hk']; exact hk _ (hwf x' hx')
  rcases hK.find w hkl es.toList hall with ⟨f1, f2⟩ | ⟨j, e0, f1, f2, f3⟩
  · refine ⟨.map (es.push ⟨M.kc k, M.vc v, clock⟩) (clock + 1), ?_, ?_⟩
    · simp [Instr.mapUpdate, run_underlying hu, MapKept.run_getObj_map hb, hK.check w false hkl, f1, MapKept.run_setObj_map _ hb, Result.andThen, ChangeMaps.setBlock]
    · refine ⟨_, _, block_set hb, ?_, ?_, ?_, mput_keys hn, mput_wf hwf hkw⟩
      · rw [(mfind_none (mp_no he f2)).2.1 v, Array.toList_push, List.map_append, List.map_append, he]; rfl
      · rw [Array.toList_push, List.map_append, List.pairwise_append]
        refine ⟨h1, List.pairwise_singleton _ _, fun a ha b hb' => ?_⟩
        obtain ⟨e, he', rfl⟩ := List.mem_map.1 ha
        simp only [List.map_cons, List.map_nil, List.mem_singleton] at hb'
        subst hb'
        exact h2 e he'
      · intro e he'
        rw [Array.toList_push, List.mem_append, List.mem_singleton] at he'
        rcases he' with he' | rfl
        · exact Nat.lt_succ_of_lt (h2 e he')
        · exact Nat.lt_succ_self _
  · obtain ⟨x, g1, g2, g3⟩ := mp_at he f2
    have hx : x.1 = k := h.inj _ _ (g2.symm.trans f3)
    have hj : es[j]? = some e0 := by simpa using f2
    refine ⟨.map (es.modify j fun e => { e with key := M.kc k, val := M.vc v }) clock, ?_, ?_⟩
    · have hst := hK.stays w hkl
      simp [Instr.mapUpdate, run_underlying hu, MapKept.run_getObj_map hb, hK.check w false hkl, f1, hj, f3, hst, MapKept.run_setObj_map _ hb, Result.andThen, ChangeMaps.setBlock]
    · have hs : (es.modify j fun e => { e with key := M.kc k, val := M.vc v }).toList = es.toList.set j { e0 with key := M.kc k, val := M.vc v } := by
        rw [Array.toList_modify, ChangeMaps.modify_eq_set _ _ _ _ f2]
      refine ⟨_, _, block_set hb, ?_, ?_, ?_, mput_keys hn, mput_wf hwf hkw⟩
      · rw [hs, (mfind_some hn g1 hx).2.1 v, List.map_set, List.map_set, he]
      · rw [hs, List.map_set]
        have : (es.toList.map (·.born))[j]? = some e0.born := by rw [List.getElem?_map, f2]; rfl
        have h3 : (es.toList.map (·.born)).set j e0.born = es.toList.map (·.born) := by
          apply List.ext_getElem?
          intro i
          rw [List.getElem?_set]
          split
          · rename_i e; subst e
            split
            · exact this.symm
            · rename_i h4
              rw [List.getElem?_eq_none (by omega)]
          · rfl
        show List.Pairwise _ ((es.toList.map (·.born)).set j e0.born)
        rw [h3]; exact h1
      · intro e he'
        rw [hs] at he'
        rcases List.mem_or_eq_of_mem_set he' with h4 | rfl
        · exact h2 e h4
        · exact h2 e0 (List.mem_of_getElem? f2)
theorem run_mdel [h : MapI P T M] {g : Nat} {l : List (K × V)} {w : World} {kT' ty : TypeId} (hm : (mp M g l).holds w) (k : K) (hkw : M.wf k) :
    ∃ o, (Builtin.delete_ #[T, kT'] ty #[.map (some g), M.kc k]).run P w = .ok (.tuple #[]) (ChangeMaps.setBlock w g o) ∧ (mp M g (mdel l k)).holds (ChangeMaps.setBlock w g o) := by
  obtain ⟨kT, eT, hu, hK, hk, hz⟩ := h.law
  obtain ⟨es, clock, hb, he, h1, h2, hn, hwf⟩ := hm
  obtain ⟨kl, hkl⟩ := hk k hkw
  have hall : ∀ e ∈ es.toList, ∃ l, keyOf P kT e.key = some l := fun e hm => by
    obtain ⟨x', hx', hk'⟩ := mp_key he hm
    rw [hk']; exact hk _ (hwf x' hx')
  rcases hK.find w hkl es.toList hall with ⟨f1, f2⟩ | ⟨j, e0, f1, f2, f3⟩
  · refine ⟨.map es clock, ?_, ⟨es, clock, block_set hb, ?_, h1, h2, mdel_keys hn, fun x hx => hwf x (mdel_sub.subset hx)⟩⟩
    · simp [Builtin.delete_, run_underlying hu, MapKept.run_getObj_map hb, hK.check w _ hkl, f1, MapKept.run_setObj_map _ hb, Result.andThen, ChangeMaps.setBlock]
    · rw [(mfind_none (mp_no he f2)).2.2]; exact he
  · obtain ⟨x, g1, g2, g3⟩ := mp_at he f2
    have hx : x.1 = k := h.inj _ _ (g2.symm.trans f3)
    have hs : (es.eraseIdxIfInBounds j).toList = es.toList.eraseIdx j := by
      unfold Array.eraseIdxIfInBounds
      split
      · rw [Array.toList_eraseIdx]
      · rename_i h4
        rw [List.eraseIdx_of_length_le (by simpa using h4)]
    refine ⟨.map (es.eraseIdxIfInBounds j) clock, ?_, ⟨_, clock, block_set hb, ?_, ?_, ?_, mdel_keys hn, fun x hx => hwf x (mdel_sub.subset hx)⟩⟩
    · simp [Builtin.delete_, run_underlying hu, MapKept.run_getObj_map hb, hK.check w _ hkl, f1, MapKept.run_setObj_map _ hb, Result.andThen, ChangeMaps.setBlock]
    · rw [hs, (mfind_some hn g1 hx).2.2, ChangeMaps.map_eraseIdx, ChangeMaps.map_eraseIdx, he]
    · rw [hs]
      exact h1.sublist ((List.eraseIdx_sublist _ _).map _)
    · intro e he'
      rw [hs] at he'
      exact h2 e (List.mem_of_mem_eraseIdx he')

variable {n : Nat} {W : World} {S : Nat → Prop} {Γ : List Asn} {F : List (Nat × Value)} {Q : Exit → Act → World → Prop} {ops : Array Oper} {os : List Oper}
variable {ty : TypeId} {pos : String} {af : Array Edge} {gd : Option (Nat × Bool)}
theorem ReadR.look [h : MapI P T M] {d : Option Tmp} {x i : Operand} {g : Nat} {l : List (K × V)} {k : K} {c : Value} (hkw : M.wf k) (hx : evF F x = some (.map (some g))) (hi : evF F i = some (M.kc k)) (hm : mp M g l ∈ Γ) (hc : M.vc (mget M l k) = c) :
    ReadR P n Γ F ⟨d, .lookup T x i false, ty, pos, af, gd⟩ c := fun ρ w hf hw => by
  have := run_mlook (P := P) (T := T) (hw _ hm) k hkw false
  subst hc
  simp [execOp, hf.eval hx, hf.eval hi, this]
theorem ReadR.lookOk [h : MapI P T M] {d : Option Tmp} {x i : Operand} {g : Nat} {l : List (K × V)} {k : K} {c : Value} {b : Bool} (hkw : M.wf k) (hx : evF F x = some (.map (some g))) (hi : evF F i = some (M.kc k)) (hm : mp M g l ∈ Γ) (hc : M.vc (mget M l k) = c) (hb : mhas l k = b) :
    ReadR P n Γ F ⟨d, .lookup T x i true, ty, pos, af, gd⟩ (.tuple #[c, .bool b]) := fun ρ w hf hw => by
  have := run_mlook (P := P) (T := T) (hw _ hm) k hkw true
  subst hc
  subst hb
  simp [execOp, hf.eval hx, hf.eval hi, this]
theorem ReadR.mlen [h : MapI P T M] {d : Option Tmp} {x : Operand} {g : Nat} {l : List (K × V)} (hx : evF F x = some (.map (some g))) (hm : mp M g l ∈ Γ) :
    ReadR P n Γ F ⟨d, .call { callee := .builtin .len, args := #[x], argTypes := #[T] }, ty, pos, af, gd⟩ (.int .i64 (l.length : Int)) := fun ρ w hf hw => by
  obtain ⟨kT, eT, hu, _⟩ := h.law
  obtain ⟨es, clock, hb, he, _⟩ := hw _ hm
  have hl : es.size = l.length := by have := congrArg List.length he; simpa using this
  simp [execOp, resolve, invoke, builtin, Builtin.len_, hf.eval hx, run_underlying hu, MapKept.run_getObj_map hb, Result.andThen, goInt, hl]
theorem OpT.mput [h : MapI P T M] {d : Option Tmp} {x i y : Operand} {g : Nat} {l : List (K × V)} {k : K} {v : V} {Γf : List Asn} (hkw : M.wf k) (hx : evF F x = some (.map (some g))) (hi : evF F i = some (M.kc k)) (hy : evF F y = some (M.vc v)) (hp : Takes Γ [mp M g l] Γf) :
    OpT P n Γ F ⟨d, .mapUpdate T x i y, ty, pos, af, gd⟩ [mp M g l] (RLeave [mp M g (Go.Proofs.Ytpjfkomicehinaa.mput l k v)]) := fun ρ w hf hw _ => by
  have hb : (mp M g l).holds w := hw _ (hp.mem_iff.2 (List.mem_cons_self ..))
  obtain ⟨o, h1, h2⟩ := run_mput (P := P) (T := T) hb k hkw v
  have : (execOp ρ.eval ⟨d, .mapUpdate T x i y, ty, pos, af, gd⟩).run P w = .ok .skip (ChangeMaps.setBlock w g o) := by
    simp [execOp, hf.eval hx, hf.eval hi, hf.eval hy, Sem.run_bind, h1]
  unfold DoesW
  rw [this]
  have hg : ownFp [mp M g l] g := ⟨_, List.mem_singleton.2 rfl, rfl, rfl⟩
  exact ⟨_, rfl, .one (mod_block hg _ _) h2 fun g' hg' => .inr (by rw [show g' = g from hg']; exact hg)⟩
theorem OpT.mdel [h : MapI P T M] {d : Option Tmp} {x i : Operand} {kT' : TypeId} {g : Nat} {l : List (K × V)} {k : K} {Γf : List Asn} (hkw : M.wf k) (hx : evF F x = some (.map (some g))) (hi : evF F i = some (M.kc k)) (hp : Takes Γ [mp M g l] Γf) :
    OpT P n Γ F ⟨d, .call { callee := .builtin .delete, args := #[x, i], argTypes := #[T, kT'] }, ty, pos, af, gd⟩ [mp M g l] (RLeave [mp M g (Go.Proofs.Ytpjfkomicehinaa.mdel l k)]) := fun ρ w hf hw _ => by
  have hb : (mp M g l).holds w := hw _ (hp.mem_iff.2 (List.mem_cons_self ..))
  obtain ⟨o, h1, h2⟩ := run_mdel (P := P) (T := T) (kT' := kT') (ty := ty) hb k hkw
  have : (execOp ρ.eval ⟨d, .call { callee := .builtin .delete, args := #[x, i], argTypes := #[T, kT'] }, ty, pos, af, gd⟩).run P w = .ok (.value (.tuple #[])) (ChangeMaps.setBlock w g o) := by
    simp [execOp, resolve, invoke, builtin, hf.eval hx, hf.eval hi, Sem.run_bind, h1]
  unfold DoesW
  rw [this]
  have hg : ownFp [mp M g l] g := ⟨_, List.mem_singleton.2 rfl, rfl, rfl⟩
  exact ⟨_, rfl, .one (mod_block hg _ _) h2 fun g' hg' => .inr (by rw [show g' = g from hg']; exact hg)⟩
/-! ### Keys of integers and bools -/
def inR : Value → Prop
  | .int k n => (Lit.int k n).wf = true
  | _ => True
theorem mapM_ex {α β : Type} {f : α → Option β} : ∀ {l : List α}, (∀ x ∈ l, ∃ y, f x = some y) → ∃ r, l.mapM f = some r
  | [], _ => ⟨[], rfl⟩
  | a :: l, h => by
    obtain ⟨y, hy⟩ := h a (List.mem_cons_self ..)
    obtain ⟨r, hr⟩ := mapM_ex fun x hx => h x (List.mem_cons_of_mem _ hx)
    exact ⟨y :: r, by rw [List.mapM_cons, hy, hr]; rfl⟩
theorem shp_rep {ks : List (Option IntKind)} : ∀ {n i : Nat} {vs : List Value}, Shp (List.replicate n ks).flatten vs → i < n → Shp ks ((vs.drop (i * ks.length)).take ks.length)
  | 0, _, _, _, h => absurd h (Nat.not_lt_zero _)
  | n + 1, i, vs, h, hi => by
    rw [List.replicate_succ, List.flatten_cons] at h
    obtain ⟨v1, v2, rfl, h1, h2⟩ := Shp.split h
    have hl := h1.length
    cases i with
    | zero =>
      rw [Nat.zero_mul, List.drop_zero, List.take_append_of_le_length (by omega), List.take_of_length_le (by omega)]
      exact h1
    | succ i =>
      rw [Nat.succ_mul, Nat.add_comm, ← List.drop_drop, show (v1 ++ v2).drop ks.length = v2 by rw [← hl, List.drop_left]]
      exact shp_rep h2 (by omega)
theorem shp_fields {P : Program} {fuel tot : Nat} (vs : List Value) : ∀ (fs : List Field) (off : Nat) (ks : List (Option IntKind)), (fs.foldr (fun f acc => fun off => if f.offset = off then (flatT P fuel f.type).bind fun ks => if P.cellsOf f.type = ks.length then (acc (off + ks.length)).map (ks ++ ·) else none else none) (fun off => if tot = off then some [] else none)) off = some ks → Shp ks (vs.drop off) →
    ∀ f ∈ fs, ∃ k1, flatT P fuel f.type = some k1 ∧ P.cellsOf f.type = k1.length ∧ Shp k1 ((vs.drop f.offset).take (P.cellsOf f.type))
  | [], _, _, _, _, f, hf => by cases hf
  | g :: fs, off, ks, h, hs, f, hf => by
    rw [List.foldr_cons] at h
    split at h
    · rename_i ho
      cases h1 : flatT P fuel g.type with
      | none => rw [h1] at h; cases h
      | some k1 =>
        rw [h1] at h
        simp only [Option.bind_some] at h
        split at h
        · rename_i hc
          cases h2 : (fs.foldr (fun f acc => fun off => if f.offset = off then (flatT P fuel f.type).bind fun ks => if P.cellsOf f.type = ks.length then (acc (off + ks.length)).map (ks ++ ·) else none else none) (fun off => if tot = off then some [] else none)) (off + k1.length) with
          | none => rw [h2] at h; cases h
          | some k2 =>
            rw [h2] at h
            simp only [Option.map_some, Option.some.injEq] at h
            subst h
            obtain ⟨c1, c2⟩ := Shp.cut hs
            rw [List.drop_drop] at c2
            rcases List.mem_cons.1 hf with rfl | hf
            · exact ⟨k1, h1, hc, by rw [ho, hc]; exact c1⟩
            · exact shp_fields vs fs _ _ h2 c2 f hf
        · cases h
    · cases h
theorem flat_total {P : Program} {fuel tot : Nat} : ∀ {fs : List Field} {off : Nat} {ks : List (Option IntKind)}, (fs.foldr (fun f acc => fun off => if f.offset = off then (flatT P fuel f.type).bind fun ks => if P.cellsOf f.type = ks.length then (acc (off + ks.length)).map (ks ++ ·) else none else none) (fun off => if tot = off then some [] else none)) off = some ks → off + ks.length = tot
  | [], off, ks, h => by
    simp only [List.foldr_nil] at h
    split at h
    · rename_i e; cases h; simpa using e.symm
    · cases h
  | g :: fs, off, ks, h => by
    rw [List.foldr_cons] at h
    split at h
    · cases h1 : flatT P fuel g.type with
      | none => rw [h1] at h; cases h
      | some k1 =>
        rw [h1] at h
        simp only [Option.bind_some] at h
        split at h
        · cases h2 : (fs.foldr (fun f acc => fun off => if f.offset = off then (flatT P fuel f.type).bind fun ks => if P.cellsOf f.type = ks.length then (acc (off + ks.length)).map (ks ++ ·) else none else none) (fun off => if tot = off then some [] else none)) (off + k1.length) with
          | none => rw [h2] at h; cases h
          | some k2 =>
            rw [h2] at h
            simp only [Option.map_some, Option.some.injEq] at h
            subst h
            have := flat_total h2
            simp only [List.length_append]
            omega
        · cases h
    · cases h
theorem keyLits_shp {P : Program} : ∀ (fuel d : Nat) (t : TypeId) (ks : List (Option IntKind)) (vs : List Value), fuel ≤ d → flatT P fuel t = some ks → eqFine P fuel t = true → Shp ks vs → (∀ v ∈ vs, inR v) → ∃ ls, P.keyLits d t vs = some ls
  | 0, _, _, _, _, _, h, _, _, _ => (by cases h)
  | fuel + 1, 0, _, _, _, h, _, _, _, _ => absurd h (Nat.not_succ_le_zero _)
  | fuel + 1, d + 1, t, ks, vs, hd, hf, he, hs, hr => by
    have hd' : fuel ≤ d := Nat.le_of_succ_le_succ hd
    unfold flatT at hf
    unfold eqFine at he
    unfold Program.keyLits
    cases hu : P.underlying t with
    | none => rw [hu] at hf; cases hf
    | some dd =>
      rw [hu] at hf he
      cases dd with
      | bool =>
        cases hf
        match vs, hs with
        | [v], h =>
          obtain ⟨⟨b, rfl⟩, _⟩ := h
          exact ⟨_, rfl⟩
      | int k =>
        cases hf
        match vs, hs with
        | [v], h =>
          obtain ⟨⟨n, rfl⟩, _⟩ := h
          have : (Lit.int k n).wf = true := hr _ (List.mem_singleton.2 rfl)
          exact ⟨[.int k n], by simp only [this, and_self, if_true]⟩
      | array n e =>
        simp only at hf he
        cases h1 : flatT P fuel e with
        | none => rw [h1] at hf; cases hf
        | some k1 =>
          rw [h1] at hf
          simp only [Option.bind_some] at hf
          split at hf
          · rename_i hc
            simp only [Option.some.injEq] at hf
            subst hf
            have hl : vs.length = P.cellsOf t := by rw [hs.length, hc.2]; simp
            obtain ⟨r, hr2⟩ := mapM_ex (f := fun i => P.keyLits d e ((vs.drop (i * P.cellsOf e)).take (P.cellsOf e))) (l := List.range n) fun i hi => by
              rw [hc.1]
              exact keyLits_shp fuel d e k1 _ hd' h1 he (shp_rep hs (List.mem_range.1 hi)) fun v hv => hr v (List.mem_of_mem_drop (List.mem_of_mem_take hv))
            refine ⟨r.flatten, ?_⟩
            simp only
            rw [if_pos hl, hr2]; rfl
          · cases hf
      | struct fs =>
        simp only [Bool.and_eq_true, List.all_eq_true, decide_eq_true_eq] at hf he
        have hfl := shp_fields (P := P) (fuel := fuel) vs fs.toList 0 ks hf (by rw [List.drop_zero]; exact hs)
        obtain ⟨r, hr2⟩ := mapM_ex (f := fun f : Field => P.keyLits d f.type ((vs.drop f.offset).take (P.cellsOf f.type))) (l := fs.toList) fun f hf' => by
          obtain ⟨k1, g1, g2, g3⟩ := hfl f hf'
          exact keyLits_shp fuel d f.type k1 _ hd' g1 (he.2 f hf').2 g3 fun v hv => hr v (List.mem_of_mem_drop (List.mem_of_mem_take hv))
        have hl : vs.length = P.cellsOf t := by
          rw [hs.length]
          have := flat_total hf; omega
        have hn : fs.all (·.name != "_") = true := by
          rw [← Array.all_toList, List.all_eq_true]
          intro f hf'
          simpa using (he.2 f hf').1
        refine ⟨r.flatten, ?_⟩
        simp only
        rw [if_pos ⟨hl, hn⟩, hr2]; rfl
      | _ => cases hf
theorem keyOf_shp {P : Program} {t : TypeId} {ks : List (Option IntKind)} {cs : Ch} (hE : EqTy P t ks) (hk : P.keyType t = true) (hsz : 8 ≤ P.types.size + 1) (hc : P.cellsOf t = ks.length) (hs : Shp ks (flat cs)) (hr : ∀ v ∈ flat cs, inR v) : ∃ l, keyOf P t (ag cs) = some l := by
  obtain ⟨dd, hu, ha⟩ := hE.agg
  obtain ⟨ls, hls⟩ := keyLits_shp 8 (P.types.size + 1) t ks (flat cs) hsz hE.flat hE.fine hs hr
  have hfm : (ag cs).formed P t = true := by
    unfold ag Value.formed
    rw [hu]
    cases dd <;> first | (cases ha; done) | (simp [hc, hs.length])
  refine ⟨.string (keyBytes ls), ?_⟩
  unfold keyOf
  rw [hu, hk, hfm]
  have hcell : (ag cs).cells.toList = flat cs := by unfold ag; simp [Value.cells]
  cases dd <;> first | (cases ha; done) | (simp only [hcell, hls, Bool.and_self, if_true, Option.map_some])
def RMap {K V : Type} (M : MK K V) (l : List (K × V)) : Value → List Asn → Prop := fun v Γ => ∃ g, v = .map (some g) ∧ Γ = [mp M g l]
theorem OpT.mnew {K V : Type} (M : MK K V) {d : Option Tmp} {T : TypeId} : OpT P n Γ F ⟨d, .makeMap T none, ty, pos, af, gd⟩ [] (RMap M []) := fun ρ w hf hw _ => by
  have : (execOp ρ.eval ⟨d, .makeMap T none, ty, pos, af, gd⟩).run P w = .ok (.value (.map (some w.heap.size))) (w.alloc (.map #[] 0)) := by
    simp [execOp, Instr.makeMap, Sem.run_bind, newObj, Sem.run]
  unfold DoesW
  rw [this]
  exact ⟨_, ⟨_, rfl, rfl⟩, .one (Mod.alloc _ _ _) ⟨#[], 0, alloc_new _ _, rfl, .nil, fun e he => by simp at he, .nil, fun x hx => by cases hx⟩ fun g hg => .inl (Nat.le_of_eq hg.symm)⟩
theorem WPl.mnew {K V : Type} (M : MK K V) {d : Nat} {T : TypeId} (k : ∀ g, WPl P n W S (mp M g [] :: Γ) ((d, .map (some g)) :: F) ops os Q) (hlt : Nat.blt d n = true := by first | rfl | fail) (hw : wantG F ops gd = some true := by first | rfl | fail) :
    WPl P n W S Γ F ops (⟨some d, .makeMap T none, ty, pos, af, gd⟩ :: os) Q :=
  WPl.op .nil hlt hw (OpT.mnew M) (by rintro v Γ' ⟨g, rfl, rfl⟩; exact k g)
theorem WPl.mput [h : MapI P T M] {x i y : Operand} {g : Nat} {l : List (K × V)} (kk : K) (vv : V) (hkw : M.wf kk) {Γf : List Asn} (k : WPl P n W S (mp M g (Go.Proofs.Ytpjfkomicehinaa.mput l kk vv) :: Γf) F ops os Q) (hx : evF F x = some (.map (some g)) := by first | rfl | fail) (hi : evF F i = some (M.kc kk) := by first | rfl | fail) (hy : evF F y = some (M.vc vv) := by first | rfl | fail) (hp : Take Γ (mp M g l) Γf := by first | exact takeA | fail) (hw : wantG F ops gd = some true := by first | rfl | fail) :
    WPl P n W S Γ F ops (⟨none, .mapUpdate T x i y, ty, pos, af, gd⟩ :: os) Q := WPl.turn (.cons hp .nil) rfl hw (OpT.mput hkw hx hi hy (.cons hp .nil)) k
theorem WPl.mdel [h : MapI P T M] {x i : Operand} {kT' : TypeId} {g : Nat} {l : List (K × V)} (kk : K) (hkw : M.wf kk) {Γf : List Asn} (k : WPl P n W S (mp M g (Go.Proofs.Ytpjfkomicehinaa.mdel l kk) :: Γf) F ops os Q) (hx : evF F x = some (.map (some g)) := by first | rfl | fail) (hi : evF F i = some (M.kc kk) := by first | rfl | fail) (hp : Take Γ (mp M g l) Γf := by first | exact takeA | fail) (hw : wantG F ops gd = some true := by first | rfl | fail) :
    WPl P n W S Γ F ops (⟨none, .call { callee := .builtin .delete, args := #[x, i], argTypes := #[T, kT'] }, ty, pos, af, gd⟩ :: os) Q := WPl.turn (.cons hp .nil) rfl hw (OpT.mdel hkw hx hi (.cons hp .nil)) k
end
end Go.Proofs.Ytpjfkomicehinaa
