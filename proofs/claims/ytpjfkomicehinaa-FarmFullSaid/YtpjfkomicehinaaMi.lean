/- Maps that are ranged over; functions that are called by their value. -/
import Derived.Test.YtpjfkomicehinaaPo
import Derived.Maps.RangeRun
namespace Go.Proofs.Ytpjfkomicehinaa
open Go.RowKit
set_option linter.unusedSimpArgs false
set_option linter.unusedVariables false
set_option linter.unusedSectionVars false

section
variable {K V : Type} [DecidableEq K]
theorem mfind_at {l : List (K × V)} (hn : (l.map (·.1)).Nodup) {x : K × V} (hx : x ∈ l) : mfind l x.1 = some x.2 := by
  obtain ⟨j, hj⟩ := List.getElem?_of_mem hx
  exact (mfind_some hn hj rfl).1
theorem mdel_filter {l : List (K × V)} {k : K} (hn : (l.map (·.1)).Nodup) : mdel l k = l.filter (fun x => decide (x.1 ≠ k)) := by
  induction l with
  | nil => rfl
  | cons x l ih =>
    rw [List.map_cons, List.nodup_cons] at hn
    unfold mdel
    split
    · rename_i e
      subst e
      rw [List.filter_cons]
      simp only [ne_eq, not_true_eq_false, decide_false, Bool.false_eq_true, if_false]
      symm
      rw [List.filter_eq_self]
      intro y hy
      have : y.1 ≠ x.1 := fun h => hn.1 (h ▸ List.mem_map.2 ⟨y, hy, rfl⟩)
      simpa using this
    · rename_i e
      rw [List.filter_cons, if_pos (by simpa using e), ih hn.2]
/-- Map m and its iterator r: l is held, td is left, c is the one that came last. -/
def rg (M : MK K V) (m r : Nat) (l td : List (K × V)) (c : Option (K × V)) : Asn where
  own := true
  fp := fun g => g = m ∨ g = r
  holds := fun w => m ≠ r ∧ ∃ es clock since seen c0, w.heap[r]? = some (.mapIter (some m) since seen c0) ∧ w.heap[m]? = some (.map es clock) ∧
    (es.toList.map (fun e => (e.key, e.val)) = l.map (fun x => (M.kc x.1, M.vc x.2)) ∧ (es.toList.map (·.born)).Pairwise (· < ·) ∧ (∀ e ∈ es.toList, e.born < clock) ∧ (l.map (·.1)).Nodup ∧ ∀ x ∈ l, M.wf x.1) ∧
    (since ≤ c0 ∧ since ≤ clock) ∧ (∀ e ∈ es.toList, e.born < since) ∧ (leftOf es seen).toList.map (fun e => (e.key, e.val)) = td.map (fun x => (M.kc x.1, M.vc x.2)) ∧ td.Sublist l ∧
    (∀ x, c = some x → c0 = clock ∧ ∃ e ∈ es.toList, seen.back? = some e.born ∧ e.key = M.kc x.1 ∧ e.val = M.vc x.2)
  lt := fun w h g hg => by
    obtain ⟨_, es, clock, since, seen, c0, h1, h2, _⟩ := h
    rcases hg with rfl | rfl
    · exact (Array.getElem?_eq_some_iff.1 h2).1
    · exact (Array.getElem?_eq_some_iff.1 h1).1
  loc := fun w w' h hl => by
    obtain ⟨h0, es, clock, since, seen, c0, h1, h2, h3⟩ := h
    exact ⟨h0, es, clock, since, seen, c0, by rw [hl r (.inr rfl)]; exact h1, by rw [hl m (.inl rfl)]; exact h2, h3⟩
theorem rg_own {M : MK K V} {m r : Nat} {l td : List (K × V)} {c : Option (K × V)} : (rg M m r l td c).own = true := rfl
theorem rg_mp {M : MK K V} {m r : Nat} {l td : List (K × V)} {c : Option (K × V)} {w : World} (h : (rg M m r l td c).holds w) : (mp M m l).holds w := by
  obtain ⟨h0, es, clock, since, seen, c0, h1, h2, h3, _⟩ := h
  exact ⟨es, clock, h2, h3⟩

theorem born_inj {L : List MapEntry} (hp : (L.map (·.born)).Pairwise (· < ·)) {A B : List MapEntry} {e : MapEntry} (h : L = A ++ e :: B) : L.filter (fun x => !(x.born == e.born)) = A ++ B := by
  subst h
  rw [List.map_append, List.map_cons, List.pairwise_append, List.pairwise_cons] at hp
  obtain ⟨h1, ⟨h2, h3⟩, h4⟩ := hp
  rw [List.filter_append, List.filter_cons]
  simp only [beq_self_eq_true, Bool.not_true, Bool.false_eq_true, if_false]
  congr 1
  · rw [List.filter_eq_self]
    intro x hx
    have := h4 x.born (List.mem_map.2 ⟨x, hx, rfl⟩) e.born (List.mem_cons_self ..)
    have hne : x.born ≠ e.born := by omega
    simpa using hne
  · rw [List.filter_eq_self]
    intro x hx
    have := h2 x.born (List.mem_map.2 ⟨x, hx, rfl⟩)
    have hne : x.born ≠ e.born := by omega
    simpa using hne
theorem leftOf_sub' {es : Array MapEntry} {seen : Array Nat} : (leftOf es seen).toList = es.toList.filter (fun e => !seen.contains e.born) := by
  unfold leftOf; rw [Array.toList_filter]
theorem left_push {es : Array MapEntry} {seen : Array Nat} {b : Nat} : (leftOf es (seen.push b)).toList = (leftOf es seen).toList.filter (fun x => !(x.born == b)) := by
  unfold leftOf
  rw [Array.toList_filter, Array.toList_filter, List.filter_filter]
  congr 1
  funext x
  rw [Array.contains_push, Bool.not_or, Bool.and_comm]
end

section
variable {P : Program} {n : Nat} {W : World} {S : Nat → Prop} {Γ : List Asn} {F : List (Nat × Value)} {Q : Exit → Act → World → Prop} {ops : Array Oper} {os : List Oper}
variable {ty : TypeId} {pos : String} {af : Array Edge} {gd : Option (Nat × Bool)}
variable {K V : Type} [DecidableEq K] {T : TypeId} {M : MK K V}
def RRg (M : MK K V) (m : Nat) (l : List (K × V)) : Value → List Asn → Prop := fun v Γ => ∃ r, v = .pointer (some ⟨r, 0, none⟩) ∧ Γ = [rg M m r l l none]
theorem OpT.mrange [h : MapI P T M] {d : Option Tmp} {x : Operand} {m : Nat} {l : List (K × V)} {Γf : List Asn} (hx : evF F x = some (.map (some m))) (hp : Takes Γ [mp M m l] Γf) :
    OpT P n Γ F ⟨d, .range T x, ty, pos, af, gd⟩ [mp M m l] (RRg M m l) := fun ρ w hf hw _ => by
  obtain ⟨kT, eT, hu, _⟩ := h.law
  obtain ⟨es, clock, hb, h1, h2, h3, h4, h5⟩ := hw _ (hp.mem_iff.2 (List.mem_cons_self ..))
  have hrun : (execOp ρ.eval ⟨d, .range T x, ty, pos, af, gd⟩).run P w = .ok (.value (.pointer (some ⟨w.heap.size, 0, none⟩))) (w.alloc (.mapIter (some m) clock #[] clock)) := by
    simp [execOp, hf.eval hx, Instr.range, Sem.run_bind, run_underlying hu, MapKept.run_getObj_map hb, Result.andThen, newObj, Sem.run]
  unfold DoesW
  rw [hrun]
  have hlt : m < w.heap.size := (Array.getElem?_eq_some_iff.1 hb).1
  have hm : (w.alloc (.mapIter (some m) clock #[] clock)).heap[m]? = some (.map es clock) := by
    show (w.heap.push _)[m]? = _
    rw [Array.getElem?_push_lt hlt, ← Array.getElem?_eq_getElem hlt, hb]
  refine ⟨_, ⟨_, rfl, rfl⟩, .one (Mod.alloc _ _ _) ⟨Nat.ne_of_lt hlt, es, clock, clock, #[], clock, alloc_new _ _, hm, ⟨h1, h2, h3, h4, h5⟩, ⟨Nat.le_refl _, Nat.le_refl _⟩, h3, ?_, List.Sublist.refl _, fun x hx => by cases hx⟩ fun g hg => ?_⟩
  · rw [← h1]
    congr 1
    rw [leftOf_sub', List.filter_eq_self]
    intro a _
    simp
  · rcases hg with rfl | rfl
    · exact .inr ⟨_, List.mem_singleton.2 rfl, rfl, rfl⟩
    · exact .inl (Nat.le_refl _)
def RNxt (M : MK K V) (m r : Nat) (l td : List (K × V)) (c : Option (K × V)) : Value → List Asn → Prop := fun v Γ =>
  (td = [] ∧ v = .tuple #[.bool false] ∧ Γ = [rg M m r l td c]) ∨ ∃ A x B, td = A ++ x :: B ∧ v = .tuple #[.bool true, M.kc x.1, M.vc x.2] ∧ Γ = [rg M m r l (A ++ B) (some x)]
theorem map_split {α β γ : Type} {f : α → γ} {g : β → γ} : ∀ {A B : List α} {e : α} {td : List β}, (A ++ e :: B).map f = td.map g → ∃ A' x B', td = A' ++ x :: B' ∧ f e = g x ∧ (A ++ B).map f = (A' ++ B').map g
  | [], B, e, td, h => by
    cases td with
    | nil => cases h
    | cons x td =>
      simp only [List.nil_append, List.map_cons, List.cons.injEq] at h
      exact ⟨[], x, td, rfl, h.1, h.2⟩
  | a :: A, B, e, td, h => by
    cases td with
    | nil => cases h
    | cons y td =>
      simp only [List.cons_append, List.map_cons, List.cons.injEq] at h
      obtain ⟨A', x, B', h1, h2, h3⟩ := map_split h.2
      exact ⟨y :: A', x, B', by rw [h1]; rfl, h2, by simp only [List.cons_append, List.map_cons, h3, h.1]⟩
theorem OpT.next {d : Option Tmp} {x : Operand} {m r : Nat} {l td : List (K × V)} {c : Option (K × V)} {Γf : List Asn} (hx : evF F x = some (.pointer (some ⟨r, 0, none⟩))) (hp : Takes Γ [rg M m r l td c] Γf) :
    OpT P n Γ F ⟨d, .next x false, ty, pos, af, gd⟩ [rg M m r l td c] (RNxt M m r l td c) := fun ρ w hf hw _ => by
  have hb0 : (rg M m r l td c).holds w := hw _ (hp.mem_iff.2 (List.mem_cons_self ..))
  have hb1 := hb0
  obtain ⟨h0, es, clock, since, seen, c0, hr, hm, hmp, hsc, hold, hleft, hsub, hcur⟩ := hb0
  have hown : ∀ g, (g = m ∨ g = r) → ownFp [rg M m r l td c] g := fun g hg => ⟨_, List.mem_singleton.2 rfl, rfl, hg⟩
  rcases run_next_at (P := P) w ty r m since c0 seen es clock hr hm hold hsc.1 with ⟨hz, hrun⟩ | ⟨e, he, w1, hw1, hrun⟩
  · have hex : (execOp ρ.eval ⟨d, .next x false, ty, pos, af, gd⟩).run P w = .ok (.value (.tuple #[.bool false])) w := by
      simp [execOp, hf.eval hx, Sem.run_bind, hrun]
    have htd : td = [] := by
      have h1 := congrArg List.length hleft
      rw [List.length_map, List.length_map, Array.length_toList, hz] at h1
      exact List.eq_nil_of_length_eq_zero h1.symm
    unfold DoesW
    rw [hex]
    exact ⟨_, .inl ⟨htd, rfl, rfl⟩, .one (Mod.refl _ _) hb1 fun g hg => .inr (hown g hg)⟩
  · have hex : (execOp ρ.eval ⟨d, .next x false, ty, pos, af, gd⟩).run P w = .ok (.value (.tuple #[.bool true, e.key, e.val])) (ChangeMaps.setBlock w1 r (.mapIter (some m) since (seen.push e.born) clock)) := by
      simp [execOp, hf.eval hx, Sem.run_bind, hrun]
    have hmem : e ∈ es.toList := by
      have he2 := he
      rw [leftOf_sub'] at he2
      exact (List.mem_filter.1 he2).1
    obtain ⟨A, B, hAB⟩ := List.append_of_mem he
    have hmap := hleft
    rw [hAB] at hmap
    obtain ⟨A', y, B', htd, hey, hmap2⟩ := map_split hmap
    simp only [Prod.mk.injEq] at hey
    unfold DoesW
    rw [hex]
    have hw1h : w1.heap = w.heap := by rcases hw1 with rfl | rfl <;> rfl
    have hmod : Mod (ownFp [rg M m r l td c]) w w1 := by
      rcases hw1 with rfl | rfl
      · exact Mod.refl _ _
      · exact ⟨rfl, rfl, rfl, Nat.le_refl _, Nat.le_refl _, fun _ _ _ => rfl⟩
    refine ⟨_, .inr ⟨A', y, B', htd, by rw [hey.1, hey.2], rfl⟩, .one (hmod.trans (mod_block (hown r (.inr rfl)) _ _)) ⟨h0, es, clock, since, seen.push e.born, clock, block_set (by rw [hw1h]; exact hr), ?_, hmp, ?_, hold, ?_, ?_, fun x' hx' => ⟨rfl, e, hmem, Array.back?_push, by cases hx'; exact hey.1, by cases hx'; exact hey.2⟩⟩ fun g hg => .inr (hown g hg)⟩
    · rw [← hm, ← hw1h]; simp [ChangeMaps.setBlock, Array.getElem?_setIfInBounds, Ne.symm h0]
    · exact ⟨hsc.2, hsc.2⟩
    · rw [left_push, born_inj ?_ hAB]
      · exact hmap2
      · unfold leftOf
        rw [Array.toList_filter]
        exact hmp.2.1.sublist (List.Sublist.map _ List.filter_sublist)
    · refine List.Sublist.trans ?_ hsub
      rw [htd]
      exact List.Sublist.append (List.Sublist.refl _) (List.sublist_cons_self ..)
theorem leftOf_sub {es : Array MapEntry} {seen : Array Nat} : (leftOf es seen).toList = es.toList.filter (fun e => !seen.contains e.born) := by
  unfold leftOf; rw [Array.toList_filter]
theorem run_mdelR [h : MapI P T M] {m r : Nat} {l td : List (K × V)} {c : Option (K × V)} {w : World} {kT' ty : TypeId} (hm : (rg M m r l td c).holds w) (k : K) (hkw : M.wf k) :
    ∃ o, (Builtin.delete_ #[T, kT'] ty #[.map (some m), M.kc k]).run P w = .ok (.tuple #[]) (ChangeMaps.setBlock w m o) ∧ (rg M m r (mdel l k) (td.filter (fun x => decide (x.1 ≠ k))) none).holds (ChangeMaps.setBlock w m o) := by
  obtain ⟨kT, eT, hu, hK, hk, hz⟩ := h.law
  obtain ⟨h0, es, clock, since, seen, c0, hr, hb, ⟨he, h1, h2, hn, hwf⟩, hsc, hold, hleft, hsub, hcur⟩ := hm
  obtain ⟨kl, hkl⟩ := hk k hkw
  have hall : ∀ e ∈ es.toList, ∃ l, keyOf P kT e.key = some l := fun e hm => by
    obtain ⟨x', hx', hk'⟩ := mp_key he hm
    rw [hk']; exact hk _ (hwf x' hx')
  have hr' : ∀ o, (ChangeMaps.setBlock w m o).heap[r]? = some (.mapIter (some m) since seen c0) := fun o => by
    rw [← hr]; simp [ChangeMaps.setBlock, Array.getElem?_setIfInBounds, h0]
  have hsub2 : (td.filter (fun x => decide (x.1 ≠ k))).Sublist (mdel l k) := by
    rw [mdel_filter hn]; exact hsub.filter _
  rcases hK.find w hkl es.toList hall with ⟨f1, f2⟩ | ⟨j, e0, f1, f2, f3⟩
  · have hno := mp_no he f2
    have htd : td.filter (fun x => decide (x.1 ≠ k)) = td := by
      rw [List.filter_eq_self]
      intro x hx
      simpa using hno x (hsub.subset hx)
    refine ⟨.map es clock, ?_, h0, es, clock, since, seen, c0, hr' _, block_set hb, ⟨?_, h1, h2, mdel_keys hn, fun x hx => hwf x (mdel_sub.subset hx)⟩, hsc, hold, ?_, hsub2, fun x' hx' => by cases hx'⟩
    · simp [Builtin.delete_, run_underlying hu, MapKept.run_getObj_map hb, hK.check w _ hkl, f1, MapKept.run_setObj_map _ hb, Result.andThen, ChangeMaps.setBlock]
    · rw [(mfind_none hno).2.2]; exact he
    · rw [htd]; exact hleft
  · obtain ⟨x, g1, g2, g3⟩ := mp_at he f2
    have hx : x.1 = k := h.inj _ _ (g2.symm.trans f3)
    have hs : (es.eraseIdxIfInBounds j).toList = es.toList.eraseIdx j := by
      unfold Array.eraseIdxIfInBounds
      split
      · rw [Array.toList_eraseIdx]
      · rename_i h4
        rw [List.eraseIdx_of_length_le (by simpa using h4)]
    refine ⟨.map (es.eraseIdxIfInBounds j) clock, ?_, h0, _, clock, since, seen, c0, hr' _, block_set hb, ⟨?_, ?_, ?_, mdel_keys hn, fun x hx => hwf x (mdel_sub.subset hx)⟩, hsc, ?_, ?_, hsub2, fun x' hx' => by cases hx'⟩
    · simp [Builtin.delete_, run_underlying hu, MapKept.run_getObj_map hb, hK.check w _ hkl, f1, MapKept.run_setObj_map _ hb, Result.andThen, ChangeMaps.setBlock]
    · rw [hs, (mfind_some hn g1 hx).2.2, ChangeMaps.map_eraseIdx, ChangeMaps.map_eraseIdx, he]
    · rw [hs]
      exact h1.sublist ((List.eraseIdx_sublist _ _).map _)
    · intro e he'
      rw [hs] at he'
      exact h2 e (List.mem_of_mem_eraseIdx he')
    · intro e he'
      rw [hs] at he'
      exact hold e (List.mem_of_mem_eraseIdx he')
    · have hjl := (List.getElem?_eq_some_iff.1 f2).1
      have hes : es.toList = es.toList.take j ++ e0 :: es.toList.drop (j + 1) := by
        have h9 := List.drop_eq_getElem_cons hjl
        rw [(List.getElem?_eq_some_iff.1 f2).2] at h9
        rw [← h9, List.take_append_drop]
      have her : (es.eraseIdxIfInBounds j).toList = es.toList.filter (fun y => !(y.born == e0.born)) := by
        rw [hs, born_inj h1 hes, List.eraseIdx_eq_take_drop_succ]
      rw [leftOf_sub, her, List.filter_filter]
      rw [leftOf_sub] at hleft
      have hcomm : es.toList.filter (fun a => (!seen.contains a.born) && !(a.born == e0.born)) = (es.toList.filter (fun a => !seen.contains a.born)).filter (fun a => !(a.born == e0.born)) := by
        rw [List.filter_filter]; congr 1; funext a; rw [Bool.and_comm]
      rw [hcomm]
      -- the entries left, each beside its key and element
      have hpw : ∀ e ∈ es.toList.filter (fun a => !seen.contains a.born), (e.born == e0.born) = true ↔ e.key = M.kc k := fun e hee => by
        have hee' := (List.mem_filter.1 hee).1
        have hem : e ∈ es.toList := hee'
        constructor
        · intro hb2
          have hb3 : e.born = e0.born := by simpa using hb2
          have : e = e0 := by
            by_cases hne : e = e0
            · exact hne
            · exfalso
              have key : ∀ {L : List MapEntry}, (L.map (·.born)).Pairwise (· < ·) → ∀ a ∈ L, ∀ b ∈ L, a.born = b.born → a = b := by
                intro L
                induction L with
                | nil => intro _ a ha; cases ha
                | cons z L ih =>
                  intro hp a ha b hb hab
                  rw [List.map_cons, List.pairwise_cons] at hp
                  rcases List.mem_cons.1 ha with ha1 | ha1
                  · rcases List.mem_cons.1 hb with hb1 | hb1
                    · rw [ha1, hb1]
                    · have := hp.1 b.born (List.mem_map.2 ⟨b, hb1, rfl⟩); rw [ha1] at hab; omega
                  · rcases List.mem_cons.1 hb with hb1 | hb1
                    · have := hp.1 a.born (List.mem_map.2 ⟨a, ha1, rfl⟩); rw [hb1] at hab; omega
                    · exact ih hp.2 a ha1 b hb1 hab
              exact hne (key h1 e hem e0 (List.mem_of_getElem? f2) hb3)
          rw [this]; exact f3
        · intro hkey
          obtain ⟨i, hi⟩ := List.getElem?_of_mem hem
          obtain ⟨z, z1, z2, _⟩ := mp_at he hi
          have hzk : z.1 = k := h.inj _ _ (z2.symm.trans hkey)
          have hij : i = j := by
            have q1 : (l.map (·.1))[i]? = some k := by rw [List.getElem?_map, z1, ← hzk]; rfl
            have q2 : (l.map (·.1))[j]? = some k := by rw [List.getElem?_map, g1, ← hx]; rfl
            exact (List.getElem?_inj (List.getElem?_eq_some_iff.1 q1).1 hn).1 (q1.trans q2.symm)
          subst hij
          rw [f2] at hi
          cases hi
          simp
      have hfin : ∀ {L : List MapEntry} {td : List (K × V)}, (∀ e ∈ L, (e.born == e0.born) = true ↔ e.key = M.kc k) → L.map (fun e => (e.key, e.val)) = td.map (fun x => (M.kc x.1, M.vc x.2)) → (L.filter (fun a => !(a.born == e0.born))).map (fun e => (e.key, e.val)) = (td.filter (fun x => decide (x.1 ≠ k))).map (fun x => (M.kc x.1, M.vc x.2)) := by
        intro L
        induction L with
        | nil => intro td _ hh; cases td with
          | nil => rfl
          | cons _ _ => cases hh
        | cons z L ih =>
          intro td hq hh
          cases td with
          | nil => cases hh
          | cons y td =>
            simp only [List.map_cons, List.cons.injEq, Prod.mk.injEq] at hh
            have ih' := ih (fun e hee => hq e (List.mem_cons_of_mem _ hee)) hh.2
            have hz1 := hq z (List.mem_cons_self ..)
            rw [List.filter_cons, List.filter_cons]
            by_cases hy : y.1 = k
            · have : (z.born == e0.born) = true := hz1.2 (by rw [hh.1.1, hy])
              rw [this]
              simp only [Bool.not_true, Bool.false_eq_true, if_false, hy, ne_eq, not_true_eq_false, decide_false]
              exact ih'
            · have : (z.born == e0.born) = false := by
                rw [← Bool.not_eq_true]
                intro hb2
                exact hy (h.inj _ _ (hh.1.1.symm.trans (hz1.1 hb2)))
              rw [this]
              simp only [Bool.not_false, if_true, ne_eq, hy, not_false_eq_true, decide_true, List.map_cons, ih', hh.1.1, hh.1.2]
      exact hfin hpw hleft
theorem OpT.mdelR [h : MapI P T M] {d : Option Tmp} {x i : Operand} {kT' : TypeId} {m r : Nat} {l td : List (K × V)} {c : Option (K × V)} {k : K} {Γf : List Asn} (hkw : M.wf k) (hx : evF F x = some (.map (some m))) (hi : evF F i = some (M.kc k)) (hp : Takes Γ [rg M m r l td c] Γf) :
    OpT P n Γ F ⟨d, .call { callee := .builtin .delete, args := #[x, i], argTypes := #[T, kT'] }, ty, pos, af, gd⟩ [rg M m r l td c] (RLeave [rg M m r (Go.Proofs.Ytpjfkomicehinaa.mdel l k) (td.filter (fun x => decide (x.1 ≠ k))) none]) := fun ρ w hf hw _ => by
  have hb : (rg M m r l td c).holds w := hw _ (hp.mem_iff.2 (List.mem_cons_self ..))
  obtain ⟨o, h1, h2⟩ := run_mdelR (P := P) (T := T) (kT' := kT') (ty := ty) hb k hkw
  have : (execOp ρ.eval ⟨d, .call { callee := .builtin .delete, args := #[x, i], argTypes := #[T, kT'] }, ty, pos, af, gd⟩).run P w = .ok (.value (.tuple #[])) (ChangeMaps.setBlock w m o) := by
    simp [execOp, resolve, invoke, builtin, hf.eval hx, hf.eval hi, Sem.run_bind, h1]
  unfold DoesW
  rw [this]
  have hg : ∀ g, (g = m ∨ g = r) → ownFp [rg M m r l td c] g := fun g hg => ⟨_, List.mem_singleton.2 rfl, rfl, hg⟩
  exact ⟨_, rfl, .one (mod_block (hg m (.inl rfl)) _ _) h2 fun g' hg' => .inr (hg g' hg')⟩
theorem ReadR.lookOkR [h : MapI P T M] {d : Option Tmp} {x i : Operand} {m r : Nat} {l td : List (K × V)} {cu : Option (K × V)} {k : K} {c : Value} {b : Bool} (hkw : M.wf k) (hx : evF F x = some (.map (some m))) (hi : evF F i = some (M.kc k)) (hm : rg M m r l td cu ∈ Γ) (hc : M.vc (mget M l k) = c) (hb : mhas l k = b) :
    ReadR P n Γ F ⟨d, .lookup T x i true, ty, pos, af, gd⟩ (.tuple #[c, .bool b]) := fun ρ w hf hw => by
  have := run_mlook (P := P) (T := T) (rg_mp (hw _ hm)) k hkw true
  subst hc
  subst hb
  simp [execOp, hf.eval hx, hf.eval hi, this]
theorem ReadR.entry {d : Option Tmp} {x : Operand} {m r : Nat} {l td : List (K × V)} {y : K × V} {kv vv : Value} (hk : M.kc y.1 = kv) (hv : M.vc y.2 = vv) (hm : rg M m r l td (some y) ∈ Γ) (hx : evF F x = some (.pointer (some ⟨r, 0, none⟩))) :
    ReadR P n Γ F ⟨d, .entry x, ty, pos, af, gd⟩ (.tuple #[kv, vv]) := fun ρ w hf hw => by
  subst hk hv
  obtain ⟨h0, es, clock, since, seen, c0, hr, hb, ⟨he, h1, h2, hn, hwf⟩, hsc, hold, hleft, hsub, hcur⟩ := hw _ hm
  obtain ⟨rfl, e, hem, hbk, hke, hve⟩ := hcur y rfl
  have hnd : (es.toList.map (·.born)).Nodup := h1.imp (fun h => Nat.ne_of_lt h)
  have hfd : es.find? (·.born == e.born) = some e := by rw [← Array.find?_toList]; exact find_born e es.toList hnd hem
  have : (Instr.entry (.pointer (some ⟨r, 0, none⟩))).run P w = .ok (.tuple #[e.key, e.val]) w := by
    simp only [Instr.entry, getObj, Sem.run_bind, Sem.run, hr, hb, Result.andThen, hbk, bne_self_eq_false, Bool.false_eq_true, if_false, hfd]
    rfl
  simp [execOp, hf.eval hx, Sem.run_bind, this, hke, hve]
theorem WPl.mrange [h : MapI P T M] {d : Nat} {x : Operand} {m : Nat} {l : List (K × V)} {Γf : List Asn} (k : ∀ r, WPl P n W S (rg M m r l l none :: Γf) ((d, .pointer (some ⟨r, 0, none⟩)) :: F) ops os Q) (hx : evF F x = some (.map (some m)) := by first | rfl | fail) (hp : Take Γ (mp M m l) Γf := by first | exact takeA | fail) (hlt : Nat.blt d n = true := by first | rfl | fail) (hw : wantG F ops gd = some true := by first | rfl | fail) :
    WPl P n W S Γ F ops (⟨some d, .range T x, ty, pos, af, gd⟩ :: os) Q :=
  WPl.op (.cons hp .nil) hlt hw (OpT.mrange (h := h) hx (.cons hp .nil)) (by rintro v Γ' ⟨r, rfl, rfl⟩; exact k r)
theorem WPl.mnext {d : Nat} {x : Operand} {m r : Nat} {l td : List (K × V)} {c : Option (K × V)} {Γf : List Asn} (kf : K → Value) (vf : V → Value) (k0 : td = [] → WPl P n W S (rg M m r l td c :: Γf) ((d, .tuple #[.bool false]) :: F) ops os Q)
    (k1 : ∀ A y B, td = A ++ y :: B → WPl P n W S (rg M m r l (A ++ B) (some y) :: Γf) ((d, .tuple #[.bool true, kf y.1, vf y.2]) :: F) ops os Q) (hk : ∀ z, M.kc z = kf z := by first | exact fun _ => rfl | fail) (hv : ∀ z, M.vc z = vf z := by first | exact fun _ => rfl | fail)
    (hx : evF F x = some (.pointer (some ⟨r, 0, none⟩)) := by first | rfl | fail) (hp : Take Γ (rg M m r l td c) Γf := by first | exact takeA | fail) (hlt : Nat.blt d n = true := by first | rfl | fail) (hw : wantG F ops gd = some true := by first | rfl | fail) :
    WPl P n W S Γ F ops (⟨some d, .next x false, ty, pos, af, gd⟩ :: os) Q :=
  WPl.op (.cons hp .nil) hlt hw (OpT.next hx (.cons hp .nil)) (by
    rintro v Γ' (⟨h0, rfl, rfl⟩ | ⟨A, y, B, h0, rfl, rfl⟩)
    · exact k0 h0
    · have := k1 A y B h0
      rw [← hk, ← hv] at this
      exact this)
theorem WPl.mdelR [h : MapI P T M] {x i : Operand} {kT' : TypeId} {m r : Nat} {l td : List (K × V)} {c : Option (K × V)} (kk : K) (hkw : M.wf kk) {Γf : List Asn} (k : WPl P n W S (rg M m r (Go.Proofs.Ytpjfkomicehinaa.mdel l kk) (td.filter (fun x => decide (x.1 ≠ kk))) none :: Γf) F ops os Q) (hx : evF F x = some (.map (some m)) := by first | rfl | fail) (hi : evF F i = some (M.kc kk) := by first | rfl | fail) (hp : Take Γ (rg M m r l td c) Γf := by first | exact takeA | fail) (hw : wantG F ops gd = some true := by first | rfl | fail) :
    WPl P n W S Γ F ops (⟨none, .call { callee := .builtin .delete, args := #[x, i], argTypes := #[T, kT'] }, ty, pos, af, gd⟩ :: os) Q := WPl.turn (.cons hp .nil) rfl hw (OpT.mdelR (h := h) hkw hx hi (.cons hp .nil)) k
/-- The range is over: the map as it was held. -/
theorem Good.rgOut {m r : Nat} {l td : List (K × V)} {c : Option (K × V)} {Γf : List Asn} {w : World} (h : Good W S (rg M m r l td c :: Γf) w) : Good W S (mp M m l :: Γf) w := by
  have h1 := h.apart
  rw [List.pairwise_cons] at h1
  refine h.conv (fun hh A hA => ?_) (fun _ => List.pairwise_cons.2 ⟨fun B hB hor g' hg' hB' => h1.1 B hB (.inl rfl) g' (.inl hg') hB', h1.2⟩) (fun A hA ho g' hg' => ?_)
  · rcases List.mem_cons.1 hA with rfl | hA
    · exact rg_mp (hh _ (List.mem_cons_self ..))
    · exact hh A (List.mem_cons_of_mem _ hA)
  · rcases List.mem_cons.1 hA with rfl | hA
    · exact ⟨_, List.mem_cons_self .., rfl, .inl hg'⟩
    · exact ⟨A, List.mem_cons_of_mem _ hA, ho, hg'⟩
theorem WPl.rgOut {m r : Nat} {l td : List (K × V)} {c : Option (K × V)} {Γf : List Asn} (k : WPl P n W S (mp M m l :: Γf) F ops os Q) (hp : Take Γ (rg M m r l td c) Γf := by first | exact takeA | fail) : WPl P n W S Γ F ops os Q := fun a w hf hg => k a w hf (hg.perm hp).rgOut
theorem WPc.rgOut {cd : Code} {m r : Nat} {l td : List (K × V)} {c : Option (K × V)} {Γf : List Asn} (k : WPc P n W S (mp M m l :: Γf) F cd Q) (hp : Take Γ (rg M m r l td c) Γf := by first | exact takeA | fail) : WPc P n W S Γ F cd Q := fun a w hf hg => k a w hf (hg.perm hp).rgOut
theorem WPq.rgOut {e : Exit} {m r : Nat} {l td : List (K × V)} {c : Option (K × V)} {Γf : List Asn} (hp : Take Γ (rg M m r l td c) Γf) (k : WPq n W S (mp M m l :: Γf) F Q e) : WPq n W S Γ F Q e := fun a w hf hg => k a w hf (hg.perm hp).rgOut
theorem WPc.mkeys {cd : Code} {m : Nat} {l : List (K × V)} (hm : mp M m l ∈ Γ) (h : (l.map (·.1)).Nodup → (∀ x ∈ l, M.wf x.1) → WPc P n W S Γ F cd Q) : WPc P n W S Γ F cd Q :=
  WPc.know (p := (l.map (·.1)).Nodup ∧ ∀ x ∈ l, M.wf x.1) (fun w hw => by obtain ⟨es, clock, _, _, _, _, h1, h2⟩ := hw _ hm; exact ⟨h1, h2⟩) (fun hp => h hp.1 hp.2)
theorem WPc.rgsub {cd : Code} {m r : Nat} {l td : List (K × V)} {c : Option (K × V)} (hm : rg M m r l td c ∈ Γ) (h : td.Sublist l → (l.map (·.1)).Nodup → (∀ x ∈ l, M.wf x.1) → WPc P n W S Γ F cd Q) : WPc P n W S Γ F cd Q :=
  WPc.know (p := td.Sublist l ∧ (l.map (·.1)).Nodup ∧ ∀ x ∈ l, M.wf x.1) (fun w hw => by
    obtain ⟨h0, es, clock, since, seen, c0, hr, hb, ⟨he, h1, h2, hn, hwf⟩, hsc, hold, hleft, hsub, hcur⟩ := hw _ hm
    exact ⟨hsub, hn, hwf⟩) (fun hp => h hp.1 hp.2.1 hp.2.2)
/-! ### Functions that are called by their value -/
theorem run_callF {d : Option Tmp} {f : FuncId} {x : Operand} {xs : List Operand} {ts : Array TypeId} {cb : Array Value} {a : Act} {w : World} (hc : isCode P f = true) (hx : a.eval x = .func (.func f) #[] cb) :
    (execOp a.eval ⟨d, .call { callee := .value x, args := xs.toArray, argTypes := ts }, ty, pos, af, gd⟩).run P w = .ok (.enter f ((xs.map a.eval).toArray ++ cb)) w := by
  unfold isCode at hc
  cases hf : P.funcs[f]? with
  | none => rw [hf] at hc; cases hc
  | some fn =>
    rw [hf] at hc
    simp only [Bool.and_eq_true, decide_eq_true_eq] at hc
    obtain ⟨h1, h2⟩ := hc
    obtain ⟨b, hb⟩ := Option.isSome_iff_exists.1 h2
    simp only [execOp, resolve]
    rw [hx]
    simp [invoke, callFunc, Deferred.ofValue, Sem.run_bind, hf, h1, hb, go_sem]
theorem OpT.callF {d : Option Tmp} {f : FuncId} {x : Operand} {xs : List Operand} {ts : Array TypeId} {vs : List Value} {cb : List Value} {Γo Γf : List Asn} {R : Value → List Asn → Prop}
    (h : Triple P f (vs ++ cb).toArray Γo R) (hf0 : evF F x = some (.func (.func f) #[] cb.toArray)) (hx : evFs F xs vs) (hp : Takes Γ Γo Γf) (hc : isCode P f = true) : OpT P n Γ F ⟨d, .call { callee := .value x, args := xs.toArray, argTypes := ts }, ty, pos, af, gd⟩ Γo R := by
  intro ρ w hf hw ha
  unfold DoesW
  rw [run_callF hc (hf.eval hf0), hx.map hf, show vs.toArray ++ cb.toArray = (vs ++ cb).toArray by simp]
  refine (Triple.frame (Δ := []) (Γo := Γo) (Γf := Γf) h (fun A hA => hw A (hp.mem_iff.2 hA)) (apart_perm hp ha) .nil (fun A hA => by cases hA)).mono ?_
  rintro e w' ⟨v, Γ', he, hR, hp⟩
  exact ⟨v, he, Γ', hR, hp⟩
theorem WPl.cFs {d : Option Tmp} {f : FuncId} {x : Operand} {xs : List Operand} {ts : Array TypeId} {Γo Γf : List Asn} {R : Value → List Asn → Prop} (vs cb : List Value)
    (h : Triple P f (vs ++ cb).toArray Γo R) (k : ∀ v Γ', R v Γ' → WPl P n W S (Γ' ++ Γf) (putF F d v) ops os Q) (hf0 : evF F x = some (.func (.func f) #[] cb.toArray) := by first | rfl | assumption | fail) (hx : evFs F xs vs := by first | exact evsA | fail) (hp : Takes Γ Γo Γf := by first | exact takesA | fail) (hc : isCode P f = true := by first | kernel_rfl | assumption | fail) (hd : dstOk n d = true := by first | rfl | fail) (hw : wantG F ops gd = some true := by first | rfl | fail) :
    WPl P n W S Γ F ops (⟨d, .call { callee := .value x, args := xs.toArray, argTypes := ts }, ty, pos, af, gd⟩ :: os) Q :=
  WPl.op hp hd hw (OpT.callF h hf0 hx hp hc) k
theorem ReadR.mkF {d : Option Tmp} {f : Fn} {xs : List Operand} {vs : List Value} (hx : evFs F xs vs) : ReadR P n Γ F ⟨d, .makeFunc f #[] xs.toArray, ty, pos, af, gd⟩ (.func f #[] vs.toArray) := fun ρ w hf hw => by
  have h1 : xs.toArray.map ρ.eval = vs.toArray := by rw [List.map_toArray, hx.map hf]
  simp [execOp, Instr.makeFunc, h1]
end
end Go.Proofs.Ytpjfkomicehinaa
