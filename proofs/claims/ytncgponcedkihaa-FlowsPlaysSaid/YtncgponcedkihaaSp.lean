/- Sorted by Go's library at structs: which of equals comes first is left open. -/
import Derived.Test.YtncgponcedkihaaSf
import Derived.Test.YtncgponcedkihaaJn
namespace Go.Proofs.Ytncgponcedkihaa
open Go.RowKit Go.Sort Go.Lib Go.Shelf
set_option linter.unusedSimpArgs false
set_option linter.unusedVariables false
section
variable {P : Program} {ρ : Ren} {α : Type} [Inhabited α]
theorem perm_of_in {d d' : Array α} (h : PermIn 0 d.size d d') : d'.toList.Perm d.toList := by
  obtain ⟨h1, _, h3⟩ := h
  have e1 : d'.extract 0 d.size = d' := by rw [← h1]; exact Array.extract_size
  have e2 : d.extract 0 d.size = d := Array.extract_size
  rw [e1, e2] at h3
  exact h3
theorem pair_of_in {lt : α → α → Bool} {d : Array α} (h : SortedIn lt 0 d.size d) : d.toList.Pairwise (fun a b => lt b a = false) := by
  rw [List.pairwise_iff_getElem]
  intro i j hi hj hij
  have hi' : i < d.size := by simpa using hi
  have hj' : j < d.size := by simpa using hj
  have := h i j (Nat.zero_le _) hij hj'
  rwa [getElem!_pos d i hi', getElem!_pos d j hj'] at this
def RSortP (T : TypeId) (k : Nat) (enc : α → List Value) (cf : α → α → Int) (v : Value) (l : List α) : Value → List Asn → Prop := fun r Γ => ∃ l' : List α, r = .tuple #[] ∧ Γ = [rowN T k v l'.length (l'.map enc).flatten] ∧ l'.Perm l ∧ l'.Pairwise (fun a b => ltOf cf b a = false)
theorem sortP_t (L : SlLaysF0.n6 P ρ) {k : Nat} (aE : ∀ w, (isAgg (ρ.t 24)).run P w = .ok true w) (zE : ∀ w, (Go.sizeOf (ρ.t 24)).run P w = .ok k w) (enc : α → List Value) (hk : ∀ x, (enc x).length = k) (h1 : ∀ x, ∀ v ∈ enc x, v.oneCell' = true) (cf : α → α → Int) (hO : SWO (ltOf cf))
    (g : FuncId) (hc : isCode P g = true) (hcl : ∀ x y, Triple P g #[.agg (enc x).toArray, .agg (enc y).toArray] [] (RVal (.int .i64 (cf x y)))) {T : TypeId} (v : Value) (l : List α) (hl : l.length < 4611686018427387904) :
    Triple P (ρ.f 6) #[v, .func (.func g) #[] #[]] [rowN T k v l.length (l.map enc).flatten] (RSortP T k enc cf v l) := by
  intro w hw ha
  have hrow := hw _ (List.mem_cons_self ..)
  have hlen : (l.map enc).flatten.length = l.length * k := flen hk l
  rcases hrow.2 with ⟨hv, h0⟩ | ⟨g0, cap, cur, hv, hB, hb, hnc, hcm, hcs, ht⟩
  · subst hv
    have : l = [] := List.eq_nil_of_length_eq_zero h0
    subst this
    refine (AnyF.slices_SortFunc_none { L with } none 0 _ w).mono ?_
    rintro e w' ⟨rfl, rfl⟩
    exact ⟨_, _, rfl, ⟨[], rfl, rfl, .refl _, .nil⟩, .one (Mod.refl _ _) hrow fun g hg => by cases hg⟩
  · subst hv
    have hblk : g0 < w.heap.size := (Array.getElem?_eq_some_iff.1 hb).1
    have hH : HoldsK enc k w g0 0 l.toArray := by
      unfold HoldsK
      rw [flatK_eq hk]
      exact row_holds (k := k) hb (by rw [hlen]; exact ht)
    have hcmp : CmpLays P g #[] enc k cf g0 0 l.toArray.size w := fun m os dk _ x y => by
      refine (hcl x y _ (fun A hA => by cases hA) .nil).mono ?_
      rintro e w' ⟨v, Γ', rfl, ⟨rfl, rfl⟩, hp⟩
      exact ⟨rfl, grown_of_mod (fun _ => not_own) hp.mod⟩
    have h := AnyQ.slices_SortFunc L k aE zE enc hk h1 cf hO g #[] g0 0 cap l.toArray w (fun args w => enters_isCode hc args w) hcmp hH hblk (by simpa using hl)
    refine Calls.mono (by simpa using h) ?_
    rintro e w' ⟨rfl, d', hp, hs, n, os, rfl⟩
    obtain ⟨l', rfl⟩ : ∃ l' : List α, d' = l'.toArray := ⟨d'.toList, by simp⟩
    have hp0 : PermIn 0 l.toArray.size l.toArray l'.toArray := by simpa using hp
    have hp' : l'.Perm l := by simpa using perm_of_in hp0
    have hsz : l'.toArray.size = l.length := by simpa using hp'.length_eq
    have hs' : l'.Pairwise (fun a b => ltOf cf b a = false) := by
      have := pair_of_in (lt := ltOf cf) (d := l'.toArray) (by rw [hsz]; exact hs)
      simpa using this
    have hll : l'.length = l.length := hp'.length_eq
    have hsl : (l'.map enc).flatten.length = l.length * k := by rw [flen hk, hll]
    have hfin := row_put (n := n) (os := os) (ys := (l'.map enc).flatten) hb hnc hcm hcs hsl (ownFp [rowN T k (.slice (some ⟨g0, 0, none⟩) l.length cap) l.length (l.map enc).flatten]) ⟨_, List.mem_singleton.2 rfl, rfl, rfl⟩
    unfold sortWorldK putRowK
    rw [flatK_eq hk]
    exact ⟨_, _, rfl, ⟨l', rfl, rfl, hp', hs'⟩, .one (by exact hfin.2) (by rw [hll]; exact hfin.1) fun g' hg' => .inr (by cases hg'; exact ⟨_, List.mem_singleton.2 rfl, rfl, rfl⟩)⟩
end
section
variable {P : Program} {n : Nat} {W : World} {S : Nat → Prop} {Γ : List Asn} {F : List (Nat × Value)} {Q : Exit → Act → World → Prop}
/-- The first of a row. -/
theorem Good.rowPre {e : TypeId} {sz : Nat} {v : Value} {m j : Nat} {xs : List Value} {Γf : List Asn} {w : World} (hj : j ≤ m) (h : Good W S (rowN e sz v m xs :: Γf) w) : Good W S (rowN e sz (subv sz v 0 j) j (xs.take (j * sz)) :: Γf) w := by
  have h1 := h.apart
  rw [List.pairwise_cons] at h1
  refine h.conv (fun hh A hA => ?_) (fun _ => List.pairwise_cons.2 ⟨fun B hB hor g' hg' hB' => h1.1 B hB (.inl rfl) g' (by unfold rowN at hg' ⊢; exact subv_block g' hg') hB', h1.2⟩) (fun A hA ho g' hg' => ?_)
  · rcases List.mem_cons.1 hA with rfl | hA
    · have hr := hh _ (List.mem_cons_self ..)
      unfold rowN at hr ⊢
      obtain ⟨h2, h3⟩ := hr
      have hle : j * sz ≤ m * sz := Nat.mul_le_mul_right sz hj
      refine ⟨by rw [List.length_take]; omega, ?_⟩
      rcases h3 with ⟨rfl, h0⟩ | ⟨g, cap, cur, rfl, hB, hg, hnc, hcm, hcs, ht⟩
      · exact .inl ⟨rfl, by omega⟩
      · refine .inr ⟨g, cap, cur, ?_, hB, hg, by omega, hcm, hcs, ?_⟩
        · unfold subv
          simp only [Nat.zero_mul, Nat.sub_zero]
          split
          · rfl
          · unfold Addr.add; simp
        · rw [← ht, List.take_take, Nat.min_eq_left hle]
    · exact hh A (List.mem_cons_of_mem _ hA)
  · rcases List.mem_cons.1 hA with rfl | hA
    · exact ⟨_, List.mem_cons_self .., rfl, by unfold rowN at hg' ⊢; exact subv_block g' hg'⟩
    · exact ⟨A, List.mem_cons_of_mem _ hA, ho, hg'⟩
theorem WPq.rowPre {ex : Exit} {e : TypeId} {sz : Nat} {v : Value} {m j : Nat} {xs : List Value} {Γf : List Asn} (hj : j ≤ m) (hp : Take Γ (rowN e sz v m xs) Γf) (k : WPq n W S (rowN e sz (subv sz v 0 j) j (xs.take (j * sz)) :: Γf) F Q ex) : WPq n W S Γ F Q ex := fun a w hf hg => k a w hf (Good.rowPre hj (hg.perm hp))
end
end Go.Proofs.Ytncgponcedkihaa
