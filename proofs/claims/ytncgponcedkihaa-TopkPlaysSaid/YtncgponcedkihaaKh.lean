/- Layer 38 (topk): what a count says: the plain law. -/
import Derived.Test.YtncgponcedkihaaKg
namespace Go.Proofs.Ytncgponcedkihaa
open Go.RowKit
set_option linter.unusedSimpArgs false
set_option linter.unusedVariables false
abbrev CL := List (Pf × Int)
def came (A : CL) (p : Pf) : Int := (A.map fun x => if x.1 = p then x.2 else 0).sum
def totl (A : CL) : Int := (A.map (·.2)).sum
theorem came_snoc {A : CL} {x : Pf × Int} {p : Pf} : came (A ++ [x]) p = came A p + if x.1 = p then x.2 else 0 := by simp [came]
theorem totl_snoc {A : CL} {x : Pf × Int} : totl (A ++ [x]) = totl A + x.2 := by simp [totl]
theorem came_bound {A : CL} (h : ∀ x ∈ A, 0 ≤ x.2 ∧ x.2 ≤ 999999) (p : Pf) : 0 ≤ came A p ∧ came A p ≤ totl A ∧ totl A ≤ A.length * 999999 := by
  induction A with
  | nil => simp [came, totl]
  | cons a A ih =>
    have h1 := ih fun x hx => h x (List.mem_cons_of_mem _ hx)
    have h2 := h a (List.mem_cons_self ..)
    have e1 : came (a :: A) p = (if a.1 = p then a.2 else 0) + came A p := by simp [came]
    have e2 : totl (a :: A) = a.2 + totl A := by simp [totl]
    rw [e1, e2, List.length_cons]
    split <;> (push_cast; omega)
theorem mput_perm {K V : Type} [DecidableEq K] {l : List (K × V)} {k : K} {vd : V} (hn : (l.map (·.1)).Nodup) : (mput l k vd).Perm ((k, vd) :: mdel l k) := by
  induction l with
  | nil => exact .refl _
  | cons x l ih =>
    rw [List.map_cons, List.nodup_cons] at hn
    unfold mput mdel
    split
    · exact .refl _
    · exact ((ih hn.2).cons x).trans (.swap _ _ _)
theorem mem_perm {K V : Type} [DecidableEq K] {l : List (K × V)} {x : K × V} (hn : (l.map (·.1)).Nodup) (hx : x ∈ l) : l.Perm (x :: mdel l x.1) := by
  induction l with
  | nil => cases hx
  | cons y l ih =>
    rw [List.map_cons, List.nodup_cons] at hn
    unfold mdel
    split
    · rename_i e
      rcases List.mem_cons.1 hx with rfl | hx
      · exact .refl _
      · exact absurd (List.mem_map.2 ⟨x, hx, e.symm⟩) hn.1
    · rename_i e
      rcases List.mem_cons.1 hx with rfl | hx
      · exact absurd rfl e
      · exact ((ih hn.2 hx).cons y).trans (.swap _ _ _)
theorem mem_mdl {K V : Type} [DecidableEq K] {l : List (K × V)} {k : K} {x : K × V} (hn : (l.map (·.1)).Nodup) (h : x ∈ mdel l k) : x ∈ l ∧ x.1 ≠ k := by
  rw [mdel_filter hn] at h
  have := List.mem_filter.1 h
  exact ⟨this.1, by simpa using this.2⟩
theorem sum_perm {A B : List Int} (h : A.Perm B) : A.sum = B.sum := by
  induction h with
  | nil => rfl
  | cons x _ ih => simp [ih]
  | swap x y l => simp; omega
  | trans _ _ h1 h2 => rw [h1, h2]
structure SS (most : Nat) (A : CL) (L : TL) : Prop where
  nd : (L.map (·.1)).Nodup
  ti : TI L
  len : L.length ≤ most
  b : ∀ x ∈ L, 0 ≤ x.2.o ∧ x.2.o ≤ x.2.c ∧ came A x.1 ≤ x.2.c ∧ x.2.c - x.2.o ≤ came A x.1
  few : L.length < most → ∀ p, (∀ x ∈ L, x.1 ≠ p) → came A p = 0
  no : ∀ p, (∀ x ∈ L, x.1 ≠ p) → ∀ x ∈ L, came A p ≤ x.2.c
  sum : (L.map (·.2.c)).sum = totl A
theorem SS.perm {most : Nat} {A : CL} {L M : TL} (h : SS most A L) (hp : L.Perm M) : SS most A M where
  nd := (hp.map _).nodup_iff.1 h.nd
  ti := fun x hx => h.ti x (hp.mem_iff.2 hx)
  len := by rw [← hp.length_eq]; exact h.len
  b := fun x hx => h.b x (hp.mem_iff.2 hx)
  few := fun hl p hno => h.few (by rw [hp.length_eq]; exact hl) p fun x hx => hno x (hp.mem_iff.1 hx)
  no := fun p hno x hx => h.no p (fun y hy => hno y (hp.mem_iff.1 hy)) x (hp.mem_iff.2 hx)
  sum := by rw [← h.sum]; exact (sum_perm (hp.map _)).symm
theorem SS.start (most : Nat) : SS most [] [] where
  nd := .nil
  ti := fun x hx => by cases hx
  len := Nat.zero_le _
  b := fun x hx => by cases hx
  few := fun _ p _ => rfl
  no := fun p _ x hx => by cases hx
  sum := rfl
theorem SS.zero {most : Nat} {A : CL} {L : TL} {p : Pf} (h : SS most A L) : SS most (A ++ [(p, 0)]) L := by
  have hc : ∀ q, came (A ++ [(p, 0)]) q = came A q := fun q => by rw [came_snoc]; simp
  have ht : totl (A ++ [(p, 0)]) = totl A := by rw [totl_snoc]; simp
  exact ⟨h.nd, h.ti, h.len, fun x hx => by rw [hc]; exact h.b x hx, fun hl q hq => by rw [hc]; exact h.few hl q hq, fun q hq x hx => by rw [hc]; exact h.no q hq x hx, by rw [ht]; exact h.sum⟩
theorem SS.is {most : Nat} {A : CL} {L : TL} {p : Pf} {n : Int} (h : SS most A L) (hn : 0 ≤ n) {g : Hy} (hg : (p, g) ∈ L) : SS most (A ++ [(p, n)]) (mput L p ⟨g.p, g.c + n, g.o⟩) := by
  have hpm := mem_perm h.nd hg
  have h1 := h.perm hpm
  dsimp only at h1
  refine SS.perm ?_ (mput_perm h.nd).symm
  obtain ⟨q1, q2, q3, q4⟩ := h1.b _ (List.mem_cons_self ..)
  dsimp only at q1 q2 q3 q4
  have hk : ∀ x ∈ mdel L p, x.1 ≠ p := fun x hx => (mem_mdl h.nd hx).2
  constructor
  · exact h1.nd
  · intro x hx
    rcases List.mem_cons.1 hx with rfl | hx
    · exact h1.ti (p, g) (List.mem_cons_self ..)
    · exact h1.ti x (List.mem_cons_of_mem _ hx)
  · exact h1.len
  · intro x hx
    rcases List.mem_cons.1 hx with rfl | hx
    · rw [came_snoc, if_pos rfl]; dsimp only; omega
    · rw [came_snoc, if_neg (Ne.symm (hk x hx))]
      have := h1.b x (List.mem_cons_of_mem _ hx)
      omega
  · intro hl q hq
    have hqp : p ≠ q := hq _ (List.mem_cons_self ..)
    rw [came_snoc, if_neg hqp, h1.few hl q (fun x hx => by
      rcases List.mem_cons.1 hx with rfl | hx
      · exact hqp
      · exact hq x (List.mem_cons_of_mem _ hx))]
    rfl
  · intro q hq x hx
    have hqp : p ≠ q := hq _ (List.mem_cons_self ..)
    have hno := h1.no q (fun x hx => by
      rcases List.mem_cons.1 hx with rfl | hx
      · exact hqp
      · exact hq x (List.mem_cons_of_mem _ hx))
    rw [came_snoc, if_neg hqp]
    rcases List.mem_cons.1 hx with rfl | hx
    · have := hno _ (List.mem_cons_self ..); dsimp only at this ⊢; omega
    · have := hno x (List.mem_cons_of_mem _ hx); omega
  · have := h1.sum
    rw [totl_snoc]
    simp only [List.map_cons, List.sum_cons] at this ⊢
    omega
theorem SS.new {most : Nat} {A : CL} {L : TL} {p : Pf} {n : Int} (h : SS most A L) (hn : 0 ≤ n) (hp : ∀ x ∈ L, x.1 ≠ p) (hl : L.length < most) : SS most (A ++ [(p, n)]) (mput L p ⟨p, n, 0⟩) := by
  refine SS.perm ?_ (mput_perm h.nd).symm
  have hd : mdel L p = L := (mfind_none hp).2.2
  rw [hd]
  have hp0 := h.few hl p hp
  constructor
  · rw [List.map_cons, List.nodup_cons]
    exact ⟨fun hm => by obtain ⟨x, hx, e⟩ := List.mem_map.1 hm; exact hp x hx e, h.nd⟩
  · intro x hx
    rcases List.mem_cons.1 hx with rfl | hx
    · rfl
    · exact h.ti x hx
  · rw [List.length_cons]; omega
  · intro x hx
    rcases List.mem_cons.1 hx with rfl | hx
    · rw [came_snoc, if_pos rfl, hp0]; dsimp only; omega
    · rw [came_snoc, if_neg (Ne.symm (hp x hx))]
      have := h.b x hx
      omega
  · intro _ q hq
    rw [came_snoc, if_neg (hq _ (List.mem_cons_self ..)), h.few hl q (fun x hx => hq x (List.mem_cons_of_mem _ hx))]
    rfl
  · intro q hq x hx
    rw [came_snoc, if_neg (hq _ (List.mem_cons_self ..)), h.few hl q (fun x hx => hq x (List.mem_cons_of_mem _ hx))]
    rcases List.mem_cons.1 hx with rfl | hx
    · dsimp only; omega
    · have := h.b x hx; omega
  · have := h.sum
    rw [totl_snoc]
    simp only [List.map_cons, List.sum_cons] at this ⊢
    omega
theorem least_count {L : TL} {g : Hy} (hl : isLeast L g) : ∀ x ∈ L, g.c ≤ x.2.c := fun x hx => by
  have h := hl.2 x hx
  unfold leastC at h
  by_cases h1 : Lib.compareInt x.2.c g.c ≠ 0
  · rw [if_pos h1] at h
    unfold Lib.compareInt at h h1
    (repeat' split at h) <;> simp_all <;> omega
  · have h2 : Lib.compareInt x.2.c g.c = 0 := by omega
    unfold Lib.compareInt at h2
    (repeat' split at h2) <;> omega
theorem SS.gone {most : Nat} {A : CL} {L : TL} {p : Pf} {n : Int} (h : SS most A L) (hn : 0 ≤ n) (hA : 0 ≤ came A p) (hp : ∀ x ∈ L, x.1 ≠ p) (hl : ¬ L.length < most) {g : Hy} (hg : isLeast L g) : SS most (A ++ [(p, n)]) (mput (mdel L g.p) p ⟨p, g.c + n, g.c⟩) := by
  have hlc := least_count hg
  obtain ⟨⟨x0, hx0, rfl⟩, _⟩ := hg
  have hti := h.ti x0 hx0
  rw [hti]
  have hpm := mem_perm h.nd hx0
  have h1 := h.perm hpm
  have hnd1 := h1.nd
  rw [List.map_cons, List.nodup_cons] at hnd1
  have hsub : ∀ x ∈ mdel L x0.1, x ∈ L ∧ x.1 ≠ x0.1 := fun x hx => mem_mdl h.nd hx
  refine SS.perm ?_ (mput_perm hnd1.2).symm
  have hd : mdel (mdel L x0.1) p = mdel L x0.1 := (mfind_none (fun x hx => hp x (hsub x hx).1)).2.2
  rw [hd]
  have hcp := h.no p hp
  have hb0 := h.b x0 hx0
  constructor
  · rw [List.map_cons, List.nodup_cons]
    exact ⟨fun hm => by obtain ⟨x, hx, e⟩ := List.mem_map.1 hm; exact hp x (hsub x hx).1 e, hnd1.2⟩
  · intro x hx
    rcases List.mem_cons.1 hx with rfl | hx
    · rfl
    · exact h.ti x (hsub x hx).1
  · exact h1.len
  · intro x hx
    rcases List.mem_cons.1 hx with rfl | hx
    · have := hcp x0 hx0
      rw [came_snoc, if_pos rfl]; dsimp only; omega
    · rw [came_snoc, if_neg (Ne.symm (hp x (hsub x hx).1))]
      have := h.b x (hsub x hx).1
      omega
  · intro hl2
    have := hpm.length_eq
    rw [List.length_cons] at this hl2
    omega
  · intro q hq x hx
    have hqp : p ≠ q := hq _ (List.mem_cons_self ..)
    rw [came_snoc, if_neg hqp]
    have hqL : came A q ≤ x0.2.c := by
      by_cases hq0 : x0.1 = q
      · rw [← hq0]; exact hb0.2.2.1
      · refine h.no q (fun z hz => ?_) x0 hx0
        rcases List.mem_cons.1 (hpm.mem_iff.1 hz) with rfl | hz'
        · exact hq0
        · exact hq z (List.mem_cons_of_mem _ hz')
    rcases List.mem_cons.1 hx with rfl | hx
    · dsimp only; omega
    · have := hlc x (hsub x hx).1; omega
  · have := h1.sum
    rw [totl_snoc]
    simp only [List.map_cons, List.sum_cons] at this ⊢
    omega
theorem sum_le {L : List Int} (h : ∀ x ∈ L, 0 ≤ x) {a : Int} (ha : a ∈ L) : a ≤ L.sum := by
  induction L with
  | nil => cases ha
  | cons b L ih =>
    have h1 : 0 ≤ L.sum := by
      have : ∀ M : List Int, (∀ x ∈ M, 0 ≤ x) → 0 ≤ M.sum := by
        intro M
        induction M with
        | nil => intro _; simp
        | cons c M ih2 => intro hm; have := hm c (List.mem_cons_self ..); have := ih2 fun x hx => hm x (List.mem_cons_of_mem _ hx); simp; omega
      exact this L fun x hx => h x (List.mem_cons_of_mem _ hx)
    have h2 := h b (List.mem_cons_self ..)
    rw [List.sum_cons]
    rcases List.mem_cons.1 ha with rfl | ha
    · omega
    · have := ih (fun x hx => h x (List.mem_cons_of_mem _ hx)) ha; omega
theorem SS.cle {most : Nat} {A : CL} {L : TL} (h : SS most A L) {x : Pf × Hy} (hx : x ∈ L) : 0 ≤ x.2.c ∧ x.2.c ≤ totl A := by
  have hb := h.b x hx
  refine ⟨by omega, ?_⟩
  rw [← h.sum]
  exact sum_le (fun y hy => by obtain ⟨z, hz, rfl⟩ := List.mem_map.1 hy; have := h.b z hz; omega) (List.mem_map.2 ⟨x, hx, rfl⟩)
end Go.Proofs.Ytncgponcedkihaa
