/- Layer 23 (flows): the table and the document's list: the plain law. -/
import Derived.Test.YtncgponcedkihaaFi
import Derived.Test.YtncgponcedkihaaFk
namespace Go.Proofs.Ytncgponcedkihaa
open Go.RowKit
set_option linter.unusedSimpArgs false
set_option linter.unusedVariables false
theorem uniq_perm {α : Type} {r : α → α → Prop} (hr : ∀ a b, r a b → r b a → False) : ∀ {A B : List α}, A.Perm B → A.Pairwise r → B.Pairwise r → A = B
  | [], B, hp, _, _ => by rw [List.nil_perm.1 hp]
  | a :: A, [], hp, _, _ => by have := hp.length_eq; simp at this
  | a :: A, b :: B, hp, ha, hb => by
    rw [List.pairwise_cons] at ha hb
    have hab : a = b := by
      rcases List.mem_cons.1 (hp.mem_iff.1 (List.mem_cons_self ..)) with h | h
      · exact h
      · rcases List.mem_cons.1 (hp.mem_iff.2 (List.mem_cons_self (a := b) (l := B))) with h2 | h2
        · exact h2.symm
        · exact (hr _ _ (ha.1 b h2) (hb.1 a h)).elim
    subst hab
    rw [uniq_perm hr (List.Perm.cons_inv hp) ha.2 hb.2]
theorem memPerm {K V : Type} [DecidableEq K] {l : List (K × V)} {x : K × V} (hn : (l.map (·.1)).Nodup) (hx : x ∈ l) : l.Perm (x :: mdel l x.1) := by
  induction l with
  | nil => cases hx
  | cons y l ih =>
    rw [List.map_cons, List.nodup_cons] at hn
    unfold mdel
    split
    · rename_i e
      rcases List.mem_cons.1 hx with rfl | hx
      · exact .refl _
      · exact absurd (List.mem_map.2 ⟨x, hx, e.symm⟩) hn.1
    · rename_i e
      rcases List.mem_cons.1 hx with rfl | hx
      · exact absurd rfl e
      · exact ((ih hn.2 hx).cons y).trans (.swap _ _ _)
theorem firstI_cases {α : Type} (q : α → Bool) (l : List α) : (∃ (i : Nat) (x : α), l[i]? = some x ∧ q x = true ∧ firstI q l = (i : Int)) ∨ ((∀ x ∈ l, q x = false) ∧ firstI q l = -1) := by
  unfold firstI
  cases h : l.findIdx? q with
  | none => exact .inr ⟨by simpa using List.findIdx?_eq_none_iff.1 h, rfl⟩
  | some i =>
    obtain ⟨hlt, h1, _⟩ := List.findIdx?_eq_some_iff_getElem.1 h
    exact .inl ⟨i, l[i], List.getElem?_eq_getElem hlt, h1, rfl⟩
def fSo (D : LL) : Prop := D.Pairwise (fun x y => flC x.1 y.1 < 0)
theorem fl_asym {a b : Fl} (h1 : flC a b < 0) (h2 : flC b a < 0) : False := by
  have := TC.fl.flip a b
  omega
theorem fl_trans {a b d : Fl} (h1 : flC a b < 0) (h2 : flC b d < 0) : flC a d < 0 := by
  have h3 := TC.fl.trans a b d (by omega) (by omega)
  have h4 := TC.fl.flip a d
  have h6 := TC.fl.flip d a
  have h5 : flC a d ≠ 0 := fun e => by
    have e2 := fl_zero e
    subst e2
    exact fl_asym h1 h2
  omega
theorem fl_total {a b : Fl} (h1 : ¬ flC a b < 0) (h2 : a ≠ b) : flC b a < 0 := by
  have h4 := TC.fl.flip b a
  have h5 : flC a b ≠ 0 := fun e => h2 (fl_zero e)
  omega
/-- The list of the table is the document's. -/
structure frel (L D : LL) : Prop where
  pm : D.Perm L
  so : fSo D
theorem frel.nil : frel [] [] := ⟨.refl _, .nil⟩
def cutI (D : LL) (i : Nat) : LL := D.take i ++ D.drop (i + 1)
theorem cut_split {D : LL} {i : Nat} {x : Fl × En} (h : D[i]? = some x) : D = D.take i ++ x :: D.drop (i + 1) := by
  obtain ⟨h1, h2⟩ := List.getElem?_eq_some_iff.1 h
  rw [← h2, List.getElem_cons_drop, List.take_append_drop]
theorem set_split {D : LL} {i : Nat} {x z : Fl × En} (h : D[i]? = some x) : D.set i z = D.take i ++ z :: D.drop (i + 1) := by
  obtain ⟨h1, h2⟩ := List.getElem?_eq_some_iff.1 h
  rw [List.set_eq_take_append_cons_drop, if_pos h1]
section
variable {L D : LL} {R : RR}
theorem frel.mem (h : frel L D) {i : Nat} {x : Fl × En} (hx : D[i]? = some x) : x ∈ L := h.pm.mem_iff.1 (List.mem_of_getElem? hx)
theorem frel.find (h : frel L D) (hk : lkd L R) {i : Nat} {x : Fl × En} (hx : D[i]? = some x) : mfind L x.1 = some x.2 := mfind_at hk.kn (h.mem hx)
theorem frel.no (h : frel L D) {f : Fl} (hn : ∀ x ∈ D, x.1 ≠ f) : mfind L f = none := by
  cases hf : mfind L f with
  | none => rfl
  | some a => exact absurd rfl (hn _ (h.pm.mem_iff.2 (mfind_mem hf)))
theorem frel.of (h : frel L D) (hk : lkd L R) {i : Nat} {x : Fl × En} (hx : D[i]? = some x) : mfind R (replyE x) = some x.1 := (hk.li _ _).2 ⟨x.2, h.find hk hx, rfl⟩
theorem frel.ofno (h : frel L D) (hk : lkd L R) {r : Fl} (hn : ∀ x ∈ D, replyE x ≠ r) : mfind R r = none := by
  cases hf : mfind R r with
  | none => rfl
  | some f =>
    obtain ⟨a, h1, h2⟩ := (hk.li r f).1 hf
    exact absurd h2 (hn _ (h.pm.mem_iff.2 (mfind_mem h1)))
theorem frel.cut (h : frel L D) (hk : lkd L R) {i : Nat} {x : Fl × En} (hx : D[i]? = some x) : frel (mdel L x.1) (cutI D i) := by
  have e := cut_split hx
  refine ⟨?_, ?_⟩
  · have h1 : D.Perm (x :: cutI D i) := by
      have h2 : (D.take i ++ x :: D.drop (i + 1)).Perm (x :: cutI D i) := List.perm_middle
      rwa [← e] at h2
    exact List.Perm.cons_inv ((h1.symm.trans h.pm).trans (memPerm hk.kn (h.mem hx)))
  · refine List.Pairwise.sublist ?_ h.so
    have h2 : (cutI D i).Sublist (D.take i ++ x :: D.drop (i + 1)) := List.Sublist.append (.refl _) (List.sublist_cons_self ..)
    rwa [← e] at h2
theorem frel.filter (h : frel L D) (q : Fl × En → Bool) : frel (L.filter q) (D.filter q) := ⟨h.pm.filter q, h.so.filter q⟩
theorem frel.set (h : frel L D) (hk : lkd L R) {i : Nat} {x : Fl × En} (hx : D[i]? = some x) {f : Fl} (hf : x.1 = f) (a : En) : frel (mput (mdel L f) f a) (D.set i (f, a)) := by
  have e := set_split (z := (f, a)) hx
  have hno : ∀ y ∈ mdel L f, y.1 ≠ f := fun y hy => by
    rw [mdel_filter hk.kn] at hy
    simpa using (List.mem_filter.1 hy).2
  rw [(mfind_none hno).2.1]
  refine ⟨?_, ?_⟩
  · rw [e]
    have h2 : (D.take i ++ (f, a) :: D.drop (i + 1)).Perm ((f, a) :: cutI D i) := List.perm_middle
    refine h2.trans ?_
    have h3 := (h.cut hk hx).pm
    rw [hf] at h3
    exact (h3.cons (f, a)).trans (List.perm_append_singleton ..).symm
  · have e2 : (D.set i (f, a)).map (·.1) = D.map (·.1) := by
      rw [e]
      have e3 := congrArg (List.map (·.1)) (cut_split hx)
      rw [List.map_append, List.map_cons, hf] at e3
      rw [List.map_append, List.map_cons, e3]
    have h5 := h.so
    unfold fSo at h5 ⊢
    rw [← List.pairwise_map (f := fun z : Fl × En => z.1) (R := fun a b => flC a b < 0)] at h5 ⊢
    rwa [e2]
theorem frel.ins (h : frel L D) {f : Fl} (a : En) (hn : ∀ x ∈ D, x.1 ≠ f) {i : Nat} (hi : i ≤ D.length) (h1 : ∀ (j : Nat) y, j < i → D[j]? = some y → flLt y.1 f = true) (h2 : ∀ y, D[i]? = some y → flLt y.1 f = false) : frel (mput (mdel L f) f a) (D.take i ++ (f, a) :: D.drop i) := by
  have hno : ∀ y ∈ L, y.1 ≠ f := fun y hy => hn y (h.pm.mem_iff.2 hy)
  rw [(mfind_none hno).2.2, (mfind_none hno).2.1]
  refine ⟨?_, ?_⟩
  · have h3 : (D.take i ++ (f, a) :: D.drop i).Perm ((f, a) :: (D.take i ++ D.drop i)) := List.perm_middle
    rw [List.take_append_drop] at h3
    exact (h3.trans (h.pm.cons _)).trans (List.perm_append_singleton ..).symm
  · have hso : (D.take i ++ D.drop i).Pairwise (fun x y => flC x.1 y.1 < 0) := by rw [List.take_append_drop]; exact h.so
    rw [List.pairwise_append] at hso
    obtain ⟨q1, q2, q3⟩ := hso
    have hb : ∀ y ∈ D.drop i, flC f y.1 < 0 := by
      cases hd : D[i]? with
      | none =>
        have : D.drop i = [] := List.drop_eq_nil_of_le (by simpa using List.getElem?_eq_none_iff.1 hd)
        intro y hy; rw [this] at hy; cases hy
      | some z =>
        have hz := h2 z hd
        have e : D.drop i = z :: D.drop (i + 1) := by
          obtain ⟨g1, g2⟩ := List.getElem?_eq_some_iff.1 hd
          rw [← g2, List.getElem_cons_drop]
        have hzf : flC f z.1 < 0 := fl_total (by unfold flLt at hz; simpa using hz) (hn z (List.mem_of_getElem? hd))
        rw [e, List.pairwise_cons] at q2
        intro y hy
        rw [e] at hy
        rcases List.mem_cons.1 hy with rfl | hy
        · exact hzf
        · exact fl_trans hzf (q2.1 y hy)
    have ha : ∀ y ∈ D.take i, flC y.1 f < 0 := fun y hy => by
      obtain ⟨j, hj⟩ := List.getElem?_of_mem hy
      rw [List.getElem?_take] at hj
      split at hj
      · rename_i hji
        have := h1 j y hji hj
        unfold flLt at this
        simpa using this
      · cases hj
    unfold fSo
    rw [List.pairwise_append, List.pairwise_cons]
    refine ⟨q1, ⟨hb, q2⟩, fun x hx y hy => ?_⟩
    rcases List.mem_cons.1 hy with rfl | hy
    · exact ha x hx
    · exact q3 x hx y hy
theorem frel.uniq (h : frel L D) (hk : lkd L R) {o : LL} (hp : o.Perm L) (ho : o.Pairwise (fun a b => ltOf hdC b a = false)) : o = D := by
  refine uniq_perm (r := fun x y : Fl × En => flC x.1 y.1 < 0) (fun a b h1 h2 => fl_asym h1 h2) (hp.trans h.pm.symm) ?_ h.so
  have hn : (o.map (·.1)).Nodup := (hp.map _).nodup_iff.2 hk.kn
  unfold List.Nodup at hn
  rw [List.pairwise_map] at hn
  refine (List.pairwise_and_iff.2 ⟨ho, hn⟩).imp fun {a b} hh => ?_
  have h1 := hh.1
  rw [hdC_lt] at h1
  unfold ltOf at h1
  refine fl_total (by simpa using h1) (Ne.symm hh.2)
end
/-- What the document's Put does. -/
inductive rputO (now : Int) (D : LL) (f r : Fl) : Option LL → Prop
  | no (h : ∀ x ∈ D, replyE x ≠ r) : rputO now D f r (some D)
  | own (i : Nat) (x : Fl × En) (h : D[i]? = some x) (hr : replyE x = r) (hf : x.1 = f) : rputO now D f r (some D)
  | live (i : Nat) (x : Fl × En) (h : D[i]? = some x) (hr : replyE x = r) (hf : x.1 ≠ f) (hl : now < x.2.til) : rputO now D f r none
  | gone (i : Nat) (x : Fl × En) (h : D[i]? = some x) (hr : replyE x = r) (hf : x.1 ≠ f) (hl : ¬ now < x.2.til) : rputO now D f r (some (cutI D i))
def rfull (most now : Int) (D : LL) : LL := if (D.length : Int) ≥ most then D.filter (fun x => decide (now < x.2.til)) else D
inductive rputP (most now : Int) (D : LL) (f : Fl) (a : En) : Int → LL → Prop
  | there (h : rputO now D f (replyF f a) none) : rputP most now D f a 7 D
  | set (D1 : LL) (h : rputO now D f (replyF f a) (some D1)) (i : Nat) (x : Fl × En) (h1 : D1[i]? = some x) (hf : x.1 = f) : rputP most now D f a 0 (D1.set i (f, a))
  | full (D1 : LL) (h : rputO now D f (replyF f a) (some D1)) (hn : ∀ x ∈ D1, x.1 ≠ f) (hl : ((rfull most now D1).length : Int) ≥ most) : rputP most now D f a 2 (rfull most now D1)
  | ins (D1 : LL) (h : rputO now D f (replyF f a) (some D1)) (hn : ∀ x ∈ D1, x.1 ≠ f) (hl : ¬ ((rfull most now D1).length : Int) ≥ most) (i : Nat) (hi : i ≤ (rfull most now D1).length)
      (h1 : ∀ (j : Nat) y, j < i → (rfull most now D1)[j]? = some y → flLt y.1 f = true) (h2 : ∀ y, (rfull most now D1)[i]? = some y → flLt y.1 f = false) : rputP most now D f a 0 ((rfull most now D1).take i ++ (f, a) :: (rfull most now D1).drop i)
section
variable {L D : LL} {R : RR} {most now : Int} {f : Fl}
theorem pExp_not {x : Fl × En} : (!pExp now x.2) = decide (now < x.2.til) := by
  unfold pExp
  by_cases h : x.2.til ≤ now
  · rw [decide_eq_true h, decide_eq_false (by omega)]; rfl
  · rw [decide_eq_false h, decide_eq_true (by omega)]; rfl
theorem rputO_ok {r : Fl} {o : Option LL} (h : frel L D) (hk : lkd L R) (ho : rputO now D f r o) :
    (o = none ∧ put1 L R f r now = none) ∨ ∃ D1 l R1, o = some D1 ∧ put1 L R f r now = some l ∧ frel l D1 ∧ lkd l R1 := by
  cases ho with
  | no hn => exact .inr ⟨D, L, R, rfl, by unfold put1; rw [h.ofno hk hn], h, hk⟩
  | own i x hx hr hf => exact .inr ⟨D, L, R, rfl, by unfold put1; rw [← hr, h.of hk hx]; exact if_pos hf, h, hk⟩
  | live i x hx hr hf hl =>
    refine .inl ⟨rfl, ?_⟩
    have hv : getV L x.1 now = true := by unfold getV mhas; rw [mget_of, h.find hk hx]; simpa using hl
    unfold put1; rw [← hr, h.of hk hx]
    dsimp only
    rw [if_neg hf, if_pos hv]
  | gone i x hx hr hf hl =>
    refine .inr ⟨cutI D i, mdel L x.1, mdel R (replyF x.1 x.2), rfl, ?_, h.cut hk hx, hk.del (h.find hk hx)⟩
    have hv : getV L x.1 now = false := by unfold getV mhas; rw [mget_of, h.find hk hx]; simpa using hl
    unfold put1; rw [← hr, h.of hk hx]
    dsimp only
    rw [if_neg hf, if_neg (by rw [hv]; simp)]
theorem rput_ok {a : En} {n : Int} {D' : LL} (h : frel L D) (hk : lkd L R) (hp : rputP most now D f a n D') :
    n = (putS most now L R f (replyF f a) a).1 ∧ frel (putS most now L R f (replyF f a) a).2 D' := by
  have key : ∀ {D1 l : LL} {R1 : RR}, frel l D1 → lkd l R1 → (∀ x ∈ D1, x.1 ≠ f) → mhas l f = false ∧ frel (put2 most now l f) (rfull most now D1) ∧ ((rfull most now D1).length = (put2 most now l f).length) := by
    intro D1 l R1 g1 g2 hn
    have hb : mhas l f = false := by unfold mhas; rw [g1.no hn]; rfl
    have hl := g1.pm.length_eq
    have e : frel (put2 most now l f) (rfull most now D1) := by
      unfold put2 rfull
      by_cases hm : (l.length : Int) ≥ most
      · rw [if_pos ⟨hb, hm⟩, if_pos (by omega), show (fun x : Fl × En => !pExp now x.2) = (fun x => decide (now < x.2.til)) from funext fun x => pExp_not]
        exact g1.filter _
      · rw [if_neg (fun q => hm q.2), if_neg (by omega)]
        exact g1
    exact ⟨hb, e, e.pm.length_eq⟩
  cases hp with
  | there ho =>
    rcases rputO_ok h hk ho with ⟨_, h1⟩ | ⟨D1, l, R1, h1, _⟩
    · have e : putS most now L R f (replyF f a) a = (7, L) := by unfold putS; rw [h1]
      rw [e]; exact ⟨rfl, h⟩
    · cases h1
  | set D1 ho i x hx hf =>
    rcases rputO_ok h hk ho with ⟨h1, _⟩ | ⟨D2, l, R1, h1, h2, h3, h4⟩
    · cases h1
    · cases h1
      have hb : mhas l f = true := by unfold mhas; rw [← hf, h3.find h4 hx]; rfl
      rw [putS_a h2 hb]
      exact ⟨rfl, h3.set h4 hx hf a⟩
  | full D1 ho hn hl =>
    rcases rputO_ok h hk ho with ⟨h1, _⟩ | ⟨D2, l, R1, h1, h2, h3, h4⟩
    · cases h1
    · cases h1
      obtain ⟨hb, e1, e2⟩ := key h3 h4 hn
      rw [putS_of h2 rfl, if_pos ⟨hb, by omega⟩]
      exact ⟨rfl, e1⟩
  | ins D1 ho hn hl i hi q1 q2 =>
    rcases rputO_ok h hk ho with ⟨h1, _⟩ | ⟨D2, l, R1, h1, h2, h3, h4⟩
    · cases h1
    · cases h1
      obtain ⟨hb, e1, e2⟩ := key h3 h4 hn
      rw [putS_of h2 rfl, if_neg (fun q => hl (by omega))]
      refine ⟨rfl, e1.ins a (fun x hx => ?_) hi q1 q2⟩
      unfold rfull at hx
      split at hx
      · exact hn x (List.mem_filter.1 hx).1
      · exact hn x hx
end
end Go.Proofs.Ytncgponcedkihaa
