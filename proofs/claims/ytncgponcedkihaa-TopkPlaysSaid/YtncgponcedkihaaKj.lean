/- Layer 38 (topk): the counts and the document's list: the plain law. -/
import Derived.Test.YtncgponcedkihaaKi
namespace Go.Proofs.Ytncgponcedkihaa
open Go.RowKit
set_option linter.unusedSimpArgs false
set_option linter.unusedVariables false
open Go.Lib (compareInt)
theorem uniqK {α : Type} {r : α → α → Prop} (hr : ∀ a b, r a b → r b a → False) : ∀ {A B : List α}, A.Perm B → A.Pairwise r → B.Pairwise r → A = B
  | [], B, hp, _, _ => by rw [List.nil_perm.1 hp]
  | a :: A, [], hp, _, _ => by have := hp.length_eq; simp at this
  | a :: A, b :: B, hp, ha, hb => by
    rw [List.pairwise_cons] at ha hb
    have hab : a = b := by
      rcases List.mem_cons.1 (hp.mem_iff.1 (List.mem_cons_self ..)) with h | h
      · exact h
      · rcases List.mem_cons.1 (hp.mem_iff.2 (List.mem_cons_self (a := b) (l := B))) with h2 | h2
        · exact h2.symm
        · exact (hr _ _ (ha.1 b h2) (hb.1 a h)).elim
    subst hab
    rw [uniqK hr (List.Perm.cons_inv hp) ha.2 hb.2]
theorem fal_p {a b : Hy} (h : falC a b = 0) : a.p = b.p := by
  unfold falC at h
  by_cases h1 : compareInt b.c a.c ≠ 0
  · rw [if_pos h1] at h; exact absurd h h1
  · rw [if_neg h1] at h; exact pf_zero (pfO_sign.2.1 h)
theorem fal_asym {a b : Hy} (h1 : falC a b < 0) (h2 : falC b a < 0) : False := by
  have := TC.fal.flip a b
  omega
theorem fal_total {a b : Hy} (h1 : ¬ falC a b < 0) (h2 : a.p ≠ b.p) : falC b a < 0 := by
  have h4 := TC.fal.flip b a
  have h5 : falC a b ≠ 0 := fun e => h2 (fal_p e)
  omega
theorem fal_trans {a b d : Hy} (h1 : falC a b < 0) (h2 : falC b d < 0) : falC a d < 0 := by
  have f1 := TC.fal.flip a b
  have f2 := TC.fal.flip b d
  have f3 := TC.fal.flip a d
  have f4 := TC.fal.flip b a
  have f5 := TC.fal.flip d b
  have f6 := TC.fal.flip d a
  have h3 := TC.fal.trans a b d (by omega) (by omega)
  by_cases h5 : falC a d = 0
  · have h6 := TC.fal.trans b d a (by omega) (by omega)
    omega
  · omega
structure trel (L : TL) (D : List Hy) : Prop where
  nd : (L.map (·.1)).Nodup
  ti : TI L
  pm : D.Perm (L.map (·.2))
  so : D.Pairwise (fun x y => falC x y < 0)
theorem trel.nil : trel [] [] := ⟨List.nodup_nil, (fun _ h => by cases h), .refl _, .nil⟩
def cutH (D : List Hy) (i : Nat) : List Hy := D.take i ++ D.drop (i + 1)
theorem cutH_split {D : List Hy} {i : Nat} {x : Hy} (h : D[i]? = some x) : D = D.take i ++ x :: D.drop (i + 1) := by
  obtain ⟨h1, h2⟩ := List.getElem?_eq_some_iff.1 h
  rw [← h2, List.getElem_cons_drop, List.take_append_drop]
/-- What the document's Add counts on: the client, and the others. -/
inductive taddO (most : Int) (D : List Hy) (p : Pf) : Hy → List Hy → Prop
  | is (i : Nat) (h : Hy) (hi : D[i]? = some h) (hp : h.p = p) : taddO most D p h (cutH D i)
  | new (hn : ∀ x ∈ D, x.p ≠ p) (hl : (D.length : Int) < most) : taddO most D p ⟨p, 0, 0⟩ D
  | gone (hn : ∀ x ∈ D, x.p ≠ p) (hl : ¬ (D.length : Int) < most) (i : Nat) (h : Hy) (hi : D[i]? = some h) (hz : ∀ z ∈ D, ¬ leastC z h < 0) : taddO most D p ⟨p, h.c, h.c⟩ (cutH D i)
def insH (D : List Hy) (h : Hy) (i : Nat) : List Hy := D.take i ++ h :: D.drop i
def isAt (D : List Hy) (h : Hy) (i : Nat) : Prop := i ≤ D.length ∧ (∀ (j : Nat) y, j < i → D[j]? = some y → falC y h < 0) ∧ ∀ y, D[i]? = some y → ¬ falC y h < 0
theorem mem_of_map {L : TL} {D : List Hy} {h : Hy} (hr : trel L D) (hh : h ∈ D) : (h.p, h) ∈ L := by
  obtain ⟨x, hx, rfl⟩ := List.mem_map.1 (hr.pm.mem_iff.1 hh)
  rw [hr.ti x hx]; exact hx
theorem trel.no {L : TL} {D : List Hy} (hr : trel L D) {p : Pf} (hn : ∀ x ∈ D, x.p ≠ p) : ∀ x ∈ L, x.1 ≠ p := fun x hx => by
  rw [← hr.ti x hx]
  exact hn _ (hr.pm.mem_iff.2 (List.mem_map.2 ⟨x, hx, rfl⟩))
theorem trel.has {L : TL} {D : List Hy} (hr : trel L D) {i : Nat} {h : Hy} (hi : D[i]? = some h) : mfind L h.p = some h := mfind_at hr.nd (mem_of_map hr (List.mem_of_getElem? hi))
theorem trel.cut {L : TL} {D : List Hy} (hr : trel L D) {i : Nat} {h : Hy} (hi : D[i]? = some h) : trel (mdel L h.p) (cutH D i) ∧ ∀ x ∈ cutH D i, x.p ≠ h.p := by
  have e := cutH_split hi
  have hm := mem_of_map hr (List.mem_of_getElem? hi)
  have hpm := mem_perm hr.nd hm
  dsimp only at hpm
  have h1 : D.Perm (h :: cutH D i) := by
    have h2 : (D.take i ++ h :: D.drop (i + 1)).Perm (h :: cutH D i) := List.perm_middle
    rwa [← e] at h2
  have h3 : (cutH D i).Perm ((mdel L h.p).map (·.2)) := List.Perm.cons_inv ((h1.symm.trans hr.pm).trans (hpm.map (·.2)))
  have hrel : trel (mdel L h.p) (cutH D i) := ⟨mdel_keys hr.nd, fun x hx => hr.ti x (mdel_sub.subset hx), h3, by
    refine List.Pairwise.sublist ?_ hr.so
    have h2 : (cutH D i).Sublist (D.take i ++ h :: D.drop (i + 1)) := List.Sublist.append (.refl _) (List.sublist_cons_self ..)
    rwa [← e] at h2⟩
  refine ⟨hrel, fun x hx => ?_⟩
  obtain ⟨z, hz, rfl⟩ := List.mem_map.1 (h3.mem_iff.1 hx)
  rw [hrel.ti z hz]
  exact (mem_mdl hr.nd hz).2
theorem trel.ins {L : TL} {D : List Hy} (hr : trel L D) {h : Hy} (hn : ∀ x ∈ D, x.p ≠ h.p) {i : Nat} (hi : isAt D h i) : trel (mput L h.p h) (insH D h i) := by
  obtain ⟨g1, g2, g3⟩ := hi
  have hno := hr.no hn
  have e1 := (mfind_none hno).2.1 h
  have h3 : (insH D h i).Perm (h :: D) := by
    have : (D.take i ++ h :: D.drop i).Perm (h :: (D.take i ++ D.drop i)) := List.perm_middle
    rwa [List.take_append_drop] at this
  have hb : ∀ y ∈ D.drop i, falC h y < 0 := by
    have hso : (D.drop i).Pairwise (fun x y => falC x y < 0) := hr.so.sublist (List.drop_sublist ..)
    cases hd : D[i]? with
    | none =>
      have : D.drop i = [] := List.drop_eq_nil_of_le (by simpa using List.getElem?_eq_none_iff.1 hd)
      intro y hy; rw [this] at hy; cases hy
    | some z =>
      have e : D.drop i = z :: D.drop (i + 1) := by
        obtain ⟨q1, q2⟩ := List.getElem?_eq_some_iff.1 hd
        rw [← q2, List.getElem_cons_drop]
      have hz := fal_total (g3 z hd) (hn z (List.mem_of_getElem? hd))
      rw [e, List.pairwise_cons] at hso
      intro y hy
      rw [e] at hy
      rcases List.mem_cons.1 hy with rfl | hy
      · exact hz
      · exact fal_trans hz (hso.1 y hy)
  have ha : ∀ y ∈ D.take i, falC y h < 0 := fun y hy => by
    obtain ⟨j, hj⟩ := List.getElem?_of_mem hy
    rw [List.getElem?_take] at hj
    split at hj
    · rename_i hji
      exact g2 j y hji hj
    · cases hj
  refine ⟨mput_keys hr.nd, ?_, ?_, ?_⟩
  · rw [e1]; intro x hx
    rcases List.mem_append.1 hx with q | q
    · exact hr.ti x q
    · cases List.mem_singleton.1 q; rfl
  · rw [e1, List.map_append]
    refine (h3.trans (hr.pm.cons h)).trans ?_
    exact (List.perm_append_singleton ..).symm
  · have hso : (D.take i ++ D.drop i).Pairwise (fun x y => falC x y < 0) := by rw [List.take_append_drop]; exact hr.so
    rw [List.pairwise_append] at hso
    obtain ⟨q1, q2, q3⟩ := hso
    unfold insH
    rw [List.pairwise_append, List.pairwise_cons]
    refine ⟨q1, ⟨hb, q2⟩, fun x hx y hy => ?_⟩
    rcases List.mem_cons.1 hy with rfl | hy
    · exact ha x hx
    · exact q3 x hx y hy
theorem trel.len {L : TL} {D : List Hy} (hr : trel L D) : D.length = L.length := by
  have := hr.pm.length_eq
  simpa using this
theorem trel.uniq {L : TL} {D : List Hy} (hr : trel L D) {o : List Hy} (hp : o.Perm (L.map (·.2))) (ho : o.Pairwise (fun a b => ltOf falC b a = false)) : o = D := by
  refine uniqK (r := fun x y : Hy => falC x y < 0) (fun a b h1 h2 => fal_asym h1 h2) (hp.trans hr.pm.symm) ?_ hr.so
  have hn : (o.map (·.p)).Nodup := by
    refine ((hp.map (·.p)).nodup_iff).2 ?_
    have e : (L.map (·.2)).map (·.p) = L.map (·.1) := by
      rw [List.map_map]
      exact List.map_congr_left fun x hx => hr.ti x hx
    rw [e]; exact hr.nd
  unfold List.Nodup at hn
  rw [List.pairwise_map] at hn
  refine (List.pairwise_and_iff.2 ⟨ho, hn⟩).imp fun {a b} hh => ?_
  have h1 := hh.1
  unfold ltOf at h1
  exact fal_total (by simpa using h1) (Ne.symm hh.2)
/-- The least of the list is the one that goes. -/
theorem trel.least {L : TL} {D : List Hy} (hr : trel L D) {i : Nat} {h : Hy} (hi : D[i]? = some h) (hz : ∀ z ∈ D, ¬ leastC z h < 0) : h = lz L := by
  refine lz_eq hr.nd hr.ti ⟨⟨_, mem_of_map hr (List.mem_of_getElem? hi), rfl⟩, fun z hz' => hz _ (hr.pm.mem_iff.2 (List.mem_map.2 ⟨z, hz', rfl⟩))⟩
/-- What the table's Add leaves. -/
noncomputable def addS (most : Int) (L : TL) (p : Pf) (n : Int) : TL :=
  if mhas L p = true then mput L p ⟨(mget hyM L p).p, wU ((mget hyM L p).c + n), (mget hyM L p).o⟩
  else if (L.length : Int) < most then mput L p ⟨p, wU (0 + n), 0⟩
  else mput (mdel L (lz L).p) p ⟨p, wU ((lz L).c + n), (lz L).c⟩
theorem mput_mdel {L : TL} {p : Pf} {vd : Hy} (hn : (L.map (·.1)).Nodup) : (mput L p vd).Perm (mput (mdel L p) p vd) := by
  have h1 := mput_perm (l := L) (k := p) (vd := vd) hn
  have h2 := mput_perm (l := mdel L p) (k := p) (vd := vd) (mdel_keys hn)
  have e : mdel (mdel L p) p = mdel L p := (mfind_none (fun x hx => (mem_mdl hn hx).2)).2.2
  rw [e] at h2
  exact h1.trans h2.symm
theorem trel.perm {L M : TL} {D : List Hy} (hr : trel L D) (hp : L.Perm M) : trel M D := ⟨(hp.map _).nodup_iff.1 hr.nd, fun x hx => hr.ti x (hp.mem_iff.2 hx), hr.pm.trans (hp.map _), hr.so⟩
theorem tadd_ok {most : Int} {L : TL} {D D1 : List Hy} {p : Pf} {n : Int} {h0 : Hy} {i : Nat} (hr : trel L D) (h : taddO most D p h0 D1) (hi : isAt D1 ⟨h0.p, wU (h0.c + n), h0.o⟩ i) : trel (addS most L p n) (insH D1 ⟨h0.p, wU (h0.c + n), h0.o⟩ i) := by
  unfold addS
  cases h with
  | is j h0 hj hp =>
    subst hp
    have hb : mfind L h0.p = some h0 := hr.has hj
    rw [if_pos (by unfold mhas; rw [hb]; rfl), show mget hyM L h0.p = h0 by rw [mget_of, hb]; rfl]
    obtain ⟨q1, q2⟩ := hr.cut hj
    exact (q1.ins (h := ⟨h0.p, wU (h0.c + n), h0.o⟩) q2 hi).perm (mput_mdel hr.nd).symm
  | new hn hl =>
    have hno := hr.no hn
    rw [if_neg (by unfold mhas; rw [(mfind_none hno).1]; simp), if_pos (by have := hr.len; omega)]
    exact hr.ins (h := ⟨p, wU (0 + n), 0⟩) hn hi
  | gone hn hl j h1 hj hz =>
    have hno := hr.no hn
    rw [if_neg (by unfold mhas; rw [(mfind_none hno).1]; simp), if_neg (by have := hr.len; omega), ← hr.least hj hz]
    obtain ⟨q1, q2⟩ := hr.cut hj
    refine q1.ins (h := ⟨p, wU (h1.c + n), h1.c⟩) (fun x hx => ?_) hi
    have hs : (cutH D j).Sublist D := by
      have h2 : (cutH D j).Sublist (D.take j ++ h1 :: D.drop (j + 1)) := List.Sublist.append (.refl _) (List.sublist_cons_self ..)
      rwa [← cutH_split hj] at h2
    exact hn x (hs.subset hx)
end Go.Proofs.Ytncgponcedkihaa
