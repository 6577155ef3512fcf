/- Slices of one's own, of whatever one-cell elements: append, with the place of what comes of it. -/
import Derived.Test.YtopcecgkbmdmeaaLib
import Derived.Deep.AppendLies
import Derived.Deep.DeepAppendRoom
namespace Go.Proofs.Ytopcecgkbmdmeaa
open Go.RowKit
set_option linter.unusedSimpArgs false
set_option linter.unusedVariables false

/-- A slice value of the values us, in memory of its own from block B on. -/
def OwnV (w : World) (B : Nat) (e : TypeId) (v : Value) (us : List Value) : Prop := w.ownsRow B e 1 v us.length us

/-- Where values may be read from. -/
def SrcV (w : World) (v : Value) (us : List Value) : Prop :=
  ∃ ad c, v = .slice ad us.length c ∧ (ad = none → c = 0) ∧ ∀ j u, us[j]? = some u → ∃ q, ad = some q ∧ w.cell? (q.add j) = some u

/-- The block of what append hands back: that of what it was, or a new one. -/
def Blk (w : World) (v v' : Value) : Prop := v'.ownBlock = v.ownBlock ∨ ∀ g, v'.ownBlock = some g → w.heap.size ≤ g

theorem wpList_appx {P : Program} (w : World) {ops : Array Oper} {rest : List Oper} {o : Oper} {a : Act} {Q : Exit → Act → World → Prop} (hgd : o.guard = none) (s x : Operand) (t : TypeId)
    (ho : o.op = .call { callee := .builtin .append, args := #[s, x], argTypes := #[t, t] })
    (base : Nat) (e : TypeId) (i : TypeInfo) (z : Value) (bytes : Nat) (ht : P.underlying t = some (.slice e)) (hi : P.info? e = some i) (hz : i.zero = some z)
    (hsize : i.size = 1) (hby : i.bytes = bytes) (hzs : z.cells.size = 1)
    (v : Value) (xs : List Value) (hs : a.eval s = v) (hown : OwnV w base e v xs)
    (v2 : Value) (news : List Value) (hx : a.eval x = v2) (hsrc : SrcV w v2 news) (h1 : ∀ u ∈ news, u.oneCell' = true)
    (h63 : xs.length + news.length ≤ maxLen) (hbytes : (xs.length + news.length) * bytes ≤ 140737488355328) (hbase : base ≤ w.heap.size)
    (h : ∀ a' n' c' w', Hid (n' = (xs ++ news).length) → OwnV w' base e (.slice a' n' c') (xs ++ news) → w.grownBy w' v.ownBlock → Blk w v (.slice a' n' c') → wpList P ops Q rest (a.put o.dst (.slice a' n' c')) w') :
    wpList P ops Q (o :: rest) a w := by
  obtain ⟨ad, c, rfl, hnone, hnews⟩ := hsrc
  have hlen : (xs ++ news).length = xs.length + news.length := List.length_append
  have key : ∀ v' w', w'.ownsRow base e 1 v' (xs.length + news.length) (xs ++ news) → w.grownBy w' v.ownBlock → Blk w v v' → wpList P ops Q rest (a.put o.dst v') w' := by
    intro v' w' h2 h3 h4
    have h5 : ∃ a' c', v' = .slice a' (xs.length + news.length) c' := by
      rcases h2.2 with ⟨rfl, h0⟩ | ⟨g, cap, cur, rfl, _⟩
      · exact ⟨none, 0, by rw [h0]⟩
      · exact ⟨_, _, rfl⟩
    obtain ⟨a', c', rfl⟩ := h5
    exact h a' _ c' w' hlen.symm (by unfold OwnV; rw [hlen]; exact h2) h3 h4
  cases ad with
  | none =>
    have hn : news = [] := by
      cases news with
      | nil => rfl
      | cons u us =>
        obtain ⟨q', hq, _⟩ := hnews 0 u rfl
        cases hq
    subst hn
    have hc := hnone rfl
    subst hc
    refine wpList_append_own_none hgd s x t ho base e i 1 ht hi v xs.length xs hs hown hx ?_
    exact key v w (by simpa [OwnV] using hown) ⟨rfl, rfl, rfl, Nat.le_refl _, fun _ _ _ => rfl⟩ (.inl rfl)
  | some q =>
    have hnews' : ∀ j u, news[j]? = some u → w.cell? (q.add j) = some u := by
      intro j u hj
      obtain ⟨q', hq, hc⟩ := hnews j u hj
      cases hq
      exact hc
    by_cases hm : news.length = 0
    · have hn : news = [] := List.length_eq_zero_iff.1 hm
      subst hn
      rcases hown.2 with ⟨hv, h0⟩ | ⟨g, cap, cur, hv, hB, hg, hnc, r⟩
      · refine wpList_append_own w hgd s x t ho base e i z 1 bytes ht hi hz hsize hby hzs (by decide) v xs.length xs hs hown q 0 c [] hx rfl (by simp) (by simp) h63 hbytes hbase fun v' w' h2 h3 h4 => ?_
        refine key v' w' h2 h3 (.inl ?_)
        rw [h4.2 ⟨hv, rfl⟩, hv]
      · subst hv
        exact wpList_append_own_spare w hgd s x t ho base e i 1 ht hi hsize g xs.length cap xs hs hown q 0 c [] hx rfl (by simp) (by simp) hnc fun w' h2 h3 => key _ w' h2 h3 (.inl rfl)
    · refine wpList_append_lies w hgd s x t ho base e i z 1 bytes ht hi hz hsize hby hzs (by decide) v xs.length xs hs hown q news.length c news hx (by simp) hnews' h1 (by omega) h63 hbytes hbase w.heap.size rfl fun g cap w' h2 h3 h4 _ => ?_
      refine key _ w' h2 h3 ?_
      rcases h4 with h4 | h4
      · exact .inl h4.symm
      · exact .inr fun g' hg' => by cases hg'; exact Nat.le_of_eq h4.symm

theorem Sl.srcV {w : World} {v : Value} {l : List Nat} (h : Src w v l) : SrcV w v (bvs l) := by
  obtain ⟨ad, c, rfl, hr, hn⟩ := h
  exact ⟨ad, c, by rw [bvs_length], hn, hr.news⟩

theorem Own.ownV {w : World} {B : Nat} {v : Value} {l : List Nat} (h : Own w B v l) : OwnV w B 5 v (bvs l) := by
  unfold OwnV
  rw [bvs_length]
  exact h
theorem OwnV.own {w : World} {B : Nat} {v : Value} {l : List Nat} (h : OwnV w B 5 v (bvs l)) : Own w B v l := by
  unfold OwnV at h
  rw [bvs_length] at h
  exact h

/-- append of bytes, with the place. -/
theorem appBx (w : World) {ops : Array Oper} {rest : List Oper} {o : Oper} {a : Act} {Q : Exit → Act → World → Prop} (hgd : o.guard = none) (s x : Operand)
    (ho : o.op = .call { callee := .builtin .append, args := #[s, x], argTypes := #[23, 23] })
    (base : Nat) {v : Value} {l : List Nat} (hown : Own w base v l) (hs : a.eval s = v)
    {v2 : Value} {l2 : List Nat} (hr : Src w v2 l2) (hx : a.eval x = v2)
    (hb : l.length + l2.length ≤ 1099511627776) (hbase : base ≤ w.heap.size)
    (h : ∀ a' n' c' w', Hid (n' = (l ++ l2).length) → Own w' base (.slice a' n' c') (l ++ l2) → w.grownBy w' v.ownBlock → Blk w v (.slice a' n' c') → wpList Try.prog ops Q rest (a.put o.dst (.slice a' n' c')) w') :
    wpList Try.prog ops Q (o :: rest) a w := by
  obtain ⟨i0, hi, hz0, hz1, hz2⟩ := info_parts Try.info5
  refine wpList_appx w hgd s x 23 ho base 5 i0 (.int .u8 0) 1 Try.underlying23 hi hz0 hz1 hz2 rfl v (bvs l) hs hown.ownV v2 (bvs l2) hx (Sl.srcV hr) (bvs_one l2) (by rw [bvs_length, bvs_length]; unfold maxLen; omega) (by rw [bvs_length, bvs_length]; omega) hbase fun a' n' c' w' h1 h2 h3 h4 => ?_
  rw [← bvs_append] at h1 h2
  refine h a' n' c' w' ?_ h2.own h3 h4
  have := h1.out
  rw [bvs_length] at this
  exact this

/-- What one owns stays while another of one's blocks is written. -/
theorem OwnV.kept {w w' : World} {B : Nat} {e : TypeId} {v : Value} {us : List Value} {row : Option Nat} (h : OwnV w B e v us) (hg : w.grownBy w' row) (hne : v.ownBlock = none ∨ v.ownBlock ≠ row) : OwnV w' B e v us :=
  World.ownsRow.kept h hg hne
theorem Own.kept {w w' : World} {B : Nat} {v : Value} {l : List Nat} {row : Option Nat} (h : Own w B v l) (hg : w.grownBy w' row) (hne : v.ownBlock = none ∨ v.ownBlock ≠ row) : Own w' B v l :=
  World.ownsRow.kept h hg hne
theorem Own.lt {w : World} {B : Nat} {v : Value} {l : List Nat} (h : Own w B v l) : ∀ k, v.ownBlock = some k → B ≤ k ∧ k < w.heap.size := World.ownsRow.lt h
theorem OwnV.lt {w : World} {B : Nat} {e : TypeId} {v : Value} {us : List Value} (h : OwnV w B e v us) : ∀ k, v.ownBlock = some k → B ≤ k ∧ k < w.heap.size := World.ownsRow.lt h

theorem OwnV.mono {w w' : World} {B : Nat} {e : TypeId} {v : Value} {us : List Value} (h : OwnV w B e v us) (hx : Ext w w') : OwnV w' B e v us := by
  refine ⟨h.1, ?_⟩
  rcases h.2 with hn | ⟨g, cap, cur, hv, hb, hg, r⟩
  · exact .inl hn
  · refine .inr ⟨g, cap, cur, hv, hb, ?_, r⟩
    rw [hx.block g (by
      rcases Nat.lt_or_ge g w.heap.size with h | h
      · exact h
      · rw [Array.getElem?_eq_none h] at hg; cases hg)]
    exact hg

/-- Two rows of unlike elements are apart. -/
theorem rows_apart {w : World} {B B' : Nat} {e e' : TypeId} {v v' : Value} {n n' : Nat} {us us' : List Value} (h : w.ownsRow B e 1 v n us) (h' : w.ownsRow B' e' 1 v' n' us') (he : e ≠ e') : v.ownBlock = none ∨ v.ownBlock ≠ v'.ownBlock := by
  rcases h.2 with ⟨rfl, _⟩ | ⟨g, cap, cur, rfl, _, hg, _⟩
  · exact .inl rfl
  · right
    rcases h'.2 with ⟨rfl, _⟩ | ⟨g', cap', cur', rfl, _, hg', _⟩
    · simp [Value.ownBlock]
    · intro hgg
      simp only [Value.ownBlock, Option.some.injEq] at hgg
      subst hgg
      rw [hg] at hg'
      cases hg'
      exact he rfl

/-- Bytes read stay while a row that they do not lie in is written. -/
theorem Sl.kept {w w' : World} {v : Value} {l : List Nat} {row : Option Nat} (h : Sl w v l) (hg : w.grownBy w' row) (hne : v.ownBlock = none ∨ v.ownBlock ≠ row) : Sl w' v l := by
  rcases h with h | ⟨b, o, cap, rfl, h1, h2, h3⟩
  · exact .inl h
  · refine .inr ⟨b, o, cap, rfl, h1, h2, fun i hi => ?_⟩
    have hc := h3 i hi
    refine hg.cell hc ?_
    rcases hne with hne | hne
    · simp [Value.ownBlock] at hne
    · simpa [Value.ownBlock] using hne

theorem OwnV.cellAt {w : World} {B : Nat} {e : TypeId} {v : Value} {us : List Value} (h : OwnV w B e v us) :
    (v = .slice none 0 0 ∧ us = []) ∨ ∃ g cap, v = .slice (some ⟨g, 0, none⟩) us.length cap ∧ B ≤ g ∧ us.length ≤ cap ∧ cap ≤ maxLen ∧ (∀ j u, us[j]? = some u → w.cell? ⟨g, j, none⟩ = some u) ∧ ∀ j, w.frozen? ⟨g, j, none⟩ = false := by
  rcases h.2 with ⟨rfl, h0⟩ | ⟨g, cap, cur, rfl, hB, hg, hnc, hcm, hcs, ht⟩
  · exact .inl ⟨rfl, List.length_eq_zero_iff.1 h0⟩
  · refine .inr ⟨g, cap, rfl, hB, hnc, hcm, fun j u hj => ?_, fun j => by simp [World.frozen?, hg]⟩
    have hlt : j < us.length := (List.getElem?_eq_some_iff.1 hj).1
    rw [← ht, List.getElem?_take, if_pos (by omega)] at hj
    simp only [World.cell?, hg]
    simpa using hj

theorem OwnV.sls {w : World} {B : Nat} {e : TypeId} {v : Value} {us : List Value} {ls : List (List Nat)} (h : OwnV w B e v us) (hl : us.length = ls.length) (hs : ∀ j, j < ls.length → Sl w (us.getD j undef) (ls.getD j [])) : Sls w v ls := by
  rcases h.cellAt with ⟨rfl, rfl⟩ | ⟨g, cap, rfl, hB, h1, h2, h3, _⟩
  · exact .inl ⟨rfl, List.length_eq_zero_iff.1 hl.symm⟩
  · refine .inr ⟨g, 0, cap, by rw [hl], by omega, h2, fun i hi => ⟨us.getD i undef, ?_, hs i hi⟩⟩
    rw [Nat.zero_add]
    exact h3 i _ (by simp [show i < us.length by omega])

/-- A new literal of bytes, its block by its number. -/
theorem own_at (w : World) (B : Nat) {g n : Nat} (l : List Nat) (cs : Array Value) (hg : g = w.heap.size) (hn : n = l.length) (hc : cs.toList = bvs l) (hB : B ≤ w.heap.size) (hl : l.length ≤ maxLen) :
    Own (w.alloc (.cells cs 5)) B (.slice (some ⟨g, 0, none⟩) n n) l := by
  subst hg hn
  exact own_lit w B l cs hc hB hl

end Go.Proofs.Ytopcecgkbmdmeaa
