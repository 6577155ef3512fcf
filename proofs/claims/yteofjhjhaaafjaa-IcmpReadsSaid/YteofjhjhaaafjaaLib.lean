/- Words for bytes in memory, and the laws of append, of a slice and of a text made of bytes, in these words. -/
import Derived.Test.YteofjhjhaaafjaaRows
import Derived.Test.YteofjhjhaaafjaaRel
import Derived.WalkKit
import Derived.WalkSpells
import Derived.WalkLawsBesides
import Derived.Laws.AppendOwnNone
namespace Go.Proofs.Yteofjhjhaaafjaa
open Go.RowKit
set_option linter.unusedSimpArgs false
set_option linter.unusedVariables false

theorem hid {p : Prop} (h : p) : Hid p := h

/-- Nothing that was there has turned. -/
def Ext (w w' : World) : Prop := Below w.heap.size w w'

theorem Ext.refl (w : World) : Ext w w := Below.refl _ _
theorem Ext.trans {a b c : World} (h : Ext a b) (k : Ext b c) : Ext a c := Below.trans h (Below.mono k h.size)
theorem Ext.keep {w w' : World} (hx : Ext w w') {p : Addr} {v : Value} (h : w.cell? p = some v) : w'.cell? p = some v :=
  (Below.cell hx (World.block_lt_of_cell? w p h)).trans h
theorem Ext.drew {a w : World} (h : Ext a w) : Ext a w.drew := Below.drew h
theorem Ext.alloc {a w : World} (h : Ext a w) (o : Obj) : Ext a (w.alloc o) := Below.alloc h h.size o
theorem Ext.below {a w : World} {B : Nat} (h : Ext a w) (hB : B ≤ a.heap.size) : Below B a w := Below.mono h hB
theorem Ext.setCell {a w : World} (h : Ext a w) {p : Addr} (hp : a.heap.size ≤ p.block) (u : Value) : Ext a (w.setCell p u) := Below.setCell h hp u
theorem Ext.drewN {a w : World} (h : Ext a w) (n : Nat) : Ext a (w.drewN n) := ⟨h.os, h.tape, h.output, h.size, h.block⟩

/-- The bytes as values. -/
def bvs (l : List Nat) : List Value := l.map fun (n : Nat) => Value.int .u8 (n : Int)

theorem bvs_length (l : List Nat) : (bvs l).length = l.length := by simp [bvs]
theorem bvs_append (l k : List Nat) : bvs (l ++ k) = bvs l ++ bvs k := by simp [bvs]
theorem bvs_one (l : List Nat) : ∀ u ∈ bvs l, u.oneCell' = true := by
  intro u hu
  simp only [bvs, List.mem_map] at hu
  obtain ⟨n, _, rfl⟩ := hu
  rfl
theorem bvs_get {l : List Nat} {i : Nat} (h : i < l.length) : (bvs l)[i]? = some (.int .u8 (l.getD i 0 : Nat)) := by
  simp [bvs, h]

/-- A place in w from which the bytes l are read. -/
def Rd (w : World) (a : Option Addr) (l : List Nat) : Prop :=
  l = [] ∨ ∃ b o, a = some ⟨b, o, none⟩ ∧ ∀ i, i < l.length → w.cell? ⟨b, o + i, none⟩ = some (.int .u8 (l.getD i 0 : Nat))

theorem Rd.nil (w : World) (a : Option Addr) : Rd w a [] := .inl rfl

theorem Rd.mono {w w' : World} {a : Option Addr} {l : List Nat} (h : Rd w a l) (hx : Ext w w') : Rd w' a l := by
  rcases h with h | ⟨b, o, rfl, h⟩
  · exact .inl h
  · refine .inr ⟨b, o, rfl, fun i hi => ?_⟩
    have hc := h i hi
    rw [← hc]
    exact Below.cell hx (World.block_lt_of_cell? w _ hc)

/-- A slice value from which the bytes l are read. -/
def Sl (w : World) (v : Value) (l : List Nat) : Prop :=
  (v = .slice none 0 0 ∧ l = []) ∨
  ∃ b o cap, v = .slice (some ⟨b, o, none⟩) l.length cap ∧ l.length ≤ cap ∧ cap ≤ maxLen ∧ ∀ i, i < l.length → w.cell? ⟨b, o + i, none⟩ = some (.int .u8 (l.getD i 0 : Nat))

theorem Sl.rd {w : World} {v : Value} {l : List Nat} (h : Sl w v l) : ∃ a cap, v = .slice a l.length cap ∧ l.length ≤ cap ∧ cap ≤ maxLen ∧ Rd w a l ∧ (a = none → cap = 0) := by
  rcases h with ⟨rfl, rfl⟩ | ⟨b, o, cap, rfl, h1, h2, h3⟩
  · exact ⟨none, 0, rfl, by simp, by unfold maxLen; omega, .inl rfl, fun _ => rfl⟩
  · exact ⟨_, cap, rfl, h1, h2, .inr ⟨b, o, rfl, h3⟩, by simp⟩

theorem Sl.look {w : World} {a : Option Addr} {n c : Nat} {l : List Nat} (h : Sl w (.slice a n c) l) : n = l.length ∧ l.length ≤ c ∧ c ≤ maxLen ∧ Rd w a l := by
  obtain ⟨a', c', hv, h1, h2, h3, _⟩ := h.rd
  cases hv
  exact ⟨rfl, h1, h2, h3⟩

theorem Sl.mono {w w' : World} {v : Value} {l : List Nat} (h : Sl w v l) (hx : Ext w w') : Sl w' v l := by
  rcases h with h | ⟨b, o, cap, rfl, h1, h2, h3⟩
  · exact .inl h
  · refine .inr ⟨b, o, cap, rfl, h1, h2, fun i hi => ?_⟩
    have hc := h3 i hi
    rw [← hc]
    exact Below.cell hx (World.block_lt_of_cell? w _ hc)

/-- A slice value as it may come in: also one of no cells at all, wherever. -/
def SlW (w : World) (v : Value) (l : List Nat) : Prop := Sl w v l ∨ ∃ ad, v = .slice (some ad) 0 0 ∧ l = []

theorem SlW.mono {w w' : World} {v : Value} {l : List Nat} (h : SlW w v l) (hx : Ext w w') : SlW w' v l := h.elim (fun h => .inl (h.mono hx)) .inr

theorem Sl.nil (w : World) : Sl w (.slice none 0 0) [] := .inl ⟨rfl, rfl⟩

/-- A slice value of the bytes l, in memory of its own from block B on. -/
def Own (w : World) (B : Nat) (v : Value) (l : List Nat) : Prop := w.ownsRow B 5 1 v l.length (bvs l)

theorem Own.rd {w : World} {B : Nat} {v : Value} {l : List Nat} (h : Own w B v l) : ∃ a cap, v = .slice a l.length cap ∧ l.length ≤ cap ∧ cap ≤ maxLen ∧ Rd w a l ∧ (a = none → cap = 0) := by
  obtain ⟨h1, h2⟩ := h
  rcases h2 with ⟨rfl, hn⟩ | ⟨g, cap, cur, rfl, hb, hg, hnc, hcm, hcs, ht⟩
  · exact ⟨none, 0, by rw [hn], by omega, by unfold maxLen; omega, .inl (List.length_eq_zero_iff.1 hn), fun _ => rfl⟩
  · refine ⟨some ⟨g, 0, none⟩, cap, rfl, hnc, hcm, .inr ⟨g, 0, rfl, fun i hi => ?_⟩, by simp⟩
    have hi' : i < cur.size := by rw [hcs]; omega
    have h3 : (bvs l)[i]? = cur.toList[i]? := by
      rw [← ht, List.getElem?_take]
      rw [if_pos (by omega)]
    rw [bvs_get hi] at h3
    simp only [World.cell?, hg, Nat.zero_add]
    simpa using h3.symm

theorem Own.sl {w : World} {B : Nat} {v : Value} {l : List Nat} (h : Own w B v l) : Sl w v l := by
  obtain ⟨a, cap, rfl, h1, h2, h3, h4⟩ := h.rd
  cases a with
  | none =>
    have hc := h4 rfl
    subst hc
    have : l = [] := List.length_eq_zero_iff.1 (by omega)
    subst this
    exact .inl ⟨rfl, rfl⟩
  | some ad =>
    rcases h.2 with ⟨h5, _⟩ | ⟨g, cap', cur, h5, _⟩
    · cases h5
    · cases h5
      refine .inr ⟨g, 0, cap, rfl, h1, h2, fun i hi => ?_⟩
      rcases h3 with rfl | ⟨b, o, h6, h7⟩
      · simp at hi
      · cases h6
        exact h7 i hi

theorem Own.mono {w w' : World} {B : Nat} {v : Value} {l : List Nat} (h : Own w B v l) (hx : Ext w w') : Own w' B v l := by
  refine ⟨h.1, ?_⟩
  rcases h.2 with hn | ⟨g, cap, cur, hv, hb, hg, r⟩
  · exact .inl hn
  · refine .inr ⟨g, cap, cur, hv, hb, ?_, r⟩
    rw [hx.block g (by
      rcases Nat.lt_or_ge g w.heap.size with h | h
      · exact h
      · rw [Array.getElem?_eq_none h] at hg; cases hg)]
    exact hg

theorem Own.base {w : World} {B B' : Nat} {v : Value} {l : List Nat} (h : Own w B v l) (hB : B' ≤ B) : Own w B' v l := by
  refine ⟨h.1, ?_⟩
  rcases h.2 with hn | ⟨g, cap, cur, hv, hb, r⟩
  · exact .inl hn
  · exact .inr ⟨g, cap, cur, hv, Nat.le_trans hB hb, r⟩

theorem Own.nil (w : World) (B : Nat) : Own w B (.slice none 0 0) [] := World.ownsRow_nil w B _ _

theorem grown_ext {w w' : World} {row : Option Nat} (hg : w.grownBy w' row) {W : World} (h : Ext W w) (hr : ∀ k, row = some k → W.heap.size ≤ k) : Ext W w' := Below.grown h hg h.size hr

theorem Own.ext {wo W w w' : World} {v : Value} {l : List Nat} {B : Nat} (hown : Own wo B v l) (h : Ext W w) (hB : W.heap.size ≤ B) (hg : w.grownBy w' v.ownBlock) : Ext W w' :=
  grown_ext hg h fun k hk => by have := (World.ownsRow.lt hown k hk).1; omega

/-- The law of append onto bytes of one's own. -/
theorem wpList_app {P : Program} (w : World) {ops : Array Oper} {rest : List Oper} {o : Oper} {a : Act} {Q : Exit → Act → World → Prop} (hgd : o.guard = none) (s x : Operand) (t : TypeId)
    (ho : o.op = .call { callee := .builtin .append, args := #[s, x], argTypes := #[t, t] })
    (base : Nat) (e : TypeId) (i : TypeInfo) (z : Value) (bytes : Nat) (ht : P.underlying t = some (.slice e)) (hi : P.info? e = some i) (hz : i.zero = some z)
    (hsize : i.size = 1) (hby : i.bytes = bytes) (hzs : z.cells.size = 1)
    (v : Value) (n : Nat) (xs : List Value) (hs : a.eval s = v) (hown : w.ownsRow base e 1 v n xs)
    (ad : Option Addr) (m c : Nat) (news : List Value) (hx : a.eval x = .slice ad m c) (hl : news.length = m) (hnone : ad = none → c = 0)
    (hnews : ∀ j u, news[j]? = some u → ∃ q, ad = some q ∧ w.cell? (q.add j) = some u) (h1 : ∀ u ∈ news, u.oneCell' = true)
    (h63 : n + m ≤ maxLen) (hbytes : (n + m) * bytes ≤ 140737488355328) (hbase : base ≤ w.heap.size)
    (h : ∀ v' w', w'.ownsRow base e 1 v' (n + m) (xs ++ news) → w.grownBy w' v.ownBlock → wpList P ops Q rest (a.put o.dst v') w') : wpList P ops Q (o :: rest) a w := by
  cases ad with
  | some q =>
    refine wpList_append_own w hgd s x t ho base e i z 1 bytes ht hi hz hsize hby hzs (by decide) v n xs hs hown q m c news hx (by simpa using hl) ?_ h1 h63 hbytes hbase fun v' w' h2 h3 _ => h v' w' h2 h3
    intro j u hj
    obtain ⟨q', hq, hc⟩ := hnews j u hj
    cases hq
    exact hc
  | none =>
    have hn : news = [] := by
      cases news with
      | nil => rfl
      | cons u us =>
        obtain ⟨q', hq, _⟩ := hnews 0 u rfl
        cases hq
    subst hn
    have hm : m = 0 := by simpa using hl.symm
    subst hm
    have hc := hnone rfl
    subst hc
    refine wpList_append_own_none hgd s x t ho base e i 1 ht hi v n xs hs hown hx ?_
    refine h v w (by simpa using hown) ⟨rfl, rfl, rfl, Nat.le_refl _, fun _ _ _ => rfl⟩

theorem Try.info5 : (Try.prog.info? 5).map (fun i => (i.zero, i.size, i.bytes)) = some (some (.int .u8 0), 1, 1) := by kernel_rfl

theorem Rd.news {w : World} {a : Option Addr} {l : List Nat} (h : Rd w a l) : ∀ j u, (bvs l)[j]? = some u → ∃ q, a = some q ∧ w.cell? (q.add j) = some u := by
  intro j u hj
  have hlt : j < l.length := by
    have := (List.getElem?_eq_some_iff.1 hj).1
    simpa [bvs] using this
  rcases h with rfl | ⟨b, o, rfl, h⟩
  · simp at hlt
  · refine ⟨_, rfl, ?_⟩
    rw [bvs_get hlt] at hj
    have := h j hlt
    have e : (⟨b, o, none⟩ : Addr).add j = ⟨b, o + j, none⟩ := by
      unfold Addr.add
      split
      · rename_i h0; subst h0; rfl
      · rfl
    rw [e, this, hj]

/-- Where bytes may be read from. -/
def Src (w : World) (v : Value) (l : List Nat) : Prop := ∃ ad c, v = .slice ad l.length c ∧ Rd w ad l ∧ (ad = none → c = 0)
theorem Sl.src {w : World} {v : Value} {l : List Nat} (h : Sl w v l) : Src w v l := by
  obtain ⟨a, cap, hv, _, _, hr, hn⟩ := h.rd
  exact ⟨a, cap, hv, hr, hn⟩

/-- append of bytes onto bytes of one's own: the short form, from any place. -/
theorem appW (w : World) {ops : Array Oper} {rest : List Oper} {o : Oper} {a : Act} {Q : Exit → Act → World → Prop} (hgd : o.guard = none) (s x : Operand)
    (ho : o.op = .call { callee := .builtin .append, args := #[s, x], argTypes := #[30, 30] })
    (base : Nat) {v : Value} {l : List Nat} (hown : Own w base v l) (hs : a.eval s = v)
    {v2 : Value} {l2 : List Nat} (hr : Src w v2 l2) (hx : a.eval x = v2)
    (hb : l.length + l2.length ≤ 1099511627776) (hbase : base ≤ w.heap.size)
    (h : ∀ a' n' c' w', Hid (n' = (l ++ l2).length) → Own w' base (.slice a' n' c') (l ++ l2) → w.grownBy w' v.ownBlock → wpList Try.prog ops Q rest (a.put o.dst (.slice a' n' c')) w') : wpList Try.prog ops Q (o :: rest) a w := by
  obtain ⟨i0, hi, hz0, hz1, hz2⟩ := info_parts Try.info5
  obtain ⟨ad, c, hv2, hrd, hnone⟩ := hr
  rw [hv2] at hx
  refine wpList_app w hgd s x 30 ho base 5 i0 (.int .u8 0) 1 Try.underlying30 hi hz0 hz1 hz2 rfl v l.length (bvs l) hs hown ad l2.length c (bvs l2) hx (bvs_length l2) hnone hrd.news (bvs_one l2) (by unfold maxLen; omega) (by omega) hbase fun v' w' h2 h3 => ?_
  have h4 : Own w' base v' (l ++ l2) := by
    unfold Own
    rw [List.length_append, bvs_append]
    exact h2
  obtain ⟨a', c', rfl, _⟩ := h4.rd
  exact h a' _ c' w' rfl h4 h3

/-- append of bytes onto bytes of one's own: the short form. -/
theorem appB (w : World) {ops : Array Oper} {rest : List Oper} {o : Oper} {a : Act} {Q : Exit → Act → World → Prop} (hgd : o.guard = none) (s x : Operand)
    (ho : o.op = .call { callee := .builtin .append, args := #[s, x], argTypes := #[30, 30] })
    (base : Nat) {v : Value} {l : List Nat} (hown : Own w base v l) (hs : a.eval s = v)
    {v2 : Value} {l2 : List Nat} (hr : Sl w v2 l2) (hx : a.eval x = v2)
    (hb : l.length + l2.length ≤ 1099511627776) (hbase : base ≤ w.heap.size)
    (h : ∀ a' n' c' w', Hid (n' = (l ++ l2).length) → Own w' base (.slice a' n' c') (l ++ l2) → w.grownBy w' v.ownBlock → wpList Try.prog ops Q rest (a.put o.dst (.slice a' n' c')) w') : wpList Try.prog ops Q (o :: rest) a w :=
  appW w hgd s x ho base hown hs hr.src hx hb hbase h

/-- A new literal of bytes is bytes of one's own. -/
theorem own_lit (w : World) (B : Nat) (l : List Nat) (cs : Array Value) (hc : cs.toList = bvs l) (hB : B ≤ w.heap.size) (hl : l.length ≤ maxLen) :
    Own (w.alloc (.cells cs 5)) B (.slice (some ⟨w.heap.size, 0, none⟩) l.length l.length) l := by
  have h := World.ownsRow_lit (base := B) (e := 5) (size := 1) w cs l.length hB hl (by rw [← Array.length_toList, hc]; simp [bvs])
  unfold Own
  rw [hc] at h
  exact h

theorem sl_one (w : World) (c : Nat) {x : Int} (hx : x = (c : Int)) : Sl (w.alloc (.cells #[.int .u8 x] 5)) (.slice (some ⟨w.heap.size, 0, none⟩) 1 1) [c] := by
  subst hx
  exact (own_lit w 0 [c] _ (by simp [bvs]) (Nat.zero_le _) (by simp [maxLen])).sl

@[go_sem] theorem eqlNilB (w : World) (a : Option Addr) (n c : Nat) : (binOp .eql 30 (.slice a n c) (.slice none 0 0)).run Try.prog w = .ok (.bool a.isNone) w :=
  Lib.run_eql_slice_nil (P := Try.prog) w 30 5 a n c 0 0 Try.underlying30
@[go_sem] theorem neqNilB (w : World) (a : Option Addr) (n c : Nat) : (binOp .neq 30 (.slice a n c) (.slice none 0 0)).run Try.prog w = .ok (.bool (!a.isNone)) w :=
  run_neq_slice_nil_any (P := Try.prog) w 30 5 a n c 0 0 Try.underlying30

/-- The text of bytes. -/
def str (l : List Nat) : ByteArray := strOfNums (l.map fun (n : Nat) => (n : Int))

theorem conv_sl {w : World} {v : Value} {l : List Nat} (h : Sl w v l) : (convert 30 9 v).run Try.prog w = .ok (.string (str l)) w := by
  rcases h with ⟨rfl, rfl⟩ | ⟨b, o, cap, rfl, h1, h2, h3⟩
  · rw [run_convert_bytes_nil (w := w) (P := Try.prog) 30 5 Try.underlying30 Try.underlying5 0 0 9 Try.underlying9]
    rfl
  · refine run_convert_bytes_arg (P := Try.prog) w 30 5 Try.underlying30 Try.underlying5 b o l.length cap (l.map fun (n : Nat) => (n : Int)) (by simp) (fun i hi => ?_) 9 Try.underlying9
    rw [h3 i hi]
    simp [hi]

/-- append onto a literal of no bytes: nothing that was there turns. -/
theorem run_app0 (w : World) (g : Nat) (hg : w.heap[g]? = some (.cells #[] 5 (0, 0))) {B : Nat} (hB : B ≤ g) {v2 : Value} {l2 : List Nat} (hr : Sl w v2 l2) (hb : l2.length ≤ 1099511627776) (ty : TypeId) :
    ∃ v' w', (Builtin.append_ #[30, 30] ty #[.slice (some ⟨g, 0, none⟩) 0 0, v2]).run Try.prog w = .ok v' w' ∧ Own w' B v' l2 ∧ Ext w w' := by
  obtain ⟨i0, hi, hz0, hz1, hz2⟩ := info_parts Try.info5
  have hown : Own w B (.slice (some ⟨g, 0, none⟩) 0 0) [] := ⟨rfl, .inr ⟨g, 0, #[], rfl, hB, hg, Nat.le_refl _, by unfold maxLen; omega, rfl, rfl⟩⟩
  by_cases hl : l2 = []
  · subst hl
    refine ⟨.slice (some ⟨g, 0, none⟩) 0 0, w, ?_, hown, Ext.refl w⟩
    rcases hr with ⟨rfl, _⟩ | ⟨b, o, cap, rfl, _⟩
    · simp [Builtin.append_, run_underlying Try.underlying30, run_underlying Try.underlying5, sizeOf, typeInfo, hi, Builtin.lenOf, Builtin.firstCells, storeCells]
    · simp [Builtin.append_, run_underlying Try.underlying30, run_underlying Try.underlying5, sizeOf, typeInfo, hi, Builtin.lenOf, Builtin.firstCells, storeCells, loadCells, loadCellsFrom]
  · obtain ⟨ad, c, hv2, _, _, hrd, hnone⟩ := hr.rd
    have hpos : 0 < l2.length := List.length_pos_iff.2 hl
    obtain ⟨b, o, rfl, hcell⟩ := hrd.resolve_left hl
    subst hv2
    have hnews : ∀ j u, (bvs l2)[j]? = some u → w.cell? ((⟨b, o, none⟩ : Addr).add j) = some u := by
      intro j u hj
      obtain ⟨q, hq, hc⟩ := Rd.news (.inr ⟨b, o, rfl, hcell⟩) j u hj
      cases hq
      exact hc
    have h1 := run_append_grow (P := Try.prog) w 30 ty 5 i0 (.int .u8 0) Try.underlying30 hi hz0 ⟨g, 0, none⟩ 0 0 [] (by simp) (by simp) ⟨b, o, none⟩ l2.length c (bvs l2) (by rw [hz1]; simp [bvs]) hnews (by omega) (by omega) (growslice_fits (by omega) (by rw [hz2]; omega))
    obtain ⟨v', w', h2, h3, _, _⟩ := run_append_own (P := Try.prog) w B 30 ty 5 i0 (.int .u8 0) 1 1 Try.underlying30 hi hz0 hz1 hz2 rfl (by decide) (.slice (some ⟨g, 0, none⟩) 0 0) 0 [] hown ⟨b, o, none⟩ l2.length c (bvs l2) (by simp [bvs]) hnews (bvs_one l2) (by unfold maxLen; omega) (by omega) (by
      have : g < w.heap.size := by
        rcases Nat.lt_or_ge g w.heap.size with h | h
        · exact h
        · rw [Array.getElem?_eq_none h] at hg; cases hg
      omega)
    refine ⟨v', w', h2, ?_, ?_⟩
    · unfold Own
      simpa using h3
    · rw [h1] at h2
      injection h2 with _ h2
      rw [← h2]
      exact ((Ext.refl w).drew).alloc _

/-- The facts of a region: a slice that reads l; a new literal of no bytes. -/
def IsSl (l : List Nat) : Value → World → Prop := fun v w => Sl w v l
def IsNew : Value → World → Prop := fun v w => ∃ g, v = .slice (some ⟨g, 0, none⟩) 0 0 ∧ w.heap[g]? = some (.cells #[] 5 (0, 0))

theorem keep_sl (l : List Nat) : ∀ v w w', Ext w w' → IsSl l v w → IsSl l v w' := fun _ _ _ hx h => Sl.mono h hx
theorem keep_new : ∀ v w w', Ext w w' → IsNew v w → IsNew v w' := by
  rintro v w w' hx ⟨g, rfl, hg⟩
  refine ⟨g, rfl, ?_⟩
  rw [hx.block g (by
    rcases Nat.lt_or_ge g w.heap.size with h | h
    · exact h
    · rw [Array.getElem?_eq_none h] at hg; cases hg)]
  exact hg

theorem does_new {ops : Array Oper} {o : Oper} {ρ : Act} {w : World} {d : Tmp} (hg : o.guard = none) (hd : o.dst = some d) (ho : o.op = .buildSlice 30 0 #[]) :
    Does Try.prog ops o ρ w fun v w' => Ext w w' ∧ IsNew (hit o.dst v) w' := by
  refine Does.of_run hg (w' := w.alloc (.cells #[] 5)) (v := .slice (some ⟨w.heap.size, 0, none⟩) 0 0) ?_ ⟨(Ext.refl _).alloc _, ?_⟩
  · unfold execOp
    simp only [ho]
    simp [go_sem]
  · rw [hd]
    exact ⟨w.heap.size, rfl, heap_alloc_new w _⟩

theorem does_app0 {ops : Array Oper} {o : Oper} {ρ : Act} {w : World} {d : Tmp} (hg : o.guard = none) (hd : o.dst = some d) (s x : Operand)
    (ho : o.op = .call { callee := .builtin .append, args := #[s, x], argTypes := #[30, 30] }) (h1 : IsNew (ρ.eval s) w) {l : List Nat} (h2 : Sl w (ρ.eval x) l) (hl : l.length ≤ 1099511627776) :
    Does Try.prog ops o ρ w fun v w' => Ext w w' ∧ IsSl l (hit o.dst v) w' := by
  obtain ⟨g, hv, hgh⟩ := h1
  obtain ⟨v', w', hr, hown, hx⟩ := run_app0 w g hgh (Nat.zero_le _) h2 hl o.type
  refine Does.of_run hg (w' := w') (v := v') ?_ ⟨hx, ?_⟩
  · unfold execOp
    simp only [ho, resolve, invoke, builtin, Sem.run_bind, Sem.run_pure, Result.andThen_ok, List.map_toArray, List.map_cons, List.map_nil, hv, hr]
  · rw [hd]
    exact hown.sl

theorem does_conv {ops : Array Oper} {o : Oper} {ρ : Act} {w : World} {d : Tmp} (hg : o.guard = none) (hd : o.dst = some d) (x : Operand)
    (ho : o.op = .convert 30 9 x) {l : List Nat} (h : Sl w (ρ.eval x) l) :
    Does Try.prog ops o ρ w fun v w' => Ext w w' ∧ Is (.string (str l)) (hit o.dst v) w' := by
  refine Does.of_run hg (w' := w) (v := .string (str l)) ?_ ⟨Ext.refl _, ?_⟩
  · have := conv_sl h
    unfold execOp
    simp only [ho]
    generalize ρ.eval x = y at this
    simp [this]
  · rw [hd]
    rfl

/-- A slice value of slices of bytes. -/
def Sls (w : World) (v : Value) (ls : List (List Nat)) : Prop :=
  (v = .slice none 0 0 ∧ ls = []) ∨
  ∃ b o cap, v = .slice (some ⟨b, o, none⟩) ls.length cap ∧ ls.length ≤ cap ∧ cap ≤ maxLen ∧ ∀ i, i < ls.length → ∃ u, w.cell? ⟨b, o + i, none⟩ = some u ∧ Sl w u (ls.getD i [])

theorem Sls.mono {w w' : World} {v : Value} {ls : List (List Nat)} (h : Sls w v ls) (hx : Ext w w') : Sls w' v ls := by
  rcases h with h | ⟨b, o, cap, rfl, h1, h2, h3⟩
  · exact .inl h
  · refine .inr ⟨b, o, cap, rfl, h1, h2, fun i hi => ?_⟩
    obtain ⟨u, hc, hu⟩ := h3 i hi
    refine ⟨u, ?_, hu.mono hx⟩
    rw [← hc]
    exact Below.cell hx (World.block_lt_of_cell? w _ hc)

theorem sls_new (w : World) (cs : Array Value) (e : TypeId) (ls : List (List Nat)) (n : Nat) (hn : ls.length = n) (hm : n ≤ maxLen) (h : ∀ i, i < n → ∃ u, cs[i]? = some u ∧ Sl w u (ls.getD i [])) :
    Sls (w.alloc (.cells cs e)) (.slice (some ⟨w.heap.size, 0, none⟩) n n) ls := by
  subst hn
  refine .inr ⟨w.heap.size, 0, ls.length, rfl, Nat.le_refl _, hm, fun i hi => ?_⟩
  obtain ⟨u, hu, hs⟩ := h i hi
  refine ⟨u, ?_, hs.mono ((Ext.refl w).alloc _)⟩
  have := heap_alloc_new w (.cells cs e)
  simp only [World.cell?, this, Nat.zero_add]
  simpa using hu

theorem sls_one (w : World) (e : TypeId) {g : Nat} (hg : g = w.heap.size) {u : Value} {l : List Nat} (h : Sl w u l) : Sls (w.alloc (.cells #[u] e)) (.slice (some ⟨g, 0, none⟩) 1 1) [l] :=
  hg ▸ sls_new w _ e [l] 1 rfl (by unfold maxLen; omega) fun i hi => by
    obtain rfl : i = 0 := by omega
    exact ⟨u, rfl, h⟩

theorem sls_two (w : World) (e : TypeId) {g : Nat} (hg : g = w.heap.size) {u v : Value} {l k : List Nat} (h : Sl w u l) (h2 : Sl w v k) : Sls (w.alloc (.cells #[u, v] e)) (.slice (some ⟨g, 0, none⟩) 2 2) [l, k] :=
  hg ▸ sls_new w _ e [l, k] 2 rfl (by unfold maxLen; omega) fun i hi => by
    rcases (show i = 0 ∨ i = 1 by omega) with rfl | rfl
    · exact ⟨u, rfl, h⟩
    · exact ⟨v, rfl, h2⟩

def IsSls (ls : List (List Nat)) : Value → World → Prop := fun v w => Sls w v ls
theorem keep_sls (ls : List (List Nat)) : ∀ v w w', Ext w w' → IsSls ls v w → IsSls ls v w' := fun _ _ _ hx h => Sls.mono h hx

theorem does_sls1 {ops : Array Oper} {o : Oper} {ρ : Act} {w : World} {d : Tmp} (hg : o.guard = none) (hd : o.dst = some d) (x : Operand)
    (ho : o.op = .buildSlice 121 1 #[(0, x)]) {a : Option Addr} {n c : Nat} {l : List Nat} (hx : ρ.eval x = .slice a n c) (h : Sl w (.slice a n c) l) :
    Does Try.prog ops o ρ w fun v w' => Ext w w' ∧ IsSls [l] (hit o.dst v) w' := by
  refine Does.of_run hg (w' := w.alloc (.cells #[.slice a n c] 30)) (v := .slice (some ⟨w.heap.size, 0, none⟩) 1 1) ?_ ⟨(Ext.refl _).alloc _, ?_⟩
  · unfold execOp
    simp only [ho, List.map_toArray, List.map_cons, List.map_nil, hx]
    simp [go_sem]
  · rw [hd]
    exact sls_one w _ rfl h

/-- Bytes of one's own: where they are; and one of them stored. -/
theorem Own.place {w : World} {B : Nat} {a : Option Addr} {n c : Nat} {l : List Nat} (h : Own w B (.slice a n c) l) (hl : 0 < l.length) :
    ∃ g, a = some ⟨g, 0, none⟩ ∧ B ≤ g ∧ g < w.heap.size ∧ n = l.length ∧ n ≤ c ∧ (∀ i, i < l.length → w.cell? ⟨g, i, none⟩ = some (.int .u8 (l.getD i 0 : Nat))) ∧ ∀ i, w.frozen? ⟨g, i, none⟩ = false := by
  obtain ⟨a', c', hv, h1, h2, h3, _⟩ := h.rd
  cases hv
  obtain ⟨b, o, rfl, hc⟩ := h3.resolve_left (by intro e; subst e; simp at hl)
  rcases h.2 with ⟨h5, _⟩ | ⟨g, cap', cur, h5, hB, hg, _⟩
  · cases h5
  · cases h5
    refine ⟨_, rfl, hB, ?_, rfl, h1, fun i hi => by simpa using hc i hi, fun i => ?_⟩
    · exact World.block_lt_of_cell? w _ (hc 0 hl)
    · simp [World.frozen?, hg]

theorem Own.set {w : World} {B g n c : Nat} {l : List Nat} (h : Own w B (.slice (some ⟨g, 0, none⟩) n c) l) (k y : Nat) : Own (w.setCell ⟨g, k, none⟩ (.int .u8 (y : Int))) B (.slice (some ⟨g, 0, none⟩) n c) (l.set k y) := by
  obtain ⟨a', c', hv, _⟩ := h.rd
  cases hv
  have := (World.ownsRow.stored h k (.int .u8 (y : Int))).1
  unfold Own
  rw [List.length_set]
  have e : bvs (l.set k y) = (bvs l).set k (.int .u8 (y : Int)) := by simp [bvs, List.map_set]
  rw [e]
  exact this

/-- A call that hands back new bytes. -/
def RetB (w : World) (l : List Nat) (e : Ending) (w' : World) : Prop := ∃ v, e = .returned v ∧ Own w' w.heap.size v l ∧ Ext w w'

theorem RetB.shape {w w' : World} {l : List Nat} {e : Ending} (h : RetB w l e w') : ∃ a n c, e = .returned (.slice a n c) ∧ Hid (n = l.length) ∧ Own w' w.heap.size (.slice a n c) l ∧ Ext w w' := by
  obtain ⟨v, rfl, ho, hx⟩ := h
  obtain ⟨a, c, rfl, _⟩ := ho.rd
  exact ⟨a, _, c, rfl, rfl, ho, hx⟩

end Go.Proofs.Yteofjhjhaaafjaa
