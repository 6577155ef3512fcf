/- Layer 1 (num): parts joined. -/
import Derived.Test.YtopcecgkbmdmeaaNum
import Derived.Test.YtopcecgkbmdmeaaOwn
namespace Go.Proofs.Ytopcecgkbmdmeaa
open Go.RowKit
set_option linter.unusedSimpArgs false
set_option linter.unusedVariables false

theorem take_succ_l {ls : List (List Nat)} {k : Nat} (h : k < ls.length) : ls.take (k + 1) = ls.take k ++ [ls.getD k []] := by
  rw [List.take_succ_eq_append_getElem h]
  simp [h]
theorem flat_take_le (ls : List (List Nat)) (k : Nat) : (ls.take k).flatten.length ≤ ls.flatten.length := by
  have : ls.flatten = (ls.take k).flatten ++ (ls.drop k).flatten := by rw [← List.flatten_append, List.take_append_drop]
  rw [this, List.length_append]
  omega

set_option maxHeartbeats 400000 in
theorem bytes_any (w : World) (v : Value) (ls : List (List Nat)) (hv : Sls w v ls) (hl : ls.flatten.length ≤ 1000000000) :
    Calls Try.prog 19 #[v] w (RetB w ls.flatten) := by
  obtain ⟨a, cap, rfl, hle, hcm⟩ : ∃ a cap, v = .slice a ls.length cap ∧ ls.length ≤ cap ∧ cap ≤ 9223372036854775807 := by
    rcases hv with ⟨rfl, rfl⟩ | ⟨b, o, cap, rfl, h1, h2, _⟩
    · exact ⟨none, 0, rfl, by simp, by omega⟩
    · exact ⟨_, cap, rfl, h1, by unfold maxLen at h2; omega⟩
  go_enter Try.func19, Try.ntmps19
  go_wp2
  go_loopw [3, 5, 8] (fun x _ i wr => ∃ k : Nat, k ≤ ls.length ∧ i = .int .i64 k ∧ Own wr w.heap.size x (ls.take k).flatten ∧ Ext w wr) (fun _ _ i _ => ls.length - (intOf i).toNat)
  case atStart => exact ⟨0, by omega, rfl, Own.nil _ _, Ext.refl _⟩
  case round =>
    obtain ⟨k, hk, rfl, hown, hx⟩ := hrel
    by_cases hlt : k < ls.length
    · rcases hv with ⟨hv, hnil⟩ | ⟨b, o, cap', hv, h1, h2, h3⟩
      · subst hnil; simp at hlt
      · obtain ⟨rfl, rfl⟩ : a = some ⟨b, o, none⟩ ∧ cap = cap' := by simpa using hv
        obtain ⟨u, hcell0, hu0⟩ := h3 k hlt
        have hcell := hx.keep hcell0
        have hu := hu0.mono hx
        have Htk := hid (take_succ_l hlt)
        have hb1 := flat_take_le ls (k + 1)
        rw [Htk.out, List.flatten_append] at hb1
        simp only [List.flatten_cons, List.flatten_nil, List.append_nil, List.length_append] at hb1
        clear h3 hv hcell0 hu0
        generalize ls.getD k [] = p at *
        go_wp2_with (at_builtin; go_must (refine appB _ rfl _ _ rfl w.heap.size hown rfl hu rfl (by omega) hx.size fun a2 n2 c2 w2 hn2 ho2 hg => ?_))
        have hx2 : Ext w w2 := Own.ext hown hx (Nat.le_refl _) hg
        clear hg hown hcell hu hb1
        go_wp2
        go_roundw
        case rel => exact ⟨k + 1, by omega, by go_num, by rw [Htk.out, List.flatten_append]; simpa using ho2, hx2⟩
        case measure => simp [intOf]; omega
    · obtain rfl : k = ls.length := by omega
      go_wp2
      go_ret
      rw [List.take_length] at hown
      exact ⟨_, rfl, hown, hx⟩

/-- A slice value of slices, as it may come in. -/
def SlsW (w : World) (v : Value) (ls : List (List Nat)) : Prop :=
  ∃ a n cap, v = .slice a n cap ∧ n = ls.length ∧ n ≤ cap ∧ cap ≤ maxLen ∧ (n = 0 ∨ ∃ b o, a = some ⟨b, o, none⟩ ∧ ∀ k, k < n → ∃ u, w.cell? ⟨b, o + k, none⟩ = some u ∧ SlW w u (ls.getD k []))

structure JR (w wr : World) (k : Nat) (tr : List (List Nat)) (us : List Value) (wv ov : Value) : Prop where
  own : OwnV wr w.heap.size 23 ov us
  len : us.length = k
  want : Own wr w.heap.size wv (tr.take k).flatten
  each : ∀ j, j < k → Own wr w.heap.size (us.getD j undef) (tr.getD j []) ∧ ((us.getD j undef).ownBlock = none ∨ (us.getD j undef).ownBlock ≠ wv.ownBlock)
  ext : Ext w wr

theorem jr_step {w wr w1 w2 w3 w4 : World} {k : Nat} {tr : List (List Nat)} {us : List Value} {wv ov p wv' ov' : Value} (h : JR w wr k tr us wv ov) (hk : k < tr.length) (hx1 : Ext wr w1)
    (hp : Own w1 wr.heap.size p (tr.getD k [])) (hw2 : Own w2 w.heap.size wv' ((tr.take k).flatten ++ tr.getD k [])) (hg2 : w1.grownBy w2 wv.ownBlock) (hb2 : Blk w1 wv wv')
    (hx3 : Ext w2 w3) (ho4 : OwnV w4 w.heap.size 23 ov' (us ++ [p])) (hg4 : w3.grownBy w4 ov.ownBlock) : JR w w4 (k + 1) tr (us ++ [p]) wv' ov' := by
  have hwlt := h.want.lt
  have holt := h.own.lt
  have hplt := hp.lt
  have hE1 : Ext w w1 := h.ext.trans hx1
  have hsz := hx1.size
  have hpw : p.ownBlock = none ∨ p.ownBlock ≠ wv.ownBlock := by
    cases hpb : p.ownBlock with
    | none => exact .inl rfl
    | some g =>
      right
      intro e
      have h1 := hplt g hpb
      have h2 := hwlt g e.symm
      omega
  have hp2 := hp.kept hg2 hpw
  have howv : ov.ownBlock = none ∨ ov.ownBlock ≠ wv.ownBlock := rows_apart h.own h.want (by decide)
  have ho3 := ((h.own.mono hx1).kept hg2 howv).mono hx3
  have hw3 := hw2.mono hx3
  have hwo : wv'.ownBlock = none ∨ wv'.ownBlock ≠ ov.ownBlock := rows_apart hw3 ho3 (by decide)
  have hp3 := hp2.mono hx3
  have hpo : p.ownBlock = none ∨ p.ownBlock ≠ ov.ownBlock := rows_apart hp3 ho3 (by decide)
  have hlen := h.len
  have sep : ∀ u : Value, (∀ g, u.ownBlock = some g → g < w1.heap.size) → (u.ownBlock = none ∨ u.ownBlock ≠ wv.ownBlock) → (u.ownBlock = none ∨ u.ownBlock ≠ wv'.ownBlock) := by
    intro u hu hs
    rcases hs with hs | hs
    · exact .inl hs
    · rcases hb2 with hb | hb
      · rw [hb]; exact .inr hs
      · cases hub : u.ownBlock with
        | none => exact .inl rfl
        | some g =>
          right
          intro e
          have h1 := hu g hub
          have h2 := hb g e.symm
          omega
  refine ⟨ho4, by simp [hlen], ?_, ?_, ?_⟩
  · rw [take_succ_l hk, List.flatten_append]
    have := hw3.kept hg4 hwo
    simpa using this
  · intro j hj
    by_cases hjk : j < k
    · have e : (us ++ [p]).getD j undef = us.getD j undef := by simp [List.getElem?_append_left (show j < us.length by omega)]
      rw [e]
      obtain ⟨g1, g2⟩ := h.each j hjk
      have g1' := g1.mono hx1
      have g3 := (g1'.kept hg2 g2).mono hx3
      have g4 : (us.getD j undef).ownBlock = none ∨ (us.getD j undef).ownBlock ≠ ov.ownBlock := rows_apart g3 ho3 (by decide)
      exact ⟨g3.kept hg4 g4, sep _ (fun g hg => (g1'.lt g hg).2) g2⟩
    · obtain rfl : j = k := by omega
      have e : (us ++ [p]).getD j undef = p := by subst hlen; simp
      rw [e]
      exact ⟨(hp3.kept hg4 hpo).base h.ext.size, sep _ (fun g hg => (hplt g hg).2) hpw⟩
  · have hE2 : Ext w w2 := Own.ext h.want hE1 (Nat.le_refl _) hg2
    exact grown_ext hg4 (hE2.trans hx3) fun g hg => (holt g hg).1

theorem Try.info23 : (Try.prog.info? 23).map (fun i => (i.zero, i.size, i.bytes)) = some (some (.slice none 0 0), 1, 24) := by kernel_rfl

/-- append of one slice of bytes onto slices of one's own. -/
theorem appS (w : World) {ops : Array Oper} {rest : List Oper} {o : Oper} {a : Act} {Q : Exit → Act → World → Prop} (hgd : o.guard = none) (s x : Operand)
    (ho : o.op = .call { callee := .builtin .append, args := #[s, x], argTypes := #[33, 33] })
    (base : Nat) {v : Value} {us : List Value} (hown : OwnV w base 23 v us) (hs : a.eval s = v)
    {p : Value} (hp : p.oneCell' = true) {g : Nat} (hx : a.eval x = .slice (some ⟨g, 0, none⟩) 1 1) (hc : w.cell? ⟨g, 0, none⟩ = some p)
    (hb : us.length ≤ 1099511627776) (hbase : base ≤ w.heap.size)
    (h : ∀ a' n' c' w', Hid (n' = (us ++ [p]).length) → OwnV w' base 23 (.slice a' n' c') (us ++ [p]) → w.grownBy w' v.ownBlock → Blk w v (.slice a' n' c') → wpList Try.prog ops Q rest (a.put o.dst (.slice a' n' c')) w') :
    wpList Try.prog ops Q (o :: rest) a w := by
  obtain ⟨i0, hi, hz0, hz1, hz2⟩ := info_parts Try.info23
  refine wpList_appx w hgd s x 33 ho base 23 i0 (.slice none 0 0) 24 Try.underlying33 hi hz0 hz1 hz2 rfl v us hs hown _ [p] hx ⟨_, _, rfl, by simp, ?_⟩ (by simpa using hp) (by simp; unfold maxLen; omega) (by simp; omega) hbase h
  intro j u hj
  cases j with
  | zero => cases hj; exact ⟨_, rfl, by simpa [Addr.add] using hc⟩
  | succ j => cases hj

/-- From here the loop of NumJoins. -/
def Elem (w : World) (a : Option Addr) (n : Nat) (ls : List (List Nat)) : Prop := ∀ k, k < n → ∃ b o, a = some ⟨b, o, none⟩ ∧ ∃ u, w.cell? ⟨b, o + k, none⟩ = some u ∧ SlW w u (ls.getD k [])

def TrueExt (w : World) (e : Ending) (w' : World) : Prop := e = .returned (.bool true) ∧ Ext w w'

set_option maxHeartbeats 400000 in
theorem numJoins_walk (w : World) (v : Value) (ls : List (List Nat)) (hv : SlsW w v ls) :
    Calls Try.prog 6 #[v] w (TrueExt w) := by
  obtain ⟨a, n, cap, rfl, hn, hnc, hcm, hel⟩ := hv
  have Hn := hid hn
  have h4 : cap ≤ 9223372036854775807 := by unfold maxLen at hcm; omega
  have HE : Hid (Elem w a n ls) := by
    intro k hk
    rcases hel with h0 | ⟨b, o, rfl, h⟩
    · omega
    · exact ⟨b, o, rfl, h k hk⟩
  clear hel hn hcm
  by_cases hgt : 12 < n
  · obtain ⟨b, o, rfl, _⟩ := HE.out 0 (by omega)
    have hd : decide (12 < (n : Int)) = true := by simp; omega
    go_enter Try.func6, Try.ntmps6
    go_wp2
    obtain ⟨a, ha⟩ : ∃ a, some (⟨b, o, none⟩ : Addr) = a := ⟨_, rfl⟩
    obtain ⟨m, hm⟩ : ∃ m, 12 = m := ⟨_, rfl⟩
    rw [ha] at HE ⊢
    rw [show Value.slice a 12 cap = Value.slice a m cap by rw [hm]]
    have hm12 : m ≤ 12 := by omega
    have Hm : Hid (m ≤ ls.length) := by have := Hn.out; unfold Hid; omega
    have HE' : Hid (Elem w a m ls) := fun k hk => HE.out k (by omega)
    have hmc : m ≤ cap := by omega
    clear HE ha hm hgt Hn hnc
    have htl : ((ls.take m).map (List.take 60)).length = m := by have := Hm.out; simp; omega
    have hte : ∀ k, k < m → ((ls.take m).map (List.take 60)).getD k [] = (ls.getD k []).take 60 := by
      intro k hk
      have := Hm.out
      simp [List.getElem?_take, hk, show k < ls.length by omega]
    have hfl : ∀ k, k ≤ m → (((ls.take m).map (List.take 60)).take k).flatten.length ≤ 60 * k := by
      intro k
      induction k with
      | zero => intro _; simp
      | succ k ih =>
        intro hk
        rw [take_succ_l (by rw [htl]; omega), List.flatten_append]
        have := ih (by omega)
        have e : ((ls.getD k []).take 60).length ≤ 60 := by simp; omega
        rw [hte k (by omega)]
        simp only [List.flatten_cons, List.flatten_nil, List.append_nil, List.length_append]
        omega
    generalize htr : (ls.take m).map (List.take 60) = tr at *
    have Htl := hid htl
    have Hte := hid hte
    have Hfl := hid hfl
    clear htl hte hfl htr
    go_loopw [3, 4, 5, 6] (fun x y i _ wr => ∃ (k : Nat) (us : List Value), k ≤ m ∧ i = .int .i64 k ∧ JR w wr k tr us x y) (fun _ _ i _ _ => m - (intOf i).toNat)
    case atStart =>
      refine ⟨0, [], by omega, rfl, ⟨⟨rfl, .inr ⟨w.heap.size + 1, 0, #[], rfl, by omega, ?_, Nat.le_refl _, by unfold maxLen; omega, rfl, rfl⟩⟩, rfl, ?_, by intro j hj; omega, ?_⟩⟩
      · have := heap_alloc_new (w.alloc (.cells #[] 5)) (.cells #[] 23)
        simpa using this
      · exact (own_lit w w.heap.size [] #[] rfl (Nat.le_refl _) (by decide)).mono ((Ext.refl _).alloc _)
      · exact ((Ext.refl w).alloc _).alloc _
    case round =>
      obtain ⟨k, us, hk, rfl, hJ⟩ := hrel
      have HJ := hid hJ
      clear hJ
      by_cases hlt : k < m
      · obtain ⟨b, o, rfl, u, hcell0, hu0⟩ := HE'.out k hlt
        have hcell := HJ.out.ext.keep hcell0
        have hu := hid (hu0.mono HJ.out.ext)
        clear hcell0 hu0
        have hxw := hid HJ.out.ext
        go_wp2_with (at_builtin; fail)
        refine (few_any _ u _ 60 hu.out (by omega)).mono ?_
        rw [← Hte.out k hlt]
        rintro e w1 hr; obtain ⟨a1, n1, q1, rfl, hn1, hp1, hx1⟩ := hr.shape
        clear hr hcell
        have hw1 := hid (HJ.out.want.mono hx1)
        have ho1 := hid (HJ.out.own.mono hx1)
        have hfk := Hfl.out k (by omega)
        have hpl : (tr.getD k []).length ≤ 60 := by rw [Hte.out k hlt]; simp; omega
        have hul := hid HJ.out.len
        have hkl : us.length ≤ 12 := by rw [hul.out]; omega
        have hb1 : w.heap.size ≤ w1.heap.size := Nat.le_trans HJ.out.ext.size hx1.size
        go_wp2_with (first
          | (at_builtin; refine appBx _ rfl (.tmp 25) (.tmp 26) rfl w.heap.size hw1.out rfl hp1.sl.src rfl (by omega) hb1 fun a2 n2 q2 w2 hn2 hw2 hg2 hb2 => ?_; have hb22 : w.heap.size ≤ w2.heap.size := Nat.le_trans hb1 hg2.size; have ho2 := hid ((ho1.out.kept hg2 (rows_apart ho1.out hw1.out (by decide))).mono ((Ext.refl w2).alloc (.cells #[.slice a1 n1 q1] 23))); have hcl := hid (show (w2.alloc (.cells #[.slice a1 n1 q1] 23)).cell? ⟨w2.heap.size, 0, none⟩ = some (.slice a1 n1 q1) by rw [World.cell?_alloc_new]; rfl); have hsz2 := hid (show w.heap.size ≤ (w2.alloc (.cells #[.slice a1 n1 q1] 23)).heap.size by simp; omega); have hg2' := hid hg2; have hb2' := hid hb2; have hw2' := hid hw2; clear hg2 hb2 hw2)
          | (at_builtin; refine appS _ rfl (.tmp 28) (.tmp 30) rfl w.heap.size ho2.out rfl (p := .slice a1 n1 q1) rfl rfl hcl.out (by omega) hsz2.out fun a4 n4 q4 w4 hn4 ho4 hg4 hb4 => ?_)
          | fail)
        have hJ4 := hid (jr_step HJ.out (by rw [Htl.out]; exact hlt) hx1 hp1 hw2'.out hg2'.out hb2'.out ((Ext.refl w2).alloc _) ho4 hg4)
        clear hg4 hb4 ho4 hp1 hx1
        go_roundw
        case rel => exact ⟨k + 1, us ++ [.slice a1 n1 q1], by omega, by go_num, hJ4.out⟩
        case measure => simp [intOf]; omega
      · obtain rfl : k = m := by omega
        have hfk := Hfl.out k (by omega)
        rw [List.take_of_length_le (by rw [Htl.out]; omega)] at hfk
        have hS : Sls wr u4 tr := HJ.out.own.sls (by rw [HJ.out.len, Htl.out]) fun j hj => (HJ.out.each j (by rw [Htl.out] at hj; exact hj)).1.sl
        have hW : Sl wr u3 tr.flatten := by
          have := HJ.out.want.sl
          rwa [List.take_of_length_le (by rw [Htl.out]; omega)] at this
        have hS' := hid hS
        have hW' := hid hW
        clear hS hW
        go_wp2
        refine wp_region_rel (by kernel_rfl) Ext Ext.refl (fun _ _ _ h k => h.trans k) [Is (u4), IsSl (tr.flatten), Is (.string (str tr.flatten)), Is (u3), Is (.string (str tr.flatten)), Is (.bool true), Is (.bool true), Is (.bool true), Is (.bool true), Is (.bool true)]
          ⟨keep_is _, keep_sl _, keep_is _, keep_is _, keep_is _, keep_is _, keep_is _, keep_is _, keep_is _, keep_is _, trivial⟩ (by kernel_rfl) ?_ ⟨?_, ?_, ?_, ?_, ?_, ?_, ?_, ?_, ?_, ?_, trivial⟩
        · intro W hE
          simp only [behind, Act.put, Is, List.map_cons, List.map_nil, forall_eq, List.setIfInBounds_toArray, List.set_cons_succ, List.set_cons_zero, List.dropLast_cons_cons, List.dropLast_singleton]
          intro v33 _
          go_wp2
          go_ret
          exact ⟨rfl, HJ.out.ext.trans ((Ext.refl wr).drew.trans hE)⟩
        all_goals intro ρ W hE hout ha; try simp [ahead, factAt, valAt, Region.binds, Is, IsSl, IsNew, IsSls] at ha
        all_goals try (refine Does.of_run rfl (w' := W) ?_ ⟨Ext.refl _, rfl⟩; simp [execOp, Act.eval, hout, dstsOf, List.dropLast, ha, go_sem]; done)
        · refine Does.of_call rfl (by simp [execOp, Act.eval, hout, dstsOf, ha, go_sem]) ((bytes_any W u4 tr (hS'.out.mono ((Ext.refl wr).drew.trans hE)) (by omega)).mono ?_)
          rintro e w' ⟨v, rfl, h, hx'⟩
          exact ⟨v, rfl, hx', h.sl⟩
        · exact does_conv rfl rfl _ rfl (by simpa [Act.eval] using ha)
        · exact does_conv rfl rfl _ rfl (by simpa [Act.eval, ha] using hW'.out.mono ((Ext.refl wr).drew.trans hE))
        · refine Does.of_call' (wanted_yes rfl rfl (by simpa using ha)) (by simp [execOp, Act.eval, hout, dstsOf, ha, go_sem]) ((numLives_any W).mono ?_)
          rintro e w' ⟨rfl, hx'⟩
          exact ⟨_, rfl, hx', rfl⟩
  · have hd : decide (12 < (n : Int)) = false := by simp; omega
    go_enter Try.func6, Try.ntmps6
    go_wp2
    have hm12 : n ≤ 12 := by omega
    have Hm : Hid (n ≤ ls.length) := by have := Hn.out; unfold Hid; omega
    have HE' := HE
    clear hgt Hn HE
    obtain ⟨m, hm⟩ : ∃ m, n = m := ⟨_, rfl⟩
    have hmc : m ≤ cap := by omega
    subst hm
    have htl : ((ls.take n).map (List.take 60)).length = n := by have := Hm.out; simp; omega
    have hte : ∀ k, k < n → ((ls.take n).map (List.take 60)).getD k [] = (ls.getD k []).take 60 := by
      intro k hk
      have := Hm.out
      simp [List.getElem?_take, hk, show k < ls.length by omega]
    have hfl : ∀ k, k ≤ n → (((ls.take n).map (List.take 60)).take k).flatten.length ≤ 60 * k := by
      intro k
      induction k with
      | zero => intro _; simp
      | succ k ih =>
        intro hk
        rw [take_succ_l (by rw [htl]; omega), List.flatten_append]
        have := ih (by omega)
        have e : ((ls.getD k []).take 60).length ≤ 60 := by simp; omega
        rw [hte k (by omega)]
        simp only [List.flatten_cons, List.flatten_nil, List.append_nil, List.length_append]
        omega
    generalize htr : (ls.take n).map (List.take 60) = tr at *
    have Htl := hid htl
    have Hte := hid hte
    have Hfl := hid hfl
    clear htl hte hfl htr
    go_loopw [3, 4, 5, 6] (fun x y i _ wr => ∃ (k : Nat) (us : List Value), k ≤ n ∧ i = .int .i64 k ∧ JR w wr k tr us x y) (fun _ _ i _ _ => n - (intOf i).toNat)
    case atStart =>
      refine ⟨0, [], by omega, rfl, ⟨⟨rfl, .inr ⟨w.heap.size + 1, 0, #[], rfl, by omega, ?_, Nat.le_refl _, by unfold maxLen; omega, rfl, rfl⟩⟩, rfl, ?_, by intro j hj; omega, ?_⟩⟩
      · have := heap_alloc_new (w.alloc (.cells #[] 5)) (.cells #[] 23)
        simpa using this
      · exact (own_lit w w.heap.size [] #[] rfl (Nat.le_refl _) (by decide)).mono ((Ext.refl _).alloc _)
      · exact ((Ext.refl w).alloc _).alloc _
    case round =>
      obtain ⟨k, us, hk, rfl, hJ⟩ := hrel
      have HJ := hid hJ
      clear hJ
      by_cases hlt : k < n
      · obtain ⟨b, o, rfl, u, hcell0, hu0⟩ := HE'.out k hlt
        have hcell := HJ.out.ext.keep hcell0
        have hu := hid (hu0.mono HJ.out.ext)
        clear hcell0 hu0
        have hxw := hid HJ.out.ext
        go_wp2_with (at_builtin; fail)
        refine (few_any _ u _ 60 hu.out (by omega)).mono ?_
        rw [← Hte.out k hlt]
        rintro e w1 hr; obtain ⟨a1, n1, q1, rfl, hn1, hp1, hx1⟩ := hr.shape
        clear hr hcell
        have hw1 := hid (HJ.out.want.mono hx1)
        have ho1 := hid (HJ.out.own.mono hx1)
        have hfk := Hfl.out k (by omega)
        have hpl : (tr.getD k []).length ≤ 60 := by rw [Hte.out k hlt]; simp; omega
        have hul := hid HJ.out.len
        have hkl : us.length ≤ 12 := by rw [hul.out]; omega
        have hb1 : w.heap.size ≤ w1.heap.size := Nat.le_trans HJ.out.ext.size hx1.size
        go_wp2_with (first
          | (at_builtin; refine appBx _ rfl (.tmp 25) (.tmp 26) rfl w.heap.size hw1.out rfl hp1.sl.src rfl (by omega) hb1 fun a2 n2 q2 w2 hn2 hw2 hg2 hb2 => ?_; have hb22 : w.heap.size ≤ w2.heap.size := Nat.le_trans hb1 hg2.size; have ho2 := hid ((ho1.out.kept hg2 (rows_apart ho1.out hw1.out (by decide))).mono ((Ext.refl w2).alloc (.cells #[.slice a1 n1 q1] 23))); have hcl := hid (show (w2.alloc (.cells #[.slice a1 n1 q1] 23)).cell? ⟨w2.heap.size, 0, none⟩ = some (.slice a1 n1 q1) by rw [World.cell?_alloc_new]; rfl); have hsz2 := hid (show w.heap.size ≤ (w2.alloc (.cells #[.slice a1 n1 q1] 23)).heap.size by simp; omega); have hg2' := hid hg2; have hb2' := hid hb2; have hw2' := hid hw2; clear hg2 hb2 hw2)
          | (at_builtin; refine appS _ rfl (.tmp 28) (.tmp 30) rfl w.heap.size ho2.out rfl (p := .slice a1 n1 q1) rfl rfl hcl.out (by omega) hsz2.out fun a4 n4 q4 w4 hn4 ho4 hg4 hb4 => ?_)
          | fail)
        have hJ4 := hid (jr_step HJ.out (by rw [Htl.out]; exact hlt) hx1 hp1 hw2'.out hg2'.out hb2'.out ((Ext.refl w2).alloc _) ho4 hg4)
        clear hg4 hb4 ho4 hp1 hx1
        go_roundw
        case rel => exact ⟨k + 1, us ++ [.slice a1 n1 q1], by omega, by go_num, hJ4.out⟩
        case measure => simp [intOf]; omega
      · obtain rfl : k = n := by omega
        have hfk := Hfl.out k (by omega)
        rw [List.take_of_length_le (by rw [Htl.out]; omega)] at hfk
        have hS : Sls wr u4 tr := HJ.out.own.sls (by rw [HJ.out.len, Htl.out]) fun j hj => (HJ.out.each j (by rw [Htl.out] at hj; exact hj)).1.sl
        have hW : Sl wr u3 tr.flatten := by
          have := HJ.out.want.sl
          rwa [List.take_of_length_le (by rw [Htl.out]; omega)] at this
        have hS' := hid hS
        have hW' := hid hW
        clear hS hW
        go_wp2
        refine wp_region_rel (by kernel_rfl) Ext Ext.refl (fun _ _ _ h k => h.trans k) [Is (u4), IsSl (tr.flatten), Is (.string (str tr.flatten)), Is (u3), Is (.string (str tr.flatten)), Is (.bool true), Is (.bool true), Is (.bool true), Is (.bool true), Is (.bool true)]
          ⟨keep_is _, keep_sl _, keep_is _, keep_is _, keep_is _, keep_is _, keep_is _, keep_is _, keep_is _, keep_is _, trivial⟩ (by kernel_rfl) ?_ ⟨?_, ?_, ?_, ?_, ?_, ?_, ?_, ?_, ?_, ?_, trivial⟩
        · intro W hE
          simp only [behind, Act.put, Is, List.map_cons, List.map_nil, forall_eq, List.setIfInBounds_toArray, List.set_cons_succ, List.set_cons_zero, List.dropLast_cons_cons, List.dropLast_singleton]
          intro v33 _
          go_wp2
          go_ret
          exact ⟨rfl, HJ.out.ext.trans ((Ext.refl wr).drew.trans hE)⟩
        all_goals intro ρ W hE hout ha; try simp [ahead, factAt, valAt, Region.binds, Is, IsSl, IsNew, IsSls] at ha
        all_goals try (refine Does.of_run rfl (w' := W) ?_ ⟨Ext.refl _, rfl⟩; simp [execOp, Act.eval, hout, dstsOf, List.dropLast, ha, go_sem]; done)
        · refine Does.of_call rfl (by simp [execOp, Act.eval, hout, dstsOf, ha, go_sem]) ((bytes_any W u4 tr (hS'.out.mono ((Ext.refl wr).drew.trans hE)) (by omega)).mono ?_)
          rintro e w' ⟨v, rfl, h, hx'⟩
          exact ⟨v, rfl, hx', h.sl⟩
        · exact does_conv rfl rfl _ rfl (by simpa [Act.eval] using ha)
        · exact does_conv rfl rfl _ rfl (by simpa [Act.eval, ha] using hW'.out.mono ((Ext.refl wr).drew.trans hE))
        · refine Does.of_call' (wanted_yes rfl rfl (by simpa using ha)) (by simp [execOp, Act.eval, hout, dstsOf, ha, go_sem]) ((numLives_any W).mono ?_)
          rintro e w' ⟨rfl, hx'⟩
          exact ⟨_, rfl, hx', rfl⟩

end Go.Proofs.Ytopcecgkbmdmeaa
