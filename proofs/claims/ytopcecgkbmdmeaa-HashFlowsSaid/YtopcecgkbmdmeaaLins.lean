/- The obligations of a region that appends to what it makes: short forms. -/
import Derived.Test.YtopcecgkbmdmeaaLin
import Derived.Test.YtopcecgkbmdmeaaStruct
namespace Go.Proofs.Ytopcecgkbmdmeaa
open Go.RowKit
set_option linter.unusedSimpArgs false
set_option linter.unusedVariables false

def IsOwn (B : Nat) (l : List Nat) : Value → World → Prop := fun v w => Own w B v l

theorem keepL_is {B : Nat} (c : Value) : KeepL B (Is c) := fun _ _ _ _ _ _ _ h => h
theorem keepL_own {B : Nat} (l : List Nat) : KeepL B (IsOwn B l) := fun _ _ _ _ hg _ hs h => Own.kept h hg hs
theorem keepL_sl {B : Nat} (l : List Nat) : KeepL B (IsSl l) := fun _ _ _ _ hg _ hs h => Sl.kept h hg hs

theorem Ext.grown {w w' : World} (h : Ext w w') (row : Option Nat) : w.grownBy w' row := ⟨h.os, h.tape, h.output, h.size, fun k hk _ => h.block k hk⟩

section
variable {P : Program} {ops : Array Oper} {eats : List (Option Nat)} {B i : Nat} {o : Oper} {ρ : Act} {w : World}

theorem lin_is {c : Value} (hc : c.ownBlock = none) (h : Does P ops o ρ w fun v w' => Ext w w' ∧ Is c (hit o.dst v) w') :
    Does P ops o ρ w fun v w' => w.grownBy w' (rowOf ops eats ρ.tmps i) ∧ Is c (hit o.dst v) w' ∧ BlkOk ops eats B ρ.tmps o i w w' (hit o.dst v) :=
  h.mono fun v w' ⟨hx, hv⟩ => ⟨hx.grown _, hv, fun g hg => by
    rw [show hit o.dst v = c from hv, hc] at hg; cases hg⟩

theorem lin_old {c : Value} {g : Nat} (hc : c.ownBlock = some g) (hne : eaten eats i = false) (hg : g < B) (hB : B ≤ w.heap.size) (h : Does P ops o ρ w fun v w' => Ext w w' ∧ Is c (hit o.dst v) w') :
    Does P ops o ρ w fun v w' => w.grownBy w' (rowOf ops eats ρ.tmps i) ∧ Is c (hit o.dst v) w' ∧ BlkOk ops eats B ρ.tmps o i w w' (hit o.dst v) :=
  h.mono fun v w' ⟨hx, hv⟩ => ⟨hx.grown _, hv, fun g' hg' => by
    rw [show hit o.dst v = c from hv, hc] at hg'; cases hg'
    exact ⟨by have := hx.size; omega, .inr (.inl ⟨hne, hg⟩)⟩⟩

theorem lin_fresh {l : List Nat} (hB : B ≤ w.heap.size) (h : Does P ops o ρ w fun v w' => Ext w w' ∧ Own w' w.heap.size (hit o.dst v) l) :
    Does P ops o ρ w fun v w' => w.grownBy w' (rowOf ops eats ρ.tmps i) ∧ IsOwn B l (hit o.dst v) w' ∧ BlkOk ops eats B ρ.tmps o i w w' (hit o.dst v) :=
  h.mono fun v w' ⟨hx, hv⟩ => ⟨hx.grown _, hv.base hB, fun g hg => by
    have := hv.lt g hg
    exact ⟨this.2, .inl this.1⟩⟩

theorem lin_call {l : List Nat} {f : FuncId} {args : Array Value} {d : Tmp} (hd : o.dst = some d) (hg : o.guard = none) (hB : B ≤ w.heap.size) (hrun : (execOp ρ.eval o).run P w = .ok (.enter f args) w) (h : Calls P f args w (RetB w l)) :
    Does P ops o ρ w fun v w' => w.grownBy w' (rowOf ops eats ρ.tmps i) ∧ IsOwn B l (hit o.dst v) w' ∧ BlkOk ops eats B ρ.tmps o i w w' (hit o.dst v) :=
  lin_fresh hB (Does.of_call hg hrun (h.mono fun e w' ⟨v, he, ho, hx⟩ => ⟨v, he, hx, by rw [hd]; exact ho⟩))

theorem lin_copy {l : List Nat} {d t : Tmp} (j : Nat) (hd : o.dst = some d) (hg : o.guard = none) (ho : o.op = .assign (.tmp t)) (hne : eaten eats i = false) (hnj : eaten eats j = false)
    (hedge : ∃ e ∈ o.after.toList, Region.binds .any e = true ∧ e.on = j) (hv : valAt ops ρ.tmps j = ρ.tmps.getD t undef) (hB : B ≤ w.heap.size) (h : Own w B (ρ.tmps.getD t undef) l) :
    Does P ops o ρ w fun v w' => w.grownBy w' (rowOf ops eats ρ.tmps i) ∧ IsOwn B l (hit o.dst v) w' ∧ BlkOk ops eats B ρ.tmps o i w w' (hit o.dst v) := by
  refine Does.of_run hg (w' := w) (v := ρ.tmps.getD t undef) ?_ ?_
  · unfold execOp
    simp only [ho]
    rfl
  · rw [hd]
    exact ⟨(Ext.refl w).grown _, h, fun g hg' => ⟨(h.lt g hg').2, .inr (.inr ⟨j, .inr ⟨hne, hnj, hedge⟩, by rw [hv]; exact hg'⟩)⟩⟩

end

/-- append onto what an operation ahead has made. -/
theorem lin_app {ops : Array Oper} {eats : List (Option Nat)} {B i j : Nat} {o : Oper} {ρ : Act} {w : World} {d : Tmp} (hd : o.dst = some d) (hg : o.guard = none) (s x : Operand)
    (ho : o.op = .call { callee := .builtin .append, args := #[s, x], argTypes := #[23, 23] }) (hej : eatOf eats i = some j) (hs : ρ.eval s = valAt ops ρ.tmps j)
    {l l2 : List Nat} (h1 : Own w B (ρ.eval s) l) (h2 : Sl w (ρ.eval x) l2) (hb : l.length + l2.length ≤ 1099511627776) (hB : B ≤ w.heap.size) :
    Does Try.prog ops o ρ w fun v w' => w.grownBy w' (rowOf ops eats ρ.tmps i) ∧ IsOwn B (l ++ l2) (hit o.dst v) w' ∧ BlkOk ops eats B ρ.tmps o i w w' (hit o.dst v) := by
  refine Does.of_wpList hd hg fun ρ' Q he hQ => ?_
  refine appBx w hg s x ho B h1 (by rw [he]) h2.src (by rw [he]) hb hB fun a' n' c' w' h3 h4 h5 h6 => ?_
  have hrow : rowOf ops eats ρ.tmps i = (ρ.eval s).ownBlock := by unfold rowOf; rw [hej, hs]; rfl
  refine hQ _ _ ⟨by rw [hrow]; exact h5, by rw [hd]; exact h4, fun g hg' => ?_⟩
  rw [hd] at hg'
  refine ⟨(h4.lt g hg').2, ?_⟩
  rcases h6 with h6 | h6
  · exact .inr (.inr ⟨j, .inl hej, by rw [← hs, ← h6]; exact hg'⟩)
  · exact .inl (h6 g hg')

/-- A new literal of one byte. -/
theorem does_one {ops : Array Oper} {o : Oper} {ρ : Act} {w : World} {d : Tmp} (hg : o.guard = none) (hd : o.dst = some d) (x : Operand) (ho : o.op = .buildSlice 23 1 #[(0, x)]) {c : Nat} (hx : ρ.eval x = .int .u8 (c : Int)) :
    Does Try.prog ops o ρ w fun v w' => Ext w w' ∧ Own w' w.heap.size (hit o.dst v) [c] := by
  refine Does.of_run hg (w' := w.alloc (.cells #[.int .u8 (c : Int)] 5)) (v := .slice (some ⟨w.heap.size, 0, none⟩) 1 1) ?_ ⟨(Ext.refl _).alloc _, ?_⟩
  · unfold execOp
    simp only [ho, List.map_toArray, List.map_cons, List.map_nil, hx]
    simp [go_sem]
  · rw [hd]
    exact own_lit w _ [c] _ rfl (Nat.le_refl _) (by simp [maxLen])

/-- A new literal of slices. -/
theorem does_sls {ops : Array Oper} {o : Oper} {ρ : Act} {w : World} {d : Tmp} (hg : o.guard = none) (hd : o.dst = some d) (x y : Operand) (ho : o.op = .buildSlice 33 2 #[(0, x), (1, y)]) {l k : List Nat} (h1 : Sl w (ρ.eval x) l) (h2 : Sl w (ρ.eval y) k) :
    Does Try.prog ops o ρ w fun v w' => Ext w w' ∧ IsSls [l, k] (hit o.dst v) w' := by
  obtain ⟨a1, c1, hx, _⟩ := h1.rd
  obtain ⟨a2, c2, hy, _⟩ := h2.rd
  rw [hx] at h1
  rw [hy] at h2
  refine Does.of_run hg (w' := w.alloc (.cells #[.slice a1 l.length c1, .slice a2 k.length c2] 23)) (v := .slice (some ⟨w.heap.size, 0, none⟩) 2 2) ?_ ⟨(Ext.refl _).alloc _, ?_⟩
  · unfold execOp
    simp only [ho, List.map_toArray, List.map_cons, List.map_nil, hx, hy]
    simp [go_sem]
  · rw [hd]
    exact sls_two w _ rfl h1 h2

theorem hsum_call (w : World) (s : Nat) (v : Value) (ls : List (List Nat)) (t : List Nat) (ht : ls.flatten = t) (hs : s < 18446744073709551616) (hv : Sls w v ls) (hb : ∀ l ∈ ls, ∀ x ∈ l, x < 256) :
    Calls Try.prog 31 #[.int .u64 s, v] w fun e w' => e = .returned (.int .u64 (hsum s t : Nat)) ∧ w = w' := by
  have H := hsum_any w s v ls hs hv hb
  rw [fnvl_flat, ht] at H
  exact H

theorem Try.agg40 : aggOf Try.prog 40 18 = true := by kernel_rfl

set_option maxHeartbeats 400000 in
theorem client_any (w : World) (s : Nat) (a : Ad) (n : Int) (hk : a.ok) (hs : s < 18446744073709551616) :
    Calls Try.prog 20 #[.int .u64 s, .agg (pxc a n).toArray] w fun e w' => e = .returned (.int .u64 (hsum s (adb a ++ [b8 n]) : Nat)) ∧ Ext w w' := by
  have hb := hid (Box.new w (pxc a n) 40)
  have hx := (Ext.refl w).alloc (.cells (pxc a n).toArray 40)
  have h17 := hb.out.one 17 (pxc_bits hk n)
  have hagg : Hid (aggOf Try.prog 38 (adc a).length = true) := by rw [adc_length hk]; exact Try.agg38
  have h1 := hid (adb_lt hk)
  have h2 : Hid (∀ x ∈ [b8 n], x < 256) := by intro x hx; simp at hx; subst hx; exact b8_lt n
  have Hs := hid hs
  clear hs
  go_enter Try.func20, Try.ntmps20
  go_wp2_with fail
  refine wp_region_rel (by kernel_rfl) Ext Ext.refl (fun _ _ _ h k => h.trans k) [Is (.int .u64 s), Is (.pointer (some ⟨w.heap.size, 0, none⟩)), Is (.agg (adc a).toArray), IsSl (adb a), Is (.pointer (some ⟨w.heap.size, 17, none⟩)), Is (.int .i64 n), Is (.int .u8 (b8 n : Nat)), IsSl ([b8 n]), IsSls ([adb a, [b8 n]]), Is (.int .u64 (hsum s (adb a ++ [b8 n]) : Nat)), Is (.int .u64 (hsum s (adb a ++ [b8 n]) : Nat))]
    ⟨keep_is _, keep_is _, keep_is _, keep_sl _, keep_is _, keep_is _, keep_is _, keep_sl _, keep_sls _, keep_is _, keep_is _, trivial⟩ (by kernel_rfl) ?_ ⟨?_, ?_, ?_, ?_, ?_, ?_, ?_, ?_, ?_, ?_, ?_, trivial⟩
  · intro W hE
    simp only [behind, Act.put, Is, List.map_cons, List.map_nil, forall_eq, List.setIfInBounds_toArray, List.set_cons_succ, List.set_cons_zero, List.dropLast_cons_cons, List.dropLast_singleton]
    intro v1 _ v2 _ v3 _
    go_wp2
    go_ret
    exact ⟨rfl, hx.trans ((Ext.refl _).drew.trans hE)⟩
  all_goals intro ρ W hE hout ha; try simp [ahead, factAt, valAt, Region.binds, Is, IsSl, IsNew, IsSls] at ha
  all_goals have h17W := (((Ext.refl _).drew).trans hE).keep h17
  all_goals try (refine Does.of_run rfl (w' := W) ?_ ⟨Ext.refl _, rfl⟩; simp [execOp, Act.eval, hout, dstsOf, List.dropLast, ha, go_sem, h17W, b8_cast]; done)
  · exact Does.load_agg rfl rfl 38 _ rfl (by simpa [Act.eval] using ha) hagg.out ((hb.out.mono ((Ext.refl _).drew.trans hE)).part 0 17 (adc a) (pxc_addr hk n))
  · refine Does.of_call rfl (by simp [execOp, Act.eval, hout, dstsOf, ha, go_sem]) ((addrBytes_any W a hk).mono ?_)
    rintro e w' ⟨v, rfl, h, hx'⟩
    exact ⟨v, rfl, hx', h.sl⟩
  · exact (does_one rfl rfl _ rfl (by simpa [Act.eval] using ha)).mono fun v w' ⟨hx, ho⟩ => ⟨hx, ho.sl⟩
  · exact does_sls rfl rfl _ _ rfl (by simpa [Act.eval] using ha.1) (by simpa [Act.eval] using ha.2)
  · refine Does.of_call rfl (by simp [execOp, Act.eval, hout, dstsOf, ha, go_sem]) ((hsum_call W s _ [adb a, [b8 n]] (adb a ++ [b8 n]) (by simp) Hs.out ha.2.1 (by intro l hl; simp only [List.mem_cons, List.not_mem_nil, or_false] at hl; rcases hl with rfl | rfl; exact h1.out; exact h2.out)).mono ?_)
    rintro e w' ⟨rfl, rfl⟩
    exact ⟨_, rfl, Ext.refl _, rfl⟩

set_option maxHeartbeats 400000 in
theorem refClient_any (w : World) (s : Nat) (a : Ad) (n : Int) (hk : a.ok) (hs : s < 18446744073709551616) :
    Calls Try.prog 21 #[.int .u64 s, .agg (pxc a n).toArray] w fun e w' => e = .returned (.int .u64 (hsum s (adb a ++ [b8 n]) : Nat)) ∧ Ext w w' := by
  have hb := hid (Box.new w (pxc a n) 40)
  have hx := (Ext.refl w).alloc (.cells (pxc a n).toArray 40)
  have h17 := hb.out.one 17 (pxc_bits hk n)
  have hagg : Hid (aggOf Try.prog 38 (adc a).length = true) := by rw [adc_length hk]; exact Try.agg38
  have hall := hid (lt_append (adb_lt hk) (show ∀ x ∈ [b8 n], x < 256 by intro x hx; simp at hx; subst hx; exact b8_lt n))
  have hal := adb_len hk
  have Hs := hid hs
  clear hs
  go_enter Try.func21, Try.ntmps21
  go_wp2_with fail
  refine wp_region_lin (by kernel_rfl) [none, none, none, none, none, none, none, none, some 3, none, none] [Is (.int .u64 s), Is (.pointer (some ⟨w.heap.size, 0, none⟩)), Is (.agg (adc a).toArray), IsOwn _ (adb a), Is (.pointer (some ⟨w.heap.size, 17, none⟩)), Is (.int .i64 n), Is (.int .u8 (b8 n : Nat)), IsOwn _ ([b8 n]), IsOwn _ (adb a ++ [b8 n]), Is (.int .u64 (hsum s (adb a ++ [b8 n]) : Nat)), Is (.int .u64 (hsum s (adb a ++ [b8 n]) : Nat))]
    ⟨keepL_is _, keepL_is _, keepL_is _, keepL_own _, keepL_is _, keepL_is _, keepL_is _, keepL_own _, keepL_own _, keepL_is _, keepL_is _, trivial⟩ (by kernel_rfl) ?_ ⟨?_, ?_, ?_, ?_, ?_, ?_, ?_, ?_, ?_, ?_, ?_, trivial⟩
  · intro W hE
    simp only [behind, Act.put, leftL, eaten, List.mapIdx_cons, List.mapIdx_nil, List.any_cons, List.any_nil, List.map_cons, List.map_nil, List.setIfInBounds_toArray, List.set_cons_succ, List.set_cons_zero]
    simp only [Nat.reduceAdd, Nat.reduceBEq, Option.some_beq_some, Option.none_beq_some, Bool.or_false, Bool.false_or, Bool.or_true, Bool.true_or, gone_true, gone_false, Is, forall_eq, true_implies]
    intro v1 v2 _ v3 _
    go_wp2
    go_ret
    exact ⟨rfl, hx.trans ((Ext.refl _).drew.trans hE)⟩
  all_goals intro ρ W hE hout ha; try simp [aheadL, eaten, eatOf, factAt, valAt, Region.binds, Is, IsSl, IsNew, IsSls, IsOwn] at ha
  all_goals have hBW := hE.size
  all_goals have h17W := (((Ext.refl _).drew).trans hE).keep h17
  all_goals try (refine lin_is rfl (Does.of_run rfl (w' := W) ?_ ⟨Ext.refl _, rfl⟩); simp [execOp, Act.eval, hout, dstsOf, List.dropLast, ha, go_sem, h17W, b8_cast]; done)
  · exact lin_is rfl (Does.load_agg rfl rfl 38 _ rfl (by simpa [Act.eval] using ha) hagg.out ((hb.out.mono ((Ext.refl _).drew.trans hE)).part 0 17 (adc a) (pxc_addr hk n)))
  · exact lin_call rfl rfl hBW (by simp [execOp, Act.eval, hout, dstsOf, ha, go_sem]) (refBytes_any W a hk)
  · exact lin_fresh hBW (does_one rfl rfl _ rfl (by simpa [Act.eval] using ha))
  · exact lin_app rfl rfl _ _ rfl rfl rfl (by simpa [Act.eval] using ha.1) (by simpa [Act.eval] using ha.2.1.sl) (by simp; omega) hBW
  · refine lin_is rfl (Does.of_call rfl (by simp [execOp, Act.eval, hout, dstsOf, ha, go_sem]) ((refHsum_any W s _ (adb a ++ [b8 n]) Hs.out ha.2.sl hall.out).mono ?_))
    rintro e w' ⟨rfl, rfl⟩
    exact ⟨_, rfl, Ext.refl _, rfl⟩

set_option maxHeartbeats 400000 in
theorem hashClients_walk (w : World) (s : Nat) (v : Value) (hs : s < 18446744073709551616) (hv : ∃ (a : Ad) (n : Int), v = .agg (pxc a n).toArray ∧ a.ok) :
    Calls Try.prog 7 #[.int .u64 s, v] w fun e w' => e = .returned (.bool true) ∧ Ext w w' := by
  obtain ⟨a, n, rfl, hk⟩ := hv
  have hb := hid (Box.new w (pxc a n) 40)
  have hx := (Ext.refl w).alloc (.cells (pxc a n).toArray 40)
  have hagg : Hid (aggOf Try.prog 40 (pxc a n).length = true) := by rw [pxc_length hk]; exact Try.agg40
  have Hs := hid hs
  clear hs
  go_enter Try.func7, Try.ntmps7
  go_wp2_with fail
  refine wp_region_rel (by kernel_rfl) Ext Ext.refl (fun _ _ _ h k => h.trans k) [Is (.int .u64 s), Is (.agg (pxc a n).toArray), Is (.int .u64 (hsum s (adb a ++ [b8 n]) : Nat)), Is (.int .u64 s), Is (.agg (pxc a n).toArray), Is (.int .u64 (hsum s (adb a ++ [b8 n]) : Nat)), Is (.bool true), Is (.bool true), Is (.bool true), Is (.bool true), Is (.bool true)]
    ⟨keep_is _, keep_is _, keep_is _, keep_is _, keep_is _, keep_is _, keep_is _, keep_is _, keep_is _, keep_is _, keep_is _, trivial⟩ (by kernel_rfl) ?_ ⟨?_, ?_, ?_, ?_, ?_, ?_, ?_, ?_, ?_, ?_, ?_, trivial⟩
  · intro W hE
    simp only [behind, Act.put, Is, List.map_cons, List.map_nil, forall_eq, List.setIfInBounds_toArray, List.set_cons_succ, List.set_cons_zero, List.dropLast_cons_cons, List.dropLast_singleton]
    go_wp2
    go_ret
    exact ⟨rfl, hx.trans ((Ext.refl _).drew.trans hE)⟩
  all_goals intro ρ W hE hout ha; try simp [ahead, factAt, valAt, Region.binds, Is, IsSl, IsNew, IsSls] at ha
  all_goals try (refine Does.of_run rfl (w' := W) ?_ ⟨Ext.refl _, rfl⟩; simp [execOp, Act.eval, hout, dstsOf, List.dropLast, ha, go_sem]; done)
  · exact Does.load_agg rfl rfl 40 _ rfl (by simp [Act.eval, hout, dstsOf]) hagg.out (hb.out.mono ((Ext.refl _).drew.trans hE)).all
  · refine Does.of_call rfl (by simp [execOp, Act.eval, hout, dstsOf, ha, go_sem]) ((client_any W s a n hk Hs.out).mono ?_)
    rintro e w' ⟨rfl, hx'⟩
    exact ⟨_, rfl, hx', rfl⟩
  · exact Does.load_agg rfl rfl 40 _ rfl (by simp [Act.eval, hout, dstsOf]) hagg.out (hb.out.mono ((Ext.refl _).drew.trans hE)).all
  · refine Does.of_call rfl (by simp [execOp, Act.eval, hout, dstsOf, ha, go_sem]) ((refClient_any W s a n hk Hs.out).mono ?_)
    rintro e w' ⟨rfl, hx'⟩
    exact ⟨_, rfl, hx', rfl⟩
  · refine Does.of_call' (wanted_yes rfl rfl (by simpa using ha)) (by simp [execOp, Act.eval, hout, dstsOf, ha, go_sem]) ((hashLives_any W).mono ?_)
    rintro e w' ⟨rfl, hx'⟩
    exact ⟨_, rfl, hx', rfl⟩

end Go.Proofs.Ytopcecgkbmdmeaa
