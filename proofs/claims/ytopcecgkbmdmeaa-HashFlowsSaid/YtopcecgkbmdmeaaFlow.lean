/- Layer 18 (hash): a flow's number. -/
import Derived.Test.YtopcecgkbmdmeaaLins
namespace Go.Proofs.Ytopcecgkbmdmeaa
open Go.RowKit
set_option linter.unusedSimpArgs false
set_option linter.unusedVariables false

theorem does_copy {P : Program} {ops : Array Oper} {o : Oper} {ρ : Act} {w : World} {d t : Tmp} {l : List Nat} (hg : o.guard = none) (hd : o.dst = some d) (ho : o.op = .assign (.tmp t)) (h : Sl w (ρ.tmps.getD t undef) l) :
    Does P ops o ρ w fun v w' => Ext w w' ∧ IsSl l (hit o.dst v) w' := by
  refine Does.of_run hg (w' := w) (v := ρ.tmps.getD t undef) ?_ ⟨Ext.refl _, by rw [hd]; exact h⟩
  unfold execOp
  simp only [ho]
  rfl

theorem does_sls4 {ops : Array Oper} {o : Oper} {ρ : Act} {w : World} {d : Tmp} (hg : o.guard = none) (hd : o.dst = some d) (x y z u : Operand) (ho : o.op = .buildSlice 33 4 #[(0, x), (1, y), (2, z), (3, u)]) {l k m n : List Nat}
    (h1 : Sl w (ρ.eval x) l) (h2 : Sl w (ρ.eval y) k) (h3 : Sl w (ρ.eval z) m) (h4 : Sl w (ρ.eval u) n) :
    Does Try.prog ops o ρ w fun v w' => Ext w w' ∧ IsSls [l, k, m, n] (hit o.dst v) w' := by
  obtain ⟨a1, c1, hx, _⟩ := h1.rd
  obtain ⟨a2, c2, hy, _⟩ := h2.rd
  obtain ⟨a3, c3, hz, _⟩ := h3.rd
  obtain ⟨a4, c4, hu, _⟩ := h4.rd
  rw [hx] at h1
  rw [hy] at h2
  rw [hz] at h3
  rw [hu] at h4
  refine Does.of_run hg (w' := w.alloc (.cells #[.slice a1 l.length c1, .slice a2 k.length c2, .slice a3 m.length c3, .slice a4 n.length c4] 23)) (v := .slice (some ⟨w.heap.size, 0, none⟩) 4 4) ?_ ⟨(Ext.refl _).alloc _, ?_⟩
  · unfold execOp
    simp only [ho, List.map_toArray, List.map_cons, List.map_nil, hx, hy, hz, hu]
    simp [go_sem]
  · rw [hd]
    refine sls_new w _ _ [l, k, m, n] 4 rfl (by unfold maxLen; omega) fun i hi => ?_
    rcases (show i = 0 ∨ i = 1 ∨ i = 2 ∨ i = 3 by omega) with rfl | rfl | rfl | rfl
    · exact ⟨_, rfl, h1⟩
    · exact ⟨_, rfl, h2⟩
    · exact ⟨_, rfl, h3⟩
    · exact ⟨_, rfl, h4⟩

theorem lin_old' {P : Program} {ops : Array Oper} {eats : List (Option Nat)} {B i : Nat} {o : Oper} {ρ : Act} {w : World} {c : Value} (hc : ∀ g, c.ownBlock = some g → g < B) (hne : eaten eats i = false) (hB : B ≤ w.heap.size) (h : Does P ops o ρ w fun v w' => Ext w w' ∧ Is c (hit o.dst v) w') :
    Does P ops o ρ w fun v w' => w.grownBy w' (rowOf ops eats ρ.tmps i) ∧ Is c (hit o.dst v) w' ∧ BlkOk ops eats B ρ.tmps o i w w' (hit o.dst v) :=
  h.mono fun v w' ⟨hx, hv⟩ => ⟨hx.grown _, hv, fun g' hg' => by
    rw [show hit o.dst v = c from hv] at hg'
    have := hc g' hg'
    exact ⟨by have := hx.size; omega, .inr (.inl ⟨hne, this⟩)⟩⟩

theorem Try.agg61 : aggOf Try.prog 61 37 = true := by kernel_rfl

/-- What is summed of a flow. -/
def flb (s d : Ad) (sp dp pr : Nat) : List Nat := adb s ++ (adb d ++ (be sp 2 ++ be dp 2 ++ [pr]))
theorem flb_eq (s d : Ad) (sp dp pr : Nat) : flb s d sp dp pr = adb s ++ adb d ++ be sp 2 ++ be dp 2 ++ [pr] := by simp [flb]
theorem flb_lt {s d : Ad} (h : s.ok) (k : d.ok) (sp dp : Nat) {pr : Nat} (hp : pr < 256) : ∀ x ∈ flb s d sp dp pr, x < 256 :=
  lt_append (adb_lt h) (lt_append (adb_lt k) (lt_append (lt_append (be_lt _ _) (be_lt _ _)) (by intro x hx; simp at hx; omega)))

set_option maxHeartbeats 1000000 in
theorem flow_any (w : World) (n : Nat) (s d : Ad) (sp dp pr : Nat) (hk : s.ok) (hd : d.ok) (hsp : sp < 65536) (hdp : dp < 65536) (hpr : pr < 256) (hn : n < 18446744073709551616) :
    Calls Try.prog 29 #[.int .u64 n, .agg (flc s d sp dp pr).toArray] w fun e w' => e = .returned (.int .u64 (hsum n (flb s d sp dp pr) : Nat)) ∧ Ext w w' := by
  have hb := hid (Box.new w (flc s d sp dp pr) 61)
  have hx := (Ext.refl w).alloc (.cells (flc s d sp dp pr).toArray 61)
  have h34 := hb.out.one 34 (flc_at hk hd sp dp pr 0)
  have h35 := hb.out.one 35 (flc_at hk hd sp dp pr 1)
  have h36 := hb.out.one 36 (flc_at hk hd sp dp pr 2)
  have hags : Hid (aggOf Try.prog 38 (adc s).length = true) := by rw [adc_length hk]; exact Try.agg38
  have hagd : Hid (aggOf Try.prog 38 (adc d).length = true) := by rw [adc_length hd]; exact Try.agg38
  have Hn := hid hn
  clear hn
  have hw1 : IntKind.u64.wrap (sp : Int) = (sp : Int) := by rw [IntKind.wrap_u64]; omega
  have hw2 : IntKind.u64.wrap (dp : Int) = (dp : Int) := by rw [IntKind.wrap_u64]; omega
  have hls := hid (flb_lt hk hd sp dp hpr)
  go_enter Try.func29, Try.ntmps29
  go_wp2_with fail
  refine wp_region_rel (by kernel_rfl) Ext Ext.refl (fun _ _ _ h k => h.trans k) [Is (.pointer (some ⟨w.heap.size, 34, none⟩)), Is (.int .u16 sp), Is (.int .u64 sp), IsSl (be sp 2), Is (.pointer (some ⟨w.heap.size, 35, none⟩)), Is (.int .u16 dp), Is (.int .u64 dp), IsSl (be sp 2 ++ be dp 2), IsSl (be sp 2 ++ be dp 2)]
    ⟨keep_is _, keep_is _, keep_is _, keep_sl _, keep_is _, keep_is _, keep_is _, keep_sl _, keep_sl _, trivial⟩ (by kernel_rfl) ?_ ⟨?_, ?_, ?_, ?_, ?_, ?_, ?_, ?_, ?_, trivial⟩
  · intro W hE
    simp only [behind, Act.put, Is, List.map_cons, List.map_nil, forall_eq, List.setIfInBounds_toArray, List.set_cons_succ, List.set_cons_zero, List.dropLast_cons_cons, List.dropLast_singleton]
    intro v1 _ v2 _ v3 h3
    have h3' := hid h3
    clear h3
    have hbW := hid (hb.out.mono ((Ext.refl _).drew.trans hE))
    have hxW := hid (hx.trans ((Ext.refl _).drew.trans hE))
    have k36 := (((Ext.refl _).drew.trans hE)).keep h36
    clear h34 h35 h36 hE hb hx hw1 hw2
    go_wp2_with fail
    refine wp_region_rel (by kernel_rfl) Ext Ext.refl (fun _ _ _ h k => h.trans k) [Is (.int .u64 n), Is (.pointer (some ⟨w.heap.size, 0, none⟩)), Is (.agg (adc s).toArray), IsSl (adb s), Is (.pointer (some ⟨w.heap.size, 17, none⟩)), Is (.agg (adc d).toArray), IsSl (adb d), Is (v3), Is (.pointer (some ⟨w.heap.size, 36, none⟩)), Is (.int .u8 pr), IsSl ([pr]), IsSls ([adb s, adb d, be sp 2 ++ be dp 2, [pr]]), Is (.int .u64 (hsum n (flb s d sp dp pr) : Nat)), Is (.int .u64 (hsum n (flb s d sp dp pr) : Nat))]
      ⟨keep_is _, keep_is _, keep_is _, keep_sl _, keep_is _, keep_is _, keep_sl _, keep_is _, keep_is _, keep_is _, keep_sl _, keep_sls _, keep_is _, keep_is _, trivial⟩ (by kernel_rfl) ?_ ⟨?_, ?_, ?_, ?_, ?_, ?_, ?_, ?_, ?_, ?_, ?_, ?_, ?_, ?_, trivial⟩
    · intro W hE
      simp only [behind, Act.put, Is, List.map_cons, List.map_nil, forall_eq, List.setIfInBounds_toArray, List.set_cons_succ, List.set_cons_zero, List.dropLast_cons_cons, List.dropLast_singleton]
      intro v17 _ v20 _ v24 _ v25 _
      go_wp2
      go_ret
      exact ⟨rfl, hxW.out.trans ((Ext.refl _).drew.trans hE)⟩
    all_goals intro ρ W hE hout ha; try simp [-List.append_assoc, ahead, factAt, valAt, Region.binds, Is, IsSl, IsNew, IsSls] at ha
    all_goals have k36W := (((Ext.refl _).drew).trans hE).keep k36
    all_goals try (refine Does.of_run rfl (w' := W) ?_ ⟨Ext.refl _, rfl⟩; simp [execOp, Act.eval, hout, dstsOf, List.dropLast, ha, go_sem, k36W]; done)
    · exact Does.load_agg rfl rfl 38 _ rfl (by simpa [Act.eval] using ha) hags.out ((hbW.out.mono ((Ext.refl _).drew.trans hE)).part 0 17 (adc s) (flc_src hk sp dp pr))
    · refine Does.of_call rfl (by simp [execOp, Act.eval, hout, dstsOf, ha, go_sem]) ((addrBytes_any W s hk).mono ?_)
      rintro e w' ⟨v, rfl, h, hx'⟩
      exact ⟨v, rfl, hx', h.sl⟩
    · exact Does.load_agg rfl rfl 38 _ rfl (by simpa [Act.eval] using ha) hagd.out ((hbW.out.mono ((Ext.refl _).drew.trans hE)).part 17 17 (adc d) (flc_dst hk hd sp dp pr))
    · refine Does.of_call rfl (by simp [execOp, Act.eval, hout, dstsOf, ha, go_sem]) ((addrBytes_any W d hd).mono ?_)
      rintro e w' ⟨v, rfl, h, hx'⟩
      exact ⟨v, rfl, hx', h.sl⟩
    · exact (does_one rfl rfl _ rfl (by simpa [Act.eval] using ha)).mono fun v w' ⟨hx, ho⟩ => ⟨hx, ho.sl⟩
    · exact does_sls4 rfl rfl _ _ _ _ rfl (by simpa [Act.eval] using ha.1) (by simpa [Act.eval] using ha.2.1) (by simpa [Act.eval, ha.2.2.1] using h3'.out.mono ((Ext.refl _).drew.trans hE)) (by simpa [Act.eval] using ha.2.2.2)
    · refine Does.of_call rfl (by simp [execOp, Act.eval, hout, dstsOf, ha, go_sem]) ((hsum_call W n _ [adb s, adb d, be sp 2 ++ be dp 2, [pr]] (flb s d sp dp pr) (by simp [flb]) Hn.out ha.2.1 (by intro l hl x hx; refine hls.out x ?_; simp only [List.mem_cons, List.not_mem_nil, or_false] at hl; simp only [flb, List.mem_append]; rcases hl with rfl | rfl | rfl | rfl <;> simp_all)).mono ?_)
      rintro e w' ⟨rfl, rfl⟩
      exact ⟨_, rfl, Ext.refl _, rfl⟩
  all_goals intro ρ W hE hout ha; try simp [-List.append_assoc, ahead, factAt, valAt, Region.binds, Is, IsSl, IsNew, IsSls] at ha
  all_goals have h34W := (((Ext.refl _).drew).trans hE).keep h34
  all_goals have h35W := (((Ext.refl _).drew).trans hE).keep h35
  all_goals try (refine Does.of_run rfl (w' := W) ?_ ⟨Ext.refl _, rfl⟩; simp [execOp, Act.eval, hout, dstsOf, List.dropLast, ha, go_sem, h34W, h35W, hw1, hw2]; done)
  · refine Does.of_call rfl (by simp [execOp, Act.eval, hout, dstsOf, ha, go_sem]) ((put_yes W _ [] sp 2 (Sl.nil _) (by simp) (by simp) (by simp)).mono ?_)
    rintro e w' ⟨v, rfl, h, hx'⟩
    exact ⟨v, rfl, hx', h.sl⟩
  · refine Does.of_call rfl (by simp [execOp, Act.eval, hout, dstsOf, ha, go_sem]) ((put_yes W _ (be sp 2) dp 2 ha.1 (by simp [be_length]) (by simp) (by simp)).mono ?_)
    rintro e w' ⟨v, rfl, h, hx'⟩
    exact ⟨v, rfl, hx', h.sl⟩
  · exact does_copy rfl rfl rfl (by simpa using ha.1)

set_option maxHeartbeats 1000000 in
theorem refFlow_any (w : World) (n : Nat) (s d : Ad) (sp dp pr : Nat) (hk : s.ok) (hd : d.ok) (hsp : sp < 65536) (hdp : dp < 65536) (hpr : pr < 256) (hn : n < 18446744073709551616) :
    Calls Try.prog 30 #[.int .u64 n, .agg (flc s d sp dp pr).toArray] w fun e w' => e = .returned (.int .u64 (hsum n (flb s d sp dp pr) : Nat)) ∧ Ext w w' := by
  have hb := hid (Box.new w (flc s d sp dp pr) 61)
  have hx := (Ext.refl w).alloc (.cells (flc s d sp dp pr).toArray 61)
  have h34 := hb.out.one 34 (flc_at hk hd sp dp pr 0)
  have h35 := hb.out.one 35 (flc_at hk hd sp dp pr 1)
  have h36 := hb.out.one 36 (flc_at hk hd sp dp pr 2)
  have hags : Hid (aggOf Try.prog 38 (adc s).length = true) := by rw [adc_length hk]; exact Try.agg38
  have hagd : Hid (aggOf Try.prog 38 (adc d).length = true) := by rw [adc_length hd]; exact Try.agg38
  have Hn := hid hn
  clear hn
  have hls1 := adb_len hk
  have hls2 := adb_len hd
  have hls := hid (flb_lt hk hd sp dp hpr)
  have hw1 : IntKind.u64.wrap (sp : Int) = (sp : Int) := by rw [IntKind.wrap_u64]; omega
  have hw2 : IntKind.u64.wrap (dp : Int) = (dp : Int) := by rw [IntKind.wrap_u64]; omega
  go_enter Try.func30, Try.ntmps30
  go_wp2_with fail
  refine wp_region_lin (by kernel_rfl) [none, none, none, none, none, none, some 2, none] [Is (.pointer (some ⟨w.heap.size, 0, none⟩)), Is (.agg (adc s).toArray), IsOwn _ (adb s), Is (.pointer (some ⟨w.heap.size, 17, none⟩)), Is (.agg (adc d).toArray), IsOwn _ (adb d), IsOwn _ (adb s ++ adb d), IsOwn _ (adb s ++ adb d)]
    ⟨keepL_is _, keepL_is _, keepL_own _, keepL_is _, keepL_is _, keepL_own _, keepL_own _, keepL_own _, trivial⟩ (by kernel_rfl) ?_ ⟨?_, ?_, ?_, ?_, ?_, ?_, ?_, ?_, trivial⟩
  · intro W hE
    simp only [behind, Act.put, leftL, eaten, List.mapIdx_cons, List.mapIdx_nil, List.any_cons, List.any_nil, List.map_cons, List.map_nil, List.setIfInBounds_toArray, List.set_cons_succ, List.set_cons_zero]
    simp only [Nat.reduceAdd, Nat.reduceBEq, Option.some_beq_some, Option.none_beq_some, Bool.or_false, Bool.false_or, Bool.or_true, Bool.true_or, gone_true, gone_false, Is, forall_eq, true_implies]
    intro v1 v2 _ v3 _ v5 h5
    have h5' := hid h5
    have hW := hid ((Ext.refl _).drew.trans hE)
    have k34 := hW.out.keep h34
    have k35 := hW.out.keep h35
    have k36 := hW.out.keep h36
    clear h34 h35 h36 hE h5
    go_wp2_with fail
    refine wp_region_lin (by kernel_rfl) [none, none, none, none, none, none, none, none, none, none, none, none, none, some 9, none, none] [Is (.int .u64 n), Is (v5), Is (.pointer (some ⟨w.heap.size, 34, none⟩)), Is (.int .u16 sp), Is (.int .u64 sp), IsOwn _ (adb s ++ adb d ++ be sp 2), Is (.pointer (some ⟨w.heap.size, 35, none⟩)), Is (.int .u16 dp), Is (.int .u64 dp), IsOwn _ (adb s ++ adb d ++ be sp 2 ++ be dp 2), Is (.pointer (some ⟨w.heap.size, 36, none⟩)), Is (.int .u8 pr), IsOwn _ ([pr]), IsOwn _ (adb s ++ adb d ++ be sp 2 ++ be dp 2 ++ [pr]), Is (.int .u64 (hsum n (adb s ++ adb d ++ be sp 2 ++ be dp 2 ++ [pr]) : Nat)), Is (.int .u64 (hsum n (adb s ++ adb d ++ be sp 2 ++ be dp 2 ++ [pr]) : Nat))]
      ⟨keepL_is _, keepL_is _, keepL_is _, keepL_is _, keepL_is _, keepL_own _, keepL_is _, keepL_is _, keepL_is _, keepL_own _, keepL_is _, keepL_is _, keepL_own _, keepL_own _, keepL_is _, keepL_is _, trivial⟩ (by kernel_rfl) ?_ ⟨?_, ?_, ?_, ?_, ?_, ?_, ?_, ?_, ?_, ?_, ?_, ?_, ?_, ?_, ?_, ?_, trivial⟩
    · intro W hE
      simp only [behind, Act.put, leftL, eaten, List.mapIdx_cons, List.mapIdx_nil, List.any_cons, List.any_nil, List.map_cons, List.map_nil, List.setIfInBounds_toArray, List.set_cons_succ, List.set_cons_zero]
      simp only [Nat.reduceAdd, Nat.reduceBEq, Option.some_beq_some, Option.none_beq_some, Bool.or_false, Bool.false_or, Bool.or_true, Bool.true_or, gone_true, gone_false, Is, forall_eq, true_implies]
      intro v18 _ v22 v24 _ v26 _
      go_wp2
      go_ret
      exact ⟨by rw [flb_eq]; rfl, hx.trans (hW.out.trans ((Ext.refl _).drew.trans hE))⟩
    all_goals intro ρ W hE hout ha; try simp [-List.append_assoc, aheadL, eaten, eatOf, factAt, valAt, Region.binds, Is, IsSl, IsNew, IsSls, IsOwn] at ha
    all_goals have hBW := hE.size
    all_goals have k34W := (((Ext.refl _).drew).trans hE).keep k34
    all_goals have k35W := (((Ext.refl _).drew).trans hE).keep k35
    all_goals have k36W := (((Ext.refl _).drew).trans hE).keep k36
    all_goals try (refine lin_is rfl (Does.of_run rfl (w' := W) ?_ ⟨Ext.refl _, rfl⟩); simp [execOp, Act.eval, hout, dstsOf, List.dropLast, ha, go_sem, k34W, k35W, k36W, hw1, hw2]; done)
    · refine lin_old' (fun g hg => (h5'.out.lt g hg).2) rfl hBW (Does.of_run rfl (w' := W) ?_ ⟨Ext.refl _, rfl⟩)
      simp [execOp, Act.eval, hout, dstsOf, ha, go_sem]
    · exact lin_call rfl rfl hBW (by simp [execOp, Act.eval, hout, dstsOf, ha, go_sem]) (refPut_any W v5 (adb s ++ adb d) sp 2 (h5'.out.sl.mono ((Ext.refl _).drew.trans hE)) (by simp; omega) (by simp) (by omega))
    · exact lin_call rfl rfl hBW (by simp [execOp, Act.eval, hout, dstsOf, ha, go_sem]) (refPut_any W _ (adb s ++ adb d ++ be sp 2) dp 2 ha.1.sl (by simp [be_length]; omega) (by simp) (by omega))
    · exact lin_fresh hBW (does_one rfl rfl _ rfl (by simpa [Act.eval] using ha))
    · exact lin_app rfl rfl _ _ rfl rfl rfl (by simpa [Act.eval] using ha.1) (by simpa [Act.eval] using ha.2.1.sl) (by simp [be_length]; omega) hBW
    · refine lin_is rfl (Does.of_call rfl (by simp [execOp, Act.eval, hout, dstsOf, ha, go_sem]) ((refHsum_any W n _ (adb s ++ adb d ++ be sp 2 ++ be dp 2 ++ [pr]) Hn.out ha.2.sl (by rw [← flb_eq]; exact hls.out)).mono ?_))
      rintro e w' ⟨rfl, rfl⟩
      exact ⟨_, rfl, Ext.refl _, rfl⟩
  all_goals intro ρ W hE hout ha; try simp [-List.append_assoc, aheadL, eaten, eatOf, factAt, valAt, Region.binds, Is, IsSl, IsNew, IsSls, IsOwn] at ha
  all_goals have hBW := hE.size
  all_goals try (refine lin_is rfl (Does.of_run rfl (w' := W) ?_ ⟨Ext.refl _, rfl⟩); simp [execOp, Act.eval, hout, dstsOf, List.dropLast, ha, go_sem]; done)
  · exact lin_is rfl (Does.load_agg rfl rfl 38 _ rfl (by simpa [Act.eval] using ha) hags.out ((hb.out.mono ((Ext.refl _).drew.trans hE)).part 0 17 (adc s) (flc_src hk sp dp pr)))
  · exact lin_call rfl rfl hBW (by simp [execOp, Act.eval, hout, dstsOf, ha, go_sem]) (refBytes_any W s hk)
  · exact lin_is rfl (Does.load_agg rfl rfl 38 _ rfl (by simpa [Act.eval] using ha) hagd.out ((hb.out.mono ((Ext.refl _).drew.trans hE)).part 17 17 (adc d) (flc_dst hk hd sp dp pr)))
  · exact lin_call rfl rfl hBW (by simp [execOp, Act.eval, hout, dstsOf, ha, go_sem]) (refBytes_any W d hd)
  · exact lin_app rfl rfl _ _ rfl rfl rfl (by simpa [Act.eval] using ha.1) (by simpa [Act.eval] using ha.2.sl) (by omega) hBW
  · exact lin_copy 6 rfl rfl rfl rfl rfl ⟨_, List.mem_cons_self .., rfl, rfl⟩ rfl hBW (by simpa using ha.1)

set_option maxHeartbeats 400000 in
theorem hashFlows_walk (w : World) (n : Nat) (v : Value) (hn : n < 18446744073709551616) (hv : ∃ (s d : Ad) (sp dp pr : Nat), v = .agg (flc s d sp dp pr).toArray ∧ s.ok ∧ d.ok ∧ sp < 65536 ∧ dp < 65536 ∧ pr < 256) :
    Calls Try.prog 11 #[.int .u64 n, v] w fun e w' => e = .returned (.bool true) ∧ Ext w w' := by
  obtain ⟨s, d, sp, dp, pr, rfl, hk, hd, hsp, hdp, hpr⟩ := hv
  have hb := hid (Box.new w (flc s d sp dp pr) 61)
  have hx := (Ext.refl w).alloc (.cells (flc s d sp dp pr).toArray 61)
  have hagg : Hid (aggOf Try.prog 61 (flc s d sp dp pr).length = true) := by rw [flc_length hk hd]; exact Try.agg61
  have Hn := hid hn
  clear hn
  go_enter Try.func11, Try.ntmps11
  go_wp2_with fail
  refine wp_region_rel (by kernel_rfl) Ext Ext.refl (fun _ _ _ h k => h.trans k) [Is (.int .u64 n), Is (.agg (flc s d sp dp pr).toArray), Is (.int .u64 (hsum n (flb s d sp dp pr) : Nat)), Is (.int .u64 n), Is (.agg (flc s d sp dp pr).toArray), Is (.int .u64 (hsum n (flb s d sp dp pr) : Nat)), Is (.bool true), Is (.bool true), Is (.bool true), Is (.bool true), Is (.bool true)]
    ⟨keep_is _, keep_is _, keep_is _, keep_is _, keep_is _, keep_is _, keep_is _, keep_is _, keep_is _, keep_is _, keep_is _, trivial⟩ (by kernel_rfl) ?_ ⟨?_, ?_, ?_, ?_, ?_, ?_, ?_, ?_, ?_, ?_, ?_, trivial⟩
  · intro W hE
    simp only [behind, Act.put, Is, List.map_cons, List.map_nil, forall_eq, List.setIfInBounds_toArray, List.set_cons_succ, List.set_cons_zero, List.dropLast_cons_cons, List.dropLast_singleton]
    go_wp2
    go_ret
    exact ⟨rfl, hx.trans ((Ext.refl _).drew.trans hE)⟩
  all_goals intro ρ W hE hout ha; try simp [-List.append_assoc, ahead, factAt, valAt, Region.binds, Is, IsSl, IsNew, IsSls] at ha
  all_goals try (refine Does.of_run rfl (w' := W) ?_ ⟨Ext.refl _, rfl⟩; simp [execOp, Act.eval, hout, dstsOf, List.dropLast, ha, go_sem]; done)
  · exact Does.load_agg rfl rfl 61 _ rfl (by simp [Act.eval, hout, dstsOf]) hagg.out (hb.out.mono ((Ext.refl _).drew.trans hE)).all
  · refine Does.of_call rfl (by simp [execOp, Act.eval, hout, dstsOf, ha, go_sem]) ((flow_any W n s d sp dp pr hk hd hsp hdp hpr Hn.out).mono ?_)
    rintro e w' ⟨rfl, hx'⟩
    exact ⟨_, rfl, hx', rfl⟩
  · exact Does.load_agg rfl rfl 61 _ rfl (by simp [Act.eval, hout, dstsOf]) hagg.out (hb.out.mono ((Ext.refl _).drew.trans hE)).all
  · refine Does.of_call rfl (by simp [execOp, Act.eval, hout, dstsOf, ha, go_sem]) ((refFlow_any W n s d sp dp pr hk hd hsp hdp hpr Hn.out).mono ?_)
    rintro e w' ⟨rfl, hx'⟩
    exact ⟨_, rfl, hx', rfl⟩
  · refine Does.of_call' (wanted_yes rfl rfl (by simpa using ha)) (by simp [execOp, Act.eval, hout, dstsOf, ha, go_sem]) ((hashLives_any W).mono ?_)
    rintro e w' ⟨rfl, hx'⟩
    exact ⟨_, rfl, hx', rfl⟩

end Go.Proofs.Ytopcecgkbmdmeaa
