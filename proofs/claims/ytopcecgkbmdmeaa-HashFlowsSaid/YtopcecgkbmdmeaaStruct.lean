/- Structs in memory: a block that holds known cells, a part of it loaded; addresses, prefixes, flows as values. -/
import Derived.Test.YtopcecgkbmdmeaaNum
import Derived.Test.YtopcecgkbmdmeaaJoins
import Derived.Test.YtopcecgkbmdmeaaAd
import Derived.Test.YtopcecgkbmdmeaaHash
namespace Go.Proofs.Ytopcecgkbmdmeaa
open Go.RowKit
set_option linter.unusedSimpArgs false
set_option linter.unusedVariables false

/-- A struct's or an array's type of n cells. -/
def aggOf (P : Program) (t : TypeId) (n : Nat) : Bool := (match P.underlying t with | some (.struct _) | some (.array _ _) => true | _ => false) && ((P.info? t).map (·.size) == some n)

theorem run_load_agg {P : Program} {w : World} {t : TypeId} {g o : Nat} {L : List Value} (h : aggOf P t L.length = true) (hc : ∀ i, i < L.length → w.cell? ⟨g, o + i, none⟩ = L[i]?) :
    (Instr.loadAt t (.pointer (some ⟨g, o, none⟩))).run P w = .ok (.agg L.toArray) w := by
  simp only [aggOf, Bool.and_eq_true, beq_iff_eq] at h
  obtain ⟨h1, h2⟩ := h
  have hl : (loadCells ⟨g, o, none⟩ L.length).run P w = .ok L.toArray w :=
    run_loadCells_list (P := P) w ⟨g, o, none⟩ L (fun j v hv => by
      have hadd : (⟨g, o, none⟩ : Addr).add j = ⟨g, o + j, none⟩ := by unfold Addr.add; split <;> simp_all
      rw [hadd, hc j (List.getElem?_eq_some_iff.1 hv).1]
      exact hv)
  cases hq : P.info? t with
  | none => rw [hq] at h2; cases h2
  | some i =>
    rw [hq] at h2
    have hs : i.size = L.length := by simpa using h2
    have hagg : (isAgg t).run P w = .ok true w := by
      cases hu : P.underlying t with
      | none => rw [hu] at h1; cases h1
      | some d =>
        rw [hu] at h1
        unfold isAgg
        rw [Sem.run_bind, run_underlying hu w]
        cases d <;> simp_all
    simp [Instr.loadAt, Instr.sureAddr, loadVar, Sem.run_bind, hagg, sizeOf, typeInfo, hq, hs, hl]

theorem wpList_load_agg {P : Program} {ops : Array Oper} {rest : List Oper} {o : Oper} {a : Act} {w : World} {Q : Exit → Act → World → Prop} (hgd : o.guard = none) (t : TypeId) (x : Operand) (ho : o.op = .load t x)
    {g off : Nat} {L : List Value} (hx : a.eval x = .pointer (some ⟨g, off, none⟩)) (h : aggOf P t L.length = true) (hc : ∀ i, i < L.length → w.cell? ⟨g, off + i, none⟩ = L[i]?)
    (hk : wpList P ops Q rest (a.put o.dst (.agg L.toArray)) w) : wpList P ops Q (o :: rest) a w :=
  wpList_plain hgd fun _ hK => by
    unfold Oper.wp execOp
    simp only [ho, hx, Sem.run_bind, run_load_agg h hc, Result.andThen_ok, Sem.run_pure]
    exact hK _ _ hk

theorem Does.load_agg {P : Program} {ops : Array Oper} {o : Oper} {ρ : Act} {w : World} {d : Tmp} (hg : o.guard = none) (hd : o.dst = some d) (t : TypeId) (x : Operand) (ho : o.op = .load t x)
    {g off : Nat} {L : List Value} (hx : ρ.eval x = .pointer (some ⟨g, off, none⟩)) (h : aggOf P t L.length = true) (hc : ∀ i, i < L.length → w.cell? ⟨g, off + i, none⟩ = L[i]?) :
    Does P ops o ρ w fun v w' => Ext w w' ∧ Is (.agg L.toArray) (hit o.dst v) w' := by
  refine Does.of_run hg (w' := w) (v := .agg L.toArray) ?_ ⟨Ext.refl _, by rw [hd]; rfl⟩
  unfold execOp
  simp only [ho, hx, Sem.run_bind, run_load_agg h hc, Result.andThen_ok, Sem.run_pure]

/-- A block that holds L. -/
def Box (w : World) (g : Nat) (L : List Value) : Prop := ∀ i, i < L.length → w.cell? ⟨g, i, none⟩ = L[i]?

theorem Box.new (w : World) (L : List Value) (T : TypeId) : Box (w.alloc (.cells L.toArray T)) w.heap.size L := fun i hi => by
  rw [World.cell?_alloc_new]; simp
theorem Box.mono {w w' : World} {g : Nat} {L : List Value} (h : Box w g L) (hx : Ext w w') : Box w' g L := fun i hi => by
  have h1 := h i hi
  rw [List.getElem?_eq_getElem hi] at h1 ⊢
  exact hx.keep h1
theorem Box.part {w : World} {g : Nat} {L : List Value} (h : Box w g L) (k n : Nat) (M : List Value) (hM : (L.drop k).take n = M) : ∀ i, i < M.length → w.cell? ⟨g, k + i, none⟩ = M[i]? := fun i hi => by
  subst hM
  have h2 : i < n ∧ k + i < L.length := by simp at hi; omega
  rw [h (k + i) h2.2, List.getElem?_take, if_pos h2.1, List.getElem?_drop]
theorem Box.all {w : World} {g : Nat} {L : List Value} (h : Box w g L) : ∀ i, i < L.length → w.cell? ⟨g, 0 + i, none⟩ = L[i]? := fun i hi => by
  rw [Nat.zero_add]; exact h i hi
theorem Box.one {w : World} {g : Nat} {L : List Value} (h : Box w g L) (k : Nat) {v : Value} (hv : L[k]? = some v) : w.cell? ⟨g, k, none⟩ = some v := by
  rw [h k (List.getElem?_eq_some_iff.1 hv).1, hv]

theorem sl_of_box {w : World} {g : Nat} {L : List Value} {l : List Nat} (hb : Box w g L) (k n c : Nat) (hL : (L.drop k).take n = bvs l) (hn : l.length = n) (hc : n ≤ c) (hcm : c ≤ maxLen) : Sl w (.slice (some ⟨g, k, none⟩) n c) l := by
  subst hn
  refine .inr ⟨g, k, c, rfl, hc, hcm, fun i hi => ?_⟩
  have := hb.part k l.length (bvs l) hL i (by rw [bvs_length]; exact hi)
  rw [this, bvs_get hi]

set_option maxHeartbeats 400000 in
theorem raw_any (w : World) (a : Ad) (ha : a.ok) :
    Calls Try.prog 40 #[.agg (adc a).toArray] w fun e w' => ∃ q n c, e = .returned (.slice q n c) ∧ Sl w' (.slice q n c) (adb a) ∧ Ext w w' := by
  have hb := Box.new w (adc a) 38
  have hbh := hid hb
  have h0 : (w.alloc (.cells (adc a).toArray 38)).cell? ⟨w.heap.size, 0, none⟩ = some (.bool a.six) := hb.one 0 rfl
  clear hb
  have hx := (Ext.refl w).alloc (.cells (adc a).toArray 38)
  cases hs : a.six with
  | true =>
    rw [hs] at h0
    have e : adb a = a.b := by simp [adb, hs]
    rw [e]
    go_enter Try.func40, Try.ntmps40
    go_wp2
    go_ret
    exact ⟨_, _, _, rfl, sl_of_box hbh.out 1 16 16 (by simp [adc, List.take_of_length_le, bvs_length, ha.len]) ha.len (Nat.le_refl _) (by unfold maxLen; omega), hx⟩
  | false =>
    rw [hs] at h0
    have e : adb a = a.b.drop 12 := by simp [adb, hs]
    rw [e]
    go_enter Try.func40, Try.ntmps40
    go_wp2
    go_ret
    refine ⟨_, _, _, rfl, sl_of_box hbh.out 13 4 4 ?_ (by simp [ha.len]) (Nat.le_refl _) (by unfold maxLen; omega), hx⟩
    simp [adc, bvs, List.take_of_length_le, ha.len]

theorem Try.agg38 : aggOf Try.prog 38 17 = true := by kernel_rfl

set_option maxHeartbeats 400000 in
theorem addrBytes_any (w : World) (a : Ad) (ha : a.ok) :
    Calls Try.prog 36 #[.agg (adc a).toArray] w (RetB w (adb a)) := by
  have hb := hid (Box.new w (adc a) 38)
  have hx := (Ext.refl w).alloc (.cells (adc a).toArray 38)
  have hagg : Hid (aggOf Try.prog 38 (adc a).length = true) := by rw [adc_length ha]; exact Try.agg38
  go_enter Try.func36, Try.ntmps36
  go_wp2_with (first
    | (refine wpList_load_agg rfl 38 (.tmp 1) rfl rfl hagg.out hb.out.all ?_)
    | fail)
  refine (raw_any _ a ha).mono ?_
  rintro e w1 ⟨q, n, c, rfl, hs, hx1⟩
  go_wp2_with fail
  refine (bytes_any _ _ [adb a] (sls_one _ _ rfl hs) (by have := adb_len ha; simp; omega)).mono ?_
  rintro e w2 hr; obtain ⟨a2, n2, q2, rfl, hn2, ho2, hx2⟩ := hr.shape
  clear hr
  go_wp2_with fail
  go_ret
  have hx3 := (hx.trans hx1).alloc (.cells #[.slice q n c] 23)
  refine ⟨_, rfl, ?_, hx3.trans hx2⟩
  have := ho2.base (B' := w.heap.size) hx3.size
  simpa using this

set_option maxHeartbeats 400000 in
theorem from_any (w : World) (a : Ad) (ha : a.ok) :
    Calls Try.prog 41 #[.agg (adc a).toArray] w fun e w' => e = .returned (.int .i64 (if a.six then 0 else 12)) ∧ Ext w w' := by
  have h0 : (w.alloc (.cells (adc a).toArray 38)).cell? ⟨w.heap.size, 0, none⟩ = some (.bool a.six) := (Box.new w (adc a) 38).one 0 rfl
  have hx := (Ext.refl w).alloc (.cells (adc a).toArray 38)
  cases hs : a.six with
  | true =>
    rw [hs] at h0
    go_enter Try.func41, Try.ntmps41
    go_wp2
    go_ret
    exact ⟨rfl, hx⟩
  | false =>
    rw [hs] at h0
    go_enter Try.func41, Try.ntmps41
    go_wp2
    go_ret
    exact ⟨rfl, hx⟩

set_option maxHeartbeats 400000 in
theorem refBytes_any (w : World) (a : Ad) (ha : a.ok) :
    Calls Try.prog 37 #[.agg (adc a).toArray] w (RetB w (adb a)) := by
  have hb := hid (Box.new w (adc a) 38)
  have hx := (Ext.refl w).alloc (.cells (adc a).toArray 38)
  have hagg : Hid (aggOf Try.prog 38 (adc a).length = true) := by rw [adc_length ha]; exact Try.agg38
  have hb1 := hid (hb.out.mono ((Ext.refl _).alloc (.cells #[] 5)))
  have h0 := hid (own_at (w.alloc (.cells (adc a).toArray 38)) w.heap.size (g := w.heap.size + 1) (n := 0) [] #[] (by simp) rfl rfl (by simp) (by decide))
  go_enter Try.func37, Try.ntmps37
  go_wp2_with (first
    | (refine wpList_load_agg rfl 38 (.tmp 1) rfl rfl hagg.out hb1.out.all ?_)
    | fail)
  refine (from_any _ a ha).mono ?_
  rintro e w1 ⟨rfl, hx1⟩
  have hb2 := hb1.out.mono hx1
  have hx3 := (hx.alloc (.cells #[] 5)).trans hx1
  have ho := h0.out.mono hx1
  have hsl : Sl w1 (if a.six then .slice (some ⟨w.heap.size, 1, none⟩) 16 16 else .slice (some ⟨w.heap.size, 13, none⟩) 4 4) (adb a) := by
    cases hs : a.six with
    | true =>
      have e : adb a = a.b := by simp [adb, hs]
      rw [e]
      exact sl_of_box hb2 1 16 16 (by simp [adc, List.take_of_length_le, bvs_length, ha.len]) ha.len (Nat.le_refl _) (by unfold maxLen; omega)
    | false =>
      have e : adb a = a.b.drop 12 := by simp [adb, hs]
      rw [e]
      refine sl_of_box hb2 13 4 4 ?_ (by simp [ha.len]) (Nat.le_refl _) (by unfold maxLen; omega)
      simp [adc, bvs, List.take_of_length_le, ha.len]
  have hal := adb_len ha
  generalize adb a = p at *
  clear hb hb1 hb2 hagg h0 hx hx1
  cases hs : a.six with
  | true =>
    simp only [hs, if_true] at hsl ⊢
    go_wp2_with (first
      | (at_builtin; go_must (refine appB _ rfl _ _ rfl w.heap.size ho rfl hsl rfl (by simp; omega) hx3.size fun a2 n2 q2 w2 hn2 ho2 hg => ?_))
      | fail)
    go_ret
    exact ⟨_, rfl, ho2, Own.ext ho hx3 (Nat.le_refl _) hg⟩
  | false =>
    simp only [hs, Bool.false_eq_true, if_false] at hsl ⊢
    go_wp2_with (first
      | (at_builtin; go_must (refine appB _ rfl _ _ rfl w.heap.size ho rfl hsl rfl (by simp; omega) hx3.size fun a2 n2 q2 w2 hn2 ho2 hg => ?_))
      | fail)
    go_ret
    exact ⟨_, rfl, ho2, Own.ext ho hx3 (Nat.le_refl _) hg⟩

end Go.Proofs.Ytopcecgkbmdmeaa
