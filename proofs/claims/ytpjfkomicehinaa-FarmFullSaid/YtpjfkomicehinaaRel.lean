/- A region that draws its order, whose operations only read what is there and lay new blocks: one obligation an operation serves every order. -/
import Derived.WalkKit
namespace Go.Proofs.Ytpjfkomicehinaa
open Go.RowKit
set_option linter.unusedSimpArgs false
set_option linter.unusedVariables false

/-- What one operation does: whether wanted or not, it leaves a value and a world in R. -/
def Does (P : Program) (ops : Array Oper) (o : Oper) (ρ : Act) (w : World) (R : Value → World → Prop) : Prop :=
  if Region.wanted o (yielded ops ρ.tmps) then
    match (execOp ρ.eval o).run P w with
    | .ok (.value v) w' => R v w'
    | .ok .skip w' => R undef w'
    | .ok (.enter f args) w' => Calls P f args w' fun | .returned v, w'' => R v w'' | _, _ => False
    | .ok (.row row args) w' => Rows P row args w' R
    | _ => False
  else R undef w

theorem Does.mono {P : Program} {ops : Array Oper} {o : Oper} {ρ : Act} {w : World} {R R' : Value → World → Prop} (h : Does P ops o ρ w R) (hr : ∀ v w', R v w' → R' v w') : Does P ops o ρ w R' := by
  unfold Does at *
  split
  · rename_i hw
    simp only [hw, if_true] at h
    generalize (execOp ρ.eval o).run P w = r at h
    cases r with
    | ok n w' =>
      cases n with
      | value v => exact hr _ _ h
      | skip => exact hr _ _ h
      | enter f args =>
        refine Calls.mono h fun e w'' he => ?_
        cases e with
        | returned v => exact hr _ _ he
        | panicked c => exact he.elim
        | outgrown => exact he.elim
      | row row args => exact Rows.mono h hr
      | _ => exact h.elim
    | halt x w' => exact h.elim
  · rename_i hw
    simp only [hw] at h
    exact hr _ _ h

/-- A law of the walk on one operation serves. -/
theorem Does.of_wpList {P : Program} {ops : Array Oper} {o : Oper} {ρ : Act} {w : World} {R : Value → World → Prop} {d : Tmp} (hd : o.dst = some d) (hg : o.guard = none)
    (h : ∀ (ρ' : Act) (Q : Exit → Act → World → Prop), ρ'.eval = ρ.eval → (∀ v' w', R v' w' → Q .normal (ρ'.put o.dst v') w') → wpList P ops Q [o] ρ' w) : Does P ops o ρ w R := by
  let ρ' : Act := { tmps := ρ.tmps ++ Array.replicate (d + 1) undef, defers := ρ.defers }
  have he : ρ'.eval = ρ.eval := by
    funext x
    cases x with
    | tmp t =>
      simp only [Act.eval, ρ', Array.getD_eq_getD_getElem?, Array.getElem?_append]
      split
      · rfl
      · rename_i ht
        rw [Array.getElem?_eq_none (xs := ρ.tmps) (by omega), Array.getElem?_replicate]
        split <;> rfl
    | _ => rfl
  have hlt : d < ρ'.tmps.size := by
    show d < (ρ.tmps ++ Array.replicate (d + 1) undef).size
    rw [Array.size_append, Array.size_replicate]
    exact Nat.lt_of_lt_of_le (Nat.lt_succ_self d) (Nat.le_add_left _ _)
  have hput : ∀ v v', ρ'.put o.dst v = ρ'.put o.dst v' → v = v' := by
    intro v v' e
    rw [hd] at e
    have h1 : (ρ'.put (some d) v).tmps.getD d undef = v := by simp [Act.put, hlt]
    have h2 : (ρ'.put (some d) v').tmps.getD d undef = v' := by simp [Act.put, hlt]
    rw [← h1, e, h2]
  have hw := h ρ' (fun e a' w' => e = .normal ∧ ∃ v', a' = ρ'.put o.dst v' ∧ R v' w') he fun v' w' hr => ⟨rfl, v', rfl, hr⟩
  unfold wpList at hw
  unfold Does
  simp only [Region.wanted, hg, if_true] at hw ⊢
  rcases hw with hw | ⟨_, a, w', hq⟩
  · unfold Oper.wp at hw
    rw [he] at hw
    generalize (execOp ρ.eval o).run P w = r at hw
    cases r with
    | ok n w' =>
      cases n with
      | value v => obtain ⟨_, v', e, hr⟩ := hw; rw [hput _ _ e]; exact hr
      | skip => obtain ⟨_, v', e, hr⟩ := hw; rw [hput _ _ e]; exact hr
      | enter f args =>
        refine Calls.mono hw fun e w'' he => ?_
        cases e with
        | returned v => obtain ⟨_, v', e, hr⟩ := he; simp only; rw [hput _ _ e]; exact hr
        | panicked c => exact absurd he.1 (by simp)
        | outgrown => obtain ⟨_, _, he⟩ := he; exact absurd he.1 (by simp)
      | row row args => exact Rows.mono hw fun v w'' he => by obtain ⟨_, v', e, hr⟩ := he; rw [hput _ _ e]; exact hr
      | defer df => obtain ⟨_, v', e, hr⟩ := hw; exact absurd (congrArg Act.defers e) (by cases hdd : o.dst <;> simp [Act.put, hdd])
      | _ => exact hw.elim
    | halt x w' =>
      cases x with
      | panic v => exact absurd hw.1 (by simp)
      | _ => exact hw.elim
  · exact absurd hq.1 (by simp)

theorem Does.wpOp {P : Program} {ops : Array Oper} {Q : Exit → Act → World → Prop} {K : Act → World → Prop} {R : Value → World → Prop} {i : Nat} {o : Oper} {a : Act} {w : World}
    (hi : ops[i]? = some o) (h : Does P ops o a w R) (hK : ∀ v w', R v w' → K (a.put o.dst v) w') : wpOp P ops Q i K a w := by
  unfold Go.wpOp
  simp only [hi]
  unfold Does at h
  split
  · rename_i hw
    simp only [hw, if_true] at h
    refine .inl ?_
    unfold Oper.wp
    generalize (execOp a.eval o).run P w = r at h
    cases r with
    | ok n w' =>
      cases n with
      | value v => exact hK _ _ h
      | skip => exact hK _ _ h
      | enter f args =>
        refine Calls.mono h fun e w'' he => ?_
        cases e with
        | returned v => exact hK _ _ he
        | panicked c => exact he.elim
        | outgrown => exact he.elim
      | row row args => exact Rows.mono h fun v w'' he => hK _ _ he
      | _ => exact h.elim
    | halt x w' => exact h.elim
  · rename_i hw
    simp only [hw] at h
    exact hK _ _ h

/-- The fact of operation i. -/
def factAt (Fs : List (Value → World → Prop)) (i : Nat) : Value → World → Prop := Fs.getD i fun _ _ => True

/-- The value of operation i in the slots. -/
def valAt (ops : Array Oper) (tmps : Array Value) (i : Nat) : Value :=
  match (ops[i]?).bind (·.dst) with
  | some d => tmps.getD d undef
  | none => undef

def hit (d : Option Tmp) (v : Value) : Value := match d with | some _ => v | none => undef

/-- The facts of what stands ahead of an operation. -/
def ahead (ops : Array Oper) (Fs : List (Value → World → Prop)) (tmps : Array Value) (w : World) : List Edge → Prop
  | [] => True
  | e :: es => (Region.binds .any e = true → factAt Fs e.on (valAt ops tmps e.on) w) ∧ ahead ops Fs tmps w es

def dstsOf (ops : Array Oper) : List Tmp := ops.toList.filterMap (·.dst)

/-- The obligations, one an operation. -/
def allDo (P : Program) (ops : Array Oper) (dsl : List Tmp) (E : World → World → Prop) (Fs : List (Value → World → Prop)) (a0 : Act) (w0 : World) : List Oper → List (Value → World → Prop) → Prop
  | o :: os, F :: fs => (∀ (ρ : Act) (w : World), E w0 w → (∀ t, dsl.contains t = false → ρ.tmps.getD t undef = a0.tmps.getD t undef) → ahead ops Fs ρ.tmps w o.after.toList →
      Does P ops o ρ w fun v w' => E w w' ∧ F (hit o.dst v) w') ∧ allDo P ops dsl E Fs a0 w0 os fs
  | [], [] => True
  | _, _ => False

/-- What stands behind the region: for all values with their facts. -/
def behind (w' : World) (K : Act → Prop) : List (Option Tmp) → List (Value → World → Prop) → Act → Prop
  | d :: ds, F :: fs, a => ∀ v, F v w' → behind w' K ds fs (a.put d v)
  | _, _, a => K a

/-- All facts last. -/
def allKeep (E : World → World → Prop) : List (Value → World → Prop) → Prop
  | [] => True
  | F :: fs => (∀ v w w', E w w' → F v w → F v w') ∧ allKeep E fs

theorem allKeep_mem {E : World → World → Prop} : ∀ {Fs : List (Value → World → Prop)}, allKeep E Fs → ∀ F ∈ Fs, ∀ v w w', E w w' → F v w → F v w'
  | _ :: _, h, G, hG => by
    rcases List.mem_cons.1 hG with rfl | hG
    · exact h.1
    · exact allKeep_mem h.2 G hG

/-- The closed facts on a region: edges go back, slots are apart and there. -/
def relOk (n : Nat) (ops : Array Oper) : Bool :=
  (ops.toList.zipIdx.all fun (o, i) => o.after.toList.all fun e => !Region.binds .any e || decide (e.on < i)) &&
  decide (dstsOf ops).Nodup && (dstsOf ops).all (fun d => decide (d < n))

structure Inv (E : World → World → Prop) (ops : Array Oper) (Fs : List (Value → World → Prop)) (a0 : Act) (w0 : World) (listed : Array Bool) (a : Act) (w : World) : Prop where
  defers : a.defers = a0.defers
  size : a.tmps.size = a0.tmps.size
  out : ∀ t, (dstsOf ops).contains t = false → a.tmps.getD t undef = a0.tmps.getD t undef
  world : E w0 w
  fact : ∀ i, i < ops.size → listed.getD i false = true → factAt Fs i (valAt ops a.tmps i) w

theorem getD_of_allDo {P : Program} {ops : Array Oper} {dsl : List Tmp} {E : World → World → Prop} {Fs : List (Value → World → Prop)} {a0 : Act} {w0 : World} :
    ∀ (os : List Oper) (fs : List (Value → World → Prop)), allDo P ops dsl E Fs a0 w0 os fs → os.length = fs.length ∧ ∀ i o, os[i]? = some o →
      (∀ (ρ : Act) (w : World), E w0 w → (∀ t, dsl.contains t = false → ρ.tmps.getD t undef = a0.tmps.getD t undef) → ahead ops Fs ρ.tmps w o.after.toList →
        Does P ops o ρ w fun v w' => E w w' ∧ factAt fs i (hit o.dst v) w')
  | [], [], _ => ⟨rfl, by simp⟩
  | [], _ :: _, h => h.elim
  | _ :: _, [], h => h.elim
  | o :: os, F :: fs, h => by
    obtain ⟨h0, h1⟩ := h
    have ih := getD_of_allDo os fs h1
    refine ⟨by simp [ih.1], fun i o' hi => ?_⟩
    cases i with
    | zero => simp at hi; subst hi; simpa [factAt] using h0
    | succ i =>
      have := ih.2 i o' (by simpa using hi)
      simpa [factAt] using this

theorem dst_mem {ops : Array Oper} {i : Nat} {o : Oper} {d : Tmp} (ho : ops[i]? = some o) (hd : o.dst = some d) : d ∈ dstsOf ops := by
  unfold dstsOf
  rw [List.mem_filterMap]
  exact ⟨o, by rw [Array.mem_toList_iff]; exact Array.mem_of_getElem? ho, hd⟩

theorem nodup_filterMap_inj {l : List Oper} (h : (l.filterMap (·.dst)).Nodup) : ∀ {i j : Nat} {x y : Oper} {d : Tmp}, l[i]? = some x → l[j]? = some y → x.dst = some d → y.dst = some d → i = j := by
  induction l with
  | nil => intro i j x y d hi; simp at hi
  | cons o l ih =>
    intro i j x y d hi hj hx hy
    cases hod : o.dst with
    | none =>
      rw [List.filterMap_cons_none hod] at h
      cases i with
      | zero => simp at hi; subst hi; exact absurd (hod.symm.trans hx) (by simp)
      | succ i => cases j with
        | zero => simp at hj; subst hj; exact absurd (hod.symm.trans hy) (by simp)
        | succ j => exact congrArg (· + 1) (ih h (by simpa using hi) (by simpa using hj) hx hy)
    | some d' =>
      rw [List.filterMap_cons_some hod, List.nodup_cons] at h
      have mem : ∀ {k : Nat} {z : Oper}, l[k]? = some z → z.dst = some d → d ∈ l.filterMap (·.dst) := fun hk hz => List.mem_filterMap.2 ⟨_, List.mem_of_getElem? hk, hz⟩
      cases i with
      | zero =>
        simp at hi; subst hi
        rw [hod] at hx; cases hx
        cases j with
        | zero => rfl
        | succ j => exact absurd (mem (by simpa using hj) hy) h.1
      | succ i => cases j with
        | zero =>
          simp at hj; subst hj
          rw [hod] at hy; cases hy
          exact absurd (mem (by simpa using hi) hx) h.1
        | succ j => exact congrArg (· + 1) (ih h.2 (by simpa using hi) (by simpa using hj) hx hy)

theorem putAll_behind {w' : World} {K : Act → Prop} : ∀ (ds : List (Option Tmp)) (fs : List (Value → World → Prop)) (a : Act) (vs : List Value), ds.length = fs.length → vs.length = ds.length →
    behind w' K ds fs a → (∀ i, i < ds.length → factAt fs i (vs.getD i undef) w') → K ((ds.zip vs).foldl (fun a dv => a.put dv.1 dv.2) a)
  | [], [], a, [], _, _, h, _ => h
  | d :: ds, F :: fs, a, v :: vs, h1, h2, h, hf => by
    have h0 : F v w' := by simpa [factAt] using hf 0 (by simp)
    simp only [List.zip_cons_cons, List.foldl_cons]
    refine putAll_behind ds fs (a.put d v) vs (by simpa using h1) (by simpa using h2) (h v h0) fun i hi => ?_
    have := hf (i + 1) (by simpa using hi)
    simpa [factAt] using this

theorem put_defers (a : Act) (d : Option Tmp) (v : Value) : (a.put d v).defers = a.defers := by cases d <;> rfl
theorem put_size (a : Act) (d : Option Tmp) (v : Value) : (a.put d v).tmps.size = a.tmps.size := by cases d <;> simp [Act.put]
theorem put_getD_ne (a : Act) (d : Option Tmp) (v : Value) (t : Tmp) (h : d ≠ some t) : (a.put d v).tmps.getD t undef = a.tmps.getD t undef := by
  cases d with
  | none => rfl
  | some d => simp only [Act.put, Array.getD_eq_getD_getElem?]; rw [Array.getElem?_setIfInBounds_ne (by intro e; subst e; exact h rfl)]
theorem put_getD_eq (a : Act) (v : Value) (t : Tmp) (h : t < a.tmps.size) : (a.put (some t) v).tmps.getD t undef = v := by
  simp [Act.put, h]

theorem fold_out : ∀ (l : List (Option Tmp × Value)) (a : Act) (t : Tmp), (∀ x ∈ l, x.1 ≠ some t) → (l.foldl (fun a dv => a.put dv.1 dv.2) a).tmps.getD t undef = a.tmps.getD t undef
  | [], _, _, _ => rfl
  | x :: l, a, t, h => by
    rw [List.foldl_cons, fold_out l _ t (fun y hy => h y (List.mem_cons_of_mem _ hy)), put_getD_ne _ _ _ _ (h x (List.mem_cons_self ..))]

theorem fold_size : ∀ (l : List (Option Tmp × Value)) (a : Act), (l.foldl (fun a dv => a.put dv.1 dv.2) a).tmps.size = a.tmps.size
  | [], _ => rfl
  | x :: l, a => by rw [List.foldl_cons, fold_size l, put_size]
theorem fold_defers : ∀ (l : List (Option Tmp × Value)) (a : Act), (l.foldl (fun a dv => a.put dv.1 dv.2) a).defers = a.defers
  | [], _ => rfl
  | x :: l, a => by rw [List.foldl_cons, fold_defers l, put_defers]

/-- Where all that is put is what b holds, and elsewhere b is a: putting it all gives b. -/
theorem fold_is (b : Act) : ∀ (l : List (Option Tmp × Value)) (a : Act), a.tmps.size = b.tmps.size → a.defers = b.defers → (∀ x ∈ l, ∀ t, x.1 = some t → x.2 = b.tmps.getD t undef) →
    (∀ t, (∀ x ∈ l, x.1 ≠ some t) → a.tmps.getD t undef = b.tmps.getD t undef) → l.foldl (fun a dv => a.put dv.1 dv.2) a = b
  | [], a, hs, hd, _, ho => by
    cases a with
    | mk at_ ad => cases b with
      | mk bt bd =>
        simp only at hs hd
        subst hd
        simp only [List.foldl_nil, Act.mk.injEq, and_true]
        apply Array.ext hs
        intro i h1 h2
        have := ho i (by simp)
        simpa [h1, h2] using this
  | x :: l, a, hs, hd, hx, ho => by
    rw [List.foldl_cons]
    refine fold_is b l _ (by rw [put_size]; exact hs) (by rw [put_defers]; exact hd) (fun y hy => hx y (List.mem_cons_of_mem _ hy)) fun t ht => ?_
    by_cases hxt : x.1 = some t
    · have hv := hx x (List.mem_cons_self ..) t hxt
      rw [hxt]
      by_cases hlt : t < a.tmps.size
      · rw [put_getD_eq _ _ _ hlt, hv]
      · have hge : b.tmps.size ≤ t := by rw [← hs]; exact Nat.le_of_not_lt hlt
        have h1 : (a.put (some t) x.2).tmps.size ≤ t := by rw [put_size, hs]; exact hge
        simp only [Array.getD_eq_getD_getElem?, Array.getElem?_eq_none hge, Array.getElem?_eq_none h1]
    · rw [put_getD_ne _ _ _ _ hxt]
      refine ho t fun y hy => ?_
      rcases List.mem_cons.1 hy with rfl | hy
      · exact hxt
      · exact ht y hy

theorem countP_set_lt {l : List Bool} {i : Nat} (h : l[i]? = some false) : (l.set i true).countP (!·) + 1 = l.countP (!·) := by
  induction l generalizing i with
  | nil => simp at h
  | cons b l ih =>
    cases i with
    | zero => simp at h; subst h; simp
    | succ i =>
      have := ih (by simpa using h)
      simp only [List.set_cons_succ, List.countP_cons]
      omega

theorem wp_region_rel {P : Program} {id : Nat} {ops : Array Oper} {Q : Exit → Act → World → Prop} {a0 : Act} {w : World} (hm : P.follows .mixedOrders = true)
    (E : World → World → Prop) (hrefl : ∀ w, E w w) (htrans : ∀ a b c, E a b → E b c → E a c)
    (Fs : List (Value → World → Prop)) (hF : allKeep E Fs)
    (hok : relOk a0.tmps.size ops = true)
    (hend : ∀ w', E w.drew w' → behind w' (fun a' => Q .normal a' w') (ops.toList.map (·.dst)) Fs a0)
    (hdo : allDo P ops (dstsOf ops) E Fs a0 w.drew ops.toList Fs) : (Code.region id ops true).wp P Q a0 w := by
  simp only [relOk, Bool.and_eq_true, decide_eq_true_eq] at hok
  obtain ⟨⟨hedge, hnd⟩, hlt⟩ := hok
  have hedge' : ∀ (i : Nat) (o : Oper), ops[i]? = some o → ∀ e ∈ o.after, Region.binds .any e = true → e.on < i := by
    intro i o hi e he hb
    rw [List.all_eq_true] at hedge
    have := hedge (o, i) (by
      rw [List.mem_zipIdx_iff_getElem?]
      simpa using hi)
    rw [List.all_eq_true] at this
    have := this e (by simpa using he)
    simpa [hb] using this
  have hlt' : ∀ (i : Nat) (o : Oper) (d : Tmp), ops[i]? = some o → o.dst = some d → d < a0.tmps.size := by
    intro i o d hi hd
    rw [List.all_eq_true] at hlt
    simpa using hlt d (dst_mem hi hd)
  have hinj : ∀ {i j : Nat} {x y : Oper} {d : Tmp}, ops[i]? = some x → ops[j]? = some y → x.dst = some d → y.dst = some d → i = j := by
    intro i j x y d hi hj hx hy
    exact nodup_filterMap_inj (l := ops.toList) hnd (by simpa using hi) (by simpa using hj) hx hy
  obtain ⟨hlen, hdo⟩ := getD_of_allDo _ _ hdo
  have hFi : ∀ i v w w', E w w' → factAt Fs i v w → factAt Fs i v w' := by
    intro i v w w' he hf
    unfold factAt at *
    rw [List.getD_eq_getElem?_getD] at *
    cases hi : Fs[i]? with
    | none => simp
    | some F => rw [hi] at hf; simpa using allKeep_mem hF F (List.mem_of_getElem? hi) v w w' he (by simpa using hf)
  -- the end
  have hQ : ∀ listed a w', listed.size = ops.size → (∀ i, i < ops.size → listed.getD i false = true) → Inv E ops Fs a0 w.drew listed a w' → Q .normal a w' := by
    intro listed a w' _ hall inv
    have hb := hend w' inv.world
    have hb' := putAll_behind (w' := w') _ _ _ (ops.toList.mapIdx fun i _ => valAt ops a.tmps i) (by simpa using hlen) (by simp) hb (by
      intro i hi
      have hi' : i < ops.size := by simpa using hi
      have := inv.fact i hi' (hall i hi')
      simpa [hi'] using this)
    rwa [fold_is a _ a0 inv.size.symm inv.defers.symm] at hb'
    · intro x hx t hxt
      obtain ⟨i, hi⟩ := List.mem_iff_getElem?.1 hx
      rw [List.getElem?_zip_eq_some] at hi
      obtain ⟨h1, h2⟩ := hi
      rw [List.getElem?_map] at h1
      cases ho : ops.toList[i]? with
      | none => rw [ho] at h1; simp at h1
      | some o =>
        rw [ho] at h1
        have ho' : ops[i]? = some o := by simpa using ho
        have hd : o.dst = some t := by
          have : o.dst = x.1 := by simpa using h1
          rw [this]; exact hxt
        rw [List.getElem?_mapIdx, ho] at h2
        have : valAt ops a.tmps i = x.2 := by simpa using h2
        rw [← this]
        unfold valAt
        rw [ho']
        simp only [Option.bind_some, hd]
    · intro t ht
      refine (inv.out t ?_).symm
      cases hc : (dstsOf ops).contains t with
      | false => rfl
      | true =>
        exfalso
        have hmem : t ∈ dstsOf ops := by simpa using hc
        unfold dstsOf at hmem
        rw [List.mem_filterMap] at hmem
        obtain ⟨o, ho, hd⟩ := hmem
        obtain ⟨i, hi⟩ := List.mem_iff_getElem?.1 ho
        refine ht (o.dst, valAt ops a.tmps i) ?_ hd
        rw [List.mem_iff_getElem?]
        refine ⟨i, ?_⟩
        rw [List.getElem?_zip_eq_some]
        constructor
        · rw [List.getElem?_map, hi]; rfl
        · rw [List.getElem?_mapIdx, hi]; rfl
  -- where nothing is ready all is listed
  have hready : ∀ listed : Array Bool, listed.size = ops.size → Region.ready .any ops listed = [] → ∀ i, i < ops.size → listed.getD i false = true := by
    intro listed hsz hr i
    induction i using Nat.strongRecOn with
    | ind i ih =>
      intro hi
      cases hg : listed.getD i false with
      | true => rfl
      | false =>
        exfalso
        have ho : ops[i]? = some ops[i] := Array.getElem?_eq_getElem hi
        have : i ∈ Region.ready .any ops listed := by
          rw [mem_ready]
          refine ⟨?_, ops[i], ho, fun e he hb => ih e.on (hedge' i _ ho e he hb) (by have := hedge' i _ ho e he hb; omega)⟩
          have : i < listed.size := by omega
          simpa [this] using hg
        rw [hr] at this
        cases this
  refine wp_region_any hm ?_
  have main : ∀ fuel (listed : Array Bool) (a : Act) (w' : World), listed.size = ops.size → listed.toList.countP (!·) = fuel → Inv E ops Fs a0 w.drew listed a w' → wpAny P .any ops Q fuel listed a w' := by
    intro fuel
    induction fuel with
    | zero =>
      intro listed a w' hsz hc inv
      have hall : ∀ i, i < ops.size → listed.getD i false = true := by
        intro i hi
        rw [List.countP_eq_zero] at hc
        have hil : i < listed.size := by omega
        have := hc listed[i] (by simp)
        simpa [hil] using this
      refine ⟨?_, hQ listed a w' hsz hall inv⟩
      cases hr : Region.ready .any ops listed with
      | nil => rfl
      | cons j js =>
        exfalso
        have hj : j ∈ Region.ready .any ops listed := by rw [hr]; exact List.mem_cons_self ..
        rw [mem_ready] at hj
        obtain ⟨h0, o, ho, _⟩ := hj
        have hlt : j < ops.size := (Array.getElem?_eq_some_iff.1 ho).1
        have h1 := hall j hlt
        have hjl : j < listed.size := by omega
        simp [hjl] at h0 h1
        rw [h0] at h1; cases h1
    | succ fuel ih =>
      intro listed a w' hsz hc inv
      refine ⟨fun hr => hQ listed a w' hsz (hready listed hsz hr) inv, fun i hi => ?_⟩
      rw [mem_ready] at hi
      obtain ⟨h0, o, ho, hall⟩ := hi
      have hilt : i < ops.size := (Array.getElem?_eq_some_iff.1 ho).1
      have hil : i < listed.size := by omega
      have ha : ahead ops Fs a.tmps w' o.after.toList := by
        have : ∀ es : List Edge, (∀ e ∈ es, e ∈ o.after) → ahead ops Fs a.tmps w' es := by
          intro es
          induction es with
          | nil => intro _; trivial
          | cons e es ihe =>
            intro hes
            refine ⟨fun hb => ?_, ihe fun x hx => hes x (List.mem_cons_of_mem _ hx)⟩
            have he := hes e (List.mem_cons_self ..)
            have := hedge' i o ho e he hb
            exact inv.fact e.on (by omega) (hall e he hb)
        exact this _ fun e he => by simpa using he
      refine Does.wpOp ho (hdo i o (by simpa using ho) a w' inv.world inv.out ha) fun v w'' ⟨hE, hf⟩ => ?_
      refine ih _ _ _ (by simpa using hsz) ?_ ⟨by rw [put_defers]; exact inv.defers, by rw [put_size]; exact inv.size, ?_, htrans _ _ _ inv.world hE, ?_⟩
      · have hfalse : listed.toList[i]? = some false := by
          have h0' : listed[i]? = some false := by
            rw [Array.getElem?_eq_getElem hil]
            simpa [hil] using h0
          simpa using h0'
        have := countP_set_lt hfalse
        rw [Array.toList_setIfInBounds]
        omega
      · intro t ht
        rw [put_getD_ne _ _ _ _ (by
          intro hd
          have := dst_mem ho hd
          simp only [List.contains_eq_mem, decide_eq_false_iff_not] at ht
          exact ht this)]
        exact inv.out t ht
      · intro j hj hlj
        by_cases hij : i = j
        · subst hij
          unfold valAt
          rw [ho]
          simp only [Option.bind_some]
          cases hd : o.dst with
          | none => simpa [hit, hd] using hf
          | some d =>
            simp only
            rw [put_getD_eq _ _ _ (by rw [inv.size]; exact hlt' i o d ho hd)]
            simpa [hit, hd] using hf
        · rw [getD_set_ne false hij] at hlj
          have hold := hFi _ _ _ _ hE (inv.fact j hj hlj)
          have : valAt ops (a.put o.dst v).tmps j = valAt ops a.tmps j := by
            unfold valAt
            have hoj : ops[j]? = some ops[j] := Array.getElem?_eq_getElem hj
            rw [hoj]
            simp only [Option.bind_some]
            cases hd : ops[j].dst with
            | none => rfl
            | some d =>
              simp only
              refine put_getD_ne _ _ _ _ fun he => hij ?_
              exact hinj ho hoj he hd
          rw [this]
          exact hold
  have hdrew : ({ w with drawn := w.drawn + 1 } : World) = w.drew := rfl
  rw [hdrew]
  refine main ops.size _ a0 w.drew (by simp) (by simp [List.countP_replicate]) ⟨rfl, rfl, fun _ _ => rfl, hrefl _, ?_⟩
  intro i _ hli
  simp only [Array.getD_eq_getD_getElem?, Array.getElem?_replicate] at hli
  split at hli <;> simp at hli

/-- The closed facts where the last operation stands behind all others. -/
def tailOk (n : Nat) (ops : Array Oper) (pre : List Oper) (ol : Oper) : Bool :=
  decide (ops.size = pre.length + 1) && (List.range pre.length).all fun j => ol.after.toList.any fun e => Region.binds .any e && decide (e.on = j)

theorem getD_conf {l : Array Bool} {j : Nat} (h1 : l.getD j false = true) (h2 : l.getD j true = false) : False := by
  rw [Array.getD_eq_getD_getElem?] at h1 h2
  cases h : l[j]? with
  | none => rw [h] at h1; cases h1
  | some b => rw [h] at h1 h2; simp only [Option.getD_some] at h1 h2; rw [h1] at h2; cases h2

structure Inv2 (E : World → World → Prop) (ops : Array Oper) (n : Nat) (dsl : List Tmp) (Fs : List (Value → World → Prop)) (a0 : Act) (w0 : World) (listed : Array Bool) (a : Act) (w : World) : Prop where
  defers : a.defers = a0.defers
  size : a.tmps.size = a0.tmps.size
  out : ∀ t, dsl.contains t = false → a.tmps.getD t undef = a0.tmps.getD t undef
  world : E w0 w
  fact : ∀ i, i < n → listed.getD i false = true → factAt Fs i (valAt ops a.tmps i) w

theorem wp_region_tail {P : Program} {id : Nat} {ops : Array Oper} (pre : List Oper) (ol : Oper) (hsplit : ops.toList = pre ++ [ol]) {Q : Exit → Act → World → Prop} {a0 : Act} {w : World} (hm : P.follows .mixedOrders = true)
    (E : World → World → Prop) (hrefl : ∀ w, E w w) (htrans : ∀ a b c, E a b → E b c → E a c)
    (Fs : List (Value → World → Prop)) (hF : allKeep E Fs)
    (hok : relOk a0.tmps.size ops = true) (htail : tailOk a0.tmps.size ops pre ol = true)
    (hend : ∀ w', E w.drew w' → behind w' (fun a' => wpList P ops Q [ol] a' w') (pre.map (·.dst)) Fs a0)
    (hdo : allDo P ops (pre.filterMap (·.dst)) E Fs a0 w.drew pre Fs) : (Code.region id ops true).wp P Q a0 w := by
  simp only [relOk, Bool.and_eq_true, decide_eq_true_eq] at hok
  obtain ⟨⟨hedge, hnd⟩, hlt⟩ := hok
  have hedge' : ∀ (i : Nat) (o : Oper), ops[i]? = some o → ∀ e ∈ o.after, Region.binds .any e = true → e.on < i := by
    intro i o hi e he hb
    rw [List.all_eq_true] at hedge
    have := hedge (o, i) (by
      rw [List.mem_zipIdx_iff_getElem?]
      simpa using hi)
    rw [List.all_eq_true] at this
    have := this e (by simpa using he)
    simpa [hb] using this
  have hlt' : ∀ (i : Nat) (o : Oper) (d : Tmp), ops[i]? = some o → o.dst = some d → d < a0.tmps.size := by
    intro i o d hi hd
    rw [List.all_eq_true] at hlt
    simpa using hlt d (dst_mem hi hd)
  have hinj : ∀ {i j : Nat} {x y : Oper} {d : Tmp}, ops[i]? = some x → ops[j]? = some y → x.dst = some d → y.dst = some d → i = j := by
    intro i j x y d hi hj hx hy
    exact nodup_filterMap_inj (l := ops.toList) hnd (by simpa using hi) (by simpa using hj) hx hy
  obtain ⟨hlen, hdo⟩ := getD_of_allDo _ _ hdo
  simp only [tailOk, Bool.and_eq_true, decide_eq_true_eq] at htail
  obtain ⟨hsize, hlast⟩ := htail
  have hpre : ∀ i, i < pre.length → ops[i]? = pre[i]? := by
    intro i hi
    rw [← Array.getElem?_toList, hsplit, List.getElem?_append_left hi]
  have hol : ops[pre.length]? = some ol := by
    rw [← Array.getElem?_toList, hsplit, List.getElem?_append_right (Nat.le_refl _)]
    simp
  have hlast' : ∀ j, j < pre.length → ∃ e ∈ ol.after, Region.binds .any e = true ∧ e.on = j := by
    intro j hj
    rw [List.all_eq_true] at hlast
    have := hlast j (by simpa using hj)
    rw [List.any_eq_true] at this
    obtain ⟨e, he, h⟩ := this
    simp only [Bool.and_eq_true, decide_eq_true_eq] at h
    exact ⟨e, by simpa using he, h⟩
  have hFi : ∀ i v w w', E w w' → factAt Fs i v w → factAt Fs i v w' := by
    intro i v w w' he hf
    unfold factAt at *
    rw [List.getD_eq_getElem?_getD] at *
    cases hi : Fs[i]? with
    | none => simp
    | some F => rw [hi] at hf; simpa using allKeep_mem hF F (List.mem_of_getElem? hi) v w w' he (by simpa using hf)
  -- the end
  have hQ : ∀ listed a w', listed.size = ops.size → (∀ i, i < pre.length → listed.getD i false = true) → Inv2 E ops pre.length (pre.filterMap (·.dst)) Fs a0 w.drew listed a w' → wpList P ops Q [ol] a w' := by
    intro listed a w' _ hall inv
    have hb := hend w' inv.world
    have hb' := putAll_behind (w' := w') _ _ _ (pre.mapIdx fun i _ => valAt ops a.tmps i) (by simpa using hlen) (by simp) hb (by
      intro i hi
      have hi' : i < pre.length := by simpa using hi
      have := inv.fact i hi' (hall i hi')
      simpa [hi'] using this)
    rwa [fold_is a _ a0 inv.size.symm inv.defers.symm] at hb'
    · intro x hx t hxt
      obtain ⟨i, hi⟩ := List.mem_iff_getElem?.1 hx
      rw [List.getElem?_zip_eq_some] at hi
      obtain ⟨h1, h2⟩ := hi
      rw [List.getElem?_map] at h1
      cases ho : pre[i]? with
      | none => rw [ho] at h1; simp at h1
      | some o =>
        rw [ho] at h1
        have ho' : ops[i]? = some o := by rw [hpre i (List.getElem?_eq_some_iff.1 ho).1]; exact ho
        have hd : o.dst = some t := by
          have : o.dst = x.1 := by simpa using h1
          rw [this]; exact hxt
        rw [List.getElem?_mapIdx, ho] at h2
        have : valAt ops a.tmps i = x.2 := by simpa using h2
        rw [← this]
        unfold valAt
        rw [ho']
        simp only [Option.bind_some, hd]
    · intro t ht
      refine (inv.out t ?_).symm
      cases hc : (pre.filterMap (·.dst)).contains t with
      | false => rfl
      | true =>
        exfalso
        have hmem : t ∈ pre.filterMap (·.dst) := by simpa using hc
        rw [List.mem_filterMap] at hmem
        obtain ⟨o, ho, hd⟩ := hmem
        obtain ⟨i, hi⟩ := List.mem_iff_getElem?.1 ho
        refine ht (o.dst, valAt ops a.tmps i) ?_ hd
        rw [List.mem_iff_getElem?]
        refine ⟨i, ?_⟩
        rw [List.getElem?_zip_eq_some]
        constructor
        · rw [List.getElem?_map, hi]; rfl
        · rw [List.getElem?_mapIdx, hi]; rfl
  -- where nothing is ready all is listed
  have hready : ∀ listed : Array Bool, listed.size = ops.size → Region.ready .any ops listed = [] → ∀ i, i < ops.size → listed.getD i false = true := by
    intro listed hsz hr i
    induction i using Nat.strongRecOn with
    | ind i ih =>
      intro hi
      cases hg : listed.getD i false with
      | true => rfl
      | false =>
        exfalso
        have ho : ops[i]? = some ops[i] := Array.getElem?_eq_getElem hi
        have : i ∈ Region.ready .any ops listed := by
          rw [mem_ready]
          refine ⟨?_, ops[i], ho, fun e he hb => ih e.on (hedge' i _ ho e he hb) (by have := hedge' i _ ho e he hb; omega)⟩
          have : i < listed.size := by omega
          simpa [this] using hg
        rw [hr] at this
        cases this
  refine wp_region_any hm ?_
  have main : ∀ fuel (listed : Array Bool) (a : Act) (w' : World), listed.size = ops.size → listed.toList.countP (!·) = fuel → listed.getD pre.length true = false →
      Inv2 E ops pre.length (pre.filterMap (·.dst)) Fs a0 w.drew listed a w' → wpAny P .any ops Q fuel listed a w' := by
    intro fuel
    induction fuel with
    | zero =>
      intro listed a w' hsz hc hun inv
      exfalso
      rw [List.countP_eq_zero] at hc
      have hil : pre.length < listed.size := by omega
      have := hc listed[pre.length] (by simp)
      simp [hil] at this hun
      rw [hun] at this; cases this
    | succ fuel ih =>
      intro listed a w' hsz hc hun inv
      refine ⟨fun hr => ?_, fun i hi => ?_⟩
      · exfalso
        have h1 := hready listed hsz hr pre.length (by omega)
        have hil : pre.length < listed.size := by omega
        simp [hil] at h1 hun
        rw [hun] at h1; cases h1
      rw [mem_ready] at hi
      obtain ⟨h0, o, ho, hall⟩ := hi
      have hilt : i < ops.size := (Array.getElem?_eq_some_iff.1 ho).1
      have hil : i < listed.size := by omega
      have hfalse : listed.toList[i]? = some false := by
        have h0' : listed[i]? = some false := by
          rw [Array.getElem?_eq_getElem hil]
          simpa [hil] using h0
        simpa using h0'
      have hcnt : (listed.setIfInBounds i true).toList.countP (!·) = fuel := by
        have := countP_set_lt hfalse
        rw [Array.toList_setIfInBounds]
        omega
      by_cases hin : i = pre.length
      · -- the last operation
        subst hin
        have hoeq : o = ol := by rw [hol] at ho; exact (Option.some.inj ho).symm
        subst hoeq
        have hallp : ∀ j, j < pre.length → listed.getD j false = true := by
          intro j hj
          obtain ⟨e, he, hb, rfl⟩ := hlast' j hj
          exact hall e he hb
        have hq := hQ listed a w' hsz hallp inv
        have hfull : ∀ j, j < ops.size → (listed.setIfInBounds pre.length true).getD j false = true := by
          intro j hj
          by_cases hjn : pre.length = j
          · subst hjn; simp [hil]
          · rw [getD_set_ne false hjn]; exact hallp j (by omega)
        have hK : ∀ a w, wpList P ops Q [] a w → wpAny P .any ops Q fuel (listed.setIfInBounds pre.length true) a w := by
          intro a2 w2 hq2
          have hemp : Region.ready .any ops (listed.setIfInBounds pre.length true) = [] := by
            cases hr : Region.ready .any ops (listed.setIfInBounds pre.length true) with
            | nil => rfl
            | cons j js =>
              exfalso
              have hj : j ∈ Region.ready .any ops (listed.setIfInBounds pre.length true) := by rw [hr]; exact List.mem_cons_self ..
              rw [mem_ready] at hj
              obtain ⟨g0, o2, go2, _⟩ := hj
              have hlt2 : j < ops.size := (Array.getElem?_eq_some_iff.1 go2).1
              exact getD_conf (hfull j hlt2) g0
          cases fuel with
          | zero => exact ⟨hemp, hq2⟩
          | succ f =>
            refine ⟨fun _ => hq2, fun j hj => ?_⟩
            rw [hemp] at hj
            cases hj
        refine wpOp_mono hK ?_
        unfold Go.wpOp
        simp only [hol]
        exact hq
      have hip : i < pre.length := by omega
      have ha : ahead ops Fs a.tmps w' o.after.toList := by
        have : ∀ es : List Edge, (∀ e ∈ es, e ∈ o.after) → ahead ops Fs a.tmps w' es := by
          intro es
          induction es with
          | nil => intro _; trivial
          | cons e es ihe =>
            intro hes
            refine ⟨fun hb => ?_, ihe fun x hx => hes x (List.mem_cons_of_mem _ hx)⟩
            have he := hes e (List.mem_cons_self ..)
            have := hedge' i o ho e he hb
            exact inv.fact e.on (by omega) (hall e he hb)
        exact this _ fun e he => by simpa using he
      refine Does.wpOp ho (hdo i o (by rw [← hpre i hip]; exact ho) a w' inv.world inv.out ha) fun v w'' ⟨hE, hf⟩ => ?_
      refine ih _ _ _ (by simpa using hsz) hcnt ?_ ⟨by rw [put_defers]; exact inv.defers, by rw [put_size]; exact inv.size, ?_, htrans _ _ _ inv.world hE, ?_⟩
      · rw [getD_set_ne true hin]; exact hun
      · intro t ht
        rw [put_getD_ne _ _ _ _ (by
          intro hd
          have hmem : t ∈ pre.filterMap (·.dst) := List.mem_filterMap.2 ⟨o, List.mem_of_getElem? (by rw [← hpre i hip]; exact ho), hd⟩
          simp only [List.contains_eq_mem, decide_eq_false_iff_not] at ht
          exact ht hmem)]
        exact inv.out t ht
      · intro j hj hlj
        have hjs : j < ops.size := by omega
        by_cases hij : i = j
        · subst hij
          unfold valAt
          rw [ho]
          simp only [Option.bind_some]
          cases hd : o.dst with
          | none => simpa [hit, hd] using hf
          | some d =>
            simp only
            rw [put_getD_eq _ _ _ (by rw [inv.size]; exact hlt' i o d ho hd)]
            simpa [hit, hd] using hf
        · rw [getD_set_ne false hij] at hlj
          have hold := hFi _ _ _ _ hE (inv.fact j hj hlj)
          have : valAt ops (a.put o.dst v).tmps j = valAt ops a.tmps j := by
            unfold valAt
            have hoj : ops[j]? = some ops[j] := Array.getElem?_eq_getElem hjs
            rw [hoj]
            simp only [Option.bind_some]
            cases hd : ops[j].dst with
            | none => rfl
            | some d =>
              simp only
              refine put_getD_ne _ _ _ _ fun he => hij ?_
              exact hinj ho hoj he hd
          rw [this]
          exact hold
  have hdrew : ({ w with drawn := w.drawn + 1 } : World) = w.drew := rfl
  rw [hdrew]
  refine main ops.size _ a0 w.drew (by simp) (by simp [List.countP_replicate]) ?_ ⟨rfl, rfl, fun _ _ => rfl, hrefl _, ?_⟩
  · simp [hsize]
  intro i _ hli
  simp only [Array.getD_eq_getD_getElem?, Array.getElem?_replicate] at hli
  split at hli <;> simp at hli

theorem wp_region_last {P : Program} {id : Nat} {ops : Array Oper} {ol : Oper} {Q : Exit → Act → World → Prop} {a0 : Act} {w : World} (hl : ops.toList.getLast? = some ol) (hm : P.follows .mixedOrders = true)
    (E : World → World → Prop) (hrefl : ∀ w, E w w) (htrans : ∀ a b c, E a b → E b c → E a c)
    (Fs : List (Value → World → Prop)) (hF : allKeep E Fs)
    (hok : (relOk a0.tmps.size ops && tailOk a0.tmps.size ops ops.toList.dropLast ol) = true)
    (hend : ∀ w', E w.drew w' → behind w' (fun a' => wpList P ops Q [ol] a' w') (ops.toList.dropLast.map (·.dst)) Fs a0)
    (hdo : allDo P ops (ops.toList.dropLast.filterMap (·.dst)) E Fs a0 w.drew ops.toList.dropLast Fs) : (Code.region id ops true).wp P Q a0 w := by
  rw [Bool.and_eq_true] at hok
  refine wp_region_tail ops.toList.dropLast ol ?_ hm E hrefl htrans Fs hF hok.1 hok.2 hend hdo
  obtain ⟨ys, hys⟩ := List.getLast?_eq_some_iff.1 hl
  rw [hys, List.dropLast_concat]

theorem Does.of_run {P : Program} {ops : Array Oper} {o : Oper} {ρ : Act} {w w' : World} {R : Value → World → Prop} {v : Value} (hg : o.guard = none)
    (hrun : (execOp ρ.eval o).run P w = .ok (.value v) w') (h : R v w') : Does P ops o ρ w R := by
  unfold Does
  simp only [Region.wanted, hg, hrun, if_true]
  exact h

theorem Does.of_call {P : Program} {ops : Array Oper} {o : Oper} {ρ : Act} {w w' : World} {R : Value → World → Prop} {f : FuncId} {args : Array Value} (hg : o.guard = none)
    (hrun : (execOp ρ.eval o).run P w = .ok (.enter f args) w') (h : Calls P f args w' fun e w'' => ∃ v, e = .returned v ∧ R v w'') : Does P ops o ρ w R := by
  unfold Does
  simp only [Region.wanted, hg, hrun, if_true]
  refine h.mono ?_
  rintro e w'' ⟨v, rfl, hr⟩
  exact hr

theorem yielded_of {ops : Array Oper} {tmps : Array Value} {j : Nat} {d : Tmp} {b : Bool} (h : (ops[j]?).bind (·.dst) = some d) (hv : tmps.getD d undef = .bool b) : yielded ops tmps j = some b := by
  unfold yielded
  rw [h]
  simp only [Option.bind_some]
  cases ht : tmps[d]? with
  | none => simp [ht, undef] at hv
  | some x =>
    rw [Array.getD_eq_getD_getElem?, ht] at hv
    simp only [Option.getD_some] at hv
    rw [hv]

theorem wanted_yes {ops : Array Oper} {tmps : Array Value} {o : Oper} {j : Nat} {d : Tmp} {b : Bool} (hg : o.guard = some (j, b)) (h : (ops[j]?).bind (·.dst) = some d) (hv : tmps.getD d undef = .bool b) :
    Region.wanted o (yielded ops tmps) = true := by
  simp [Region.wanted, hg, yielded_of h hv]

theorem wanted_no {ops : Array Oper} {tmps : Array Value} {o : Oper} {j : Nat} {d : Tmp} {b c : Bool} (hg : o.guard = some (j, c)) (h : (ops[j]?).bind (·.dst) = some d) (hv : tmps.getD d undef = .bool b) (hne : b ≠ c) :
    Region.wanted o (yielded ops tmps) = false := by
  simp [Region.wanted, hg, yielded_of h hv, hne]

theorem Does.of_run' {P : Program} {ops : Array Oper} {o : Oper} {ρ : Act} {w w' : World} {R : Value → World → Prop} {v : Value} (hg : Region.wanted o (yielded ops ρ.tmps) = true)
    (hrun : (execOp ρ.eval o).run P w = .ok (.value v) w') (h : R v w') : Does P ops o ρ w R := by
  unfold Does
  simp only [hg, hrun, if_true]
  exact h

theorem Does.of_call' {P : Program} {ops : Array Oper} {o : Oper} {ρ : Act} {w w' : World} {R : Value → World → Prop} {f : FuncId} {args : Array Value} (hg : Region.wanted o (yielded ops ρ.tmps) = true)
    (hrun : (execOp ρ.eval o).run P w = .ok (.enter f args) w') (h : Calls P f args w' fun e w'' => ∃ v, e = .returned v ∧ R v w'') : Does P ops o ρ w R := by
  unfold Does
  simp only [hg, hrun, if_true]
  refine h.mono ?_
  rintro e w'' ⟨v, rfl, hr⟩
  exact hr

theorem Does.skip {P : Program} {ops : Array Oper} {o : Oper} {ρ : Act} {w : World} {R : Value → World → Prop} (hg : Region.wanted o (yielded ops ρ.tmps) = false) (h : R undef w) : Does P ops o ρ w R := by
  unfold Does
  simp only [hg]
  exact h

/-- The fact 'it is c'. -/
def Is (c : Value) : Value → World → Prop := fun v _ => v = c

theorem keep_is {E : World → World → Prop} (c : Value) : ∀ v w w', E w w' → Is c v w → Is c v w' := fun _ _ _ _ h => h

end Go.Proofs.Ytpjfkomicehinaa
