/- A region that draws its order and appends to what its own operations have made: facts with blocks; an operation may write into the block that one of the operations ahead of it has made, where no other asks for that one. -/
import Derived.Test.YtopcecgkbmdmeaaOwn
namespace Go.Proofs.Ytopcecgkbmdmeaa
open Go.RowKit
set_option linter.unusedSimpArgs false
set_option linter.unusedVariables false

/-- What operation i eats. -/
def eatOf (eats : List (Option Nat)) (i : Nat) : Option Nat := (eats[i]?).getD none
/-- Whether operation i is eaten. -/
def eaten (eats : List (Option Nat)) (i : Nat) : Bool := eats.any (· == some i)

/-- The block that an operation may write. -/
def rowOf (ops : Array Oper) (eats : List (Option Nat)) (tmps : Array Value) (i : Nat) : Option Nat := (eatOf eats i).bind fun j => (valAt ops tmps j).ownBlock

/-- Where the block of what an operation hands back may lie. -/
def BlkOk (ops : Array Oper) (eats : List (Option Nat)) (B : Nat) (tmps : Array Value) (o : Oper) (i : Nat) (w w' : World) (v : Value) : Prop :=
  ∀ g, v.ownBlock = some g → g < w'.heap.size ∧
    (w.heap.size ≤ g ∨ (eaten eats i = false ∧ g < B) ∨ ∃ j, (eatOf eats i = some j ∨ (eaten eats i = false ∧ eaten eats j = false ∧ ∃ e ∈ o.after.toList, Region.binds .any e = true ∧ e.on = j)) ∧ (valAt ops tmps j).ownBlock = some g)

def KeepL (B : Nat) (F : Value → World → Prop) : Prop := ∀ v w w' row, w.grownBy w' row → (∀ r, row = some r → B ≤ r) → (v.ownBlock = none ∨ v.ownBlock ≠ row) → F v w → F v w'
def allKeepL (B : Nat) : List (Value → World → Prop) → Prop
  | [] => True
  | F :: fs => KeepL B F ∧ allKeepL B fs
theorem allKeepL_mem {B : Nat} : ∀ {Fs : List (Value → World → Prop)}, allKeepL B Fs → ∀ F ∈ Fs, KeepL B F
  | _ :: _, h, G, hG => by
    rcases List.mem_cons.1 hG with rfl | hG
    · exact h.1
    · exact allKeepL_mem h.2 G hG

/-- The facts ahead: those that no other eats. -/
def aheadL (ops : Array Oper) (eats : List (Option Nat)) (i : Nat) (Fs : List (Value → World → Prop)) (tmps : Array Value) (w : World) : List Edge → Prop
  | [] => True
  | e :: es => ((Region.binds .any e && (!eaten eats e.on || eatOf eats i == some e.on)) = true → factAt Fs e.on (valAt ops tmps e.on) w) ∧ aheadL ops eats i Fs tmps w es

def allDoL (P : Program) (ops : Array Oper) (eats : List (Option Nat)) (B : Nat) (Fs : List (Value → World → Prop)) (a0 : Act) (w0 : World) : Nat → List Oper → List (Value → World → Prop) → Prop
  | i, o :: os, F :: fs => (∀ (ρ : Act) (w : World), Ext w0 w → (∀ t, (dstsOf ops).contains t = false → ρ.tmps.getD t undef = a0.tmps.getD t undef) → aheadL ops eats i Fs ρ.tmps w o.after.toList →
      Does P ops o ρ w fun v w' => w.grownBy w' (rowOf ops eats ρ.tmps i) ∧ F (hit o.dst v) w' ∧ BlkOk ops eats B ρ.tmps o i w w' (hit o.dst v)) ∧ allDoL P ops eats B Fs a0 w0 (i + 1) os fs
  | _, [], [] => True
  | _, _, _ => False

/-- The facts that are left. -/
def gone (b : Bool) (F : Value → World → Prop) : Value → World → Prop := match b with | true => fun _ _ => True | false => F
theorem gone_true (F : Value → World → Prop) (v : Value) (w : World) : gone true F v w = True := rfl
theorem gone_false (F : Value → World → Prop) (v : Value) (w : World) : gone false F v w = F v w := rfl
def leftL (eats : List (Option Nat)) (Fs : List (Value → World → Prop)) : List (Value → World → Prop) := Fs.mapIdx fun i F => gone (eaten eats i) F

/-- The closed facts: each eater stands right behind what it eats; each is eaten once. -/
def linOk (ops : Array Oper) (eats : List (Option Nat)) : Bool :=
  decide (eats.length = ops.size) && ops.toList.zipIdx.all fun (o, i) =>
    match eatOf eats i with
    | none => true
    | some j => (o.after.toList.any fun e => Region.binds .any e && decide (e.on = j)) && decide (j < i) && (List.range ops.size).all fun k => k == i || !(eatOf eats k == some j)

structure InvL (B : Nat) (ops : Array Oper) (eats : List (Option Nat)) (Fs : List (Value → World → Prop)) (a0 : Act) (w0 : World) (listed : Array Bool) (a : Act) (w : World) : Prop where
  defers : a.defers = a0.defers
  size : a.tmps.size = a0.tmps.size
  out : ∀ t, (dstsOf ops).contains t = false → a.tmps.getD t undef = a0.tmps.getD t undef
  world : Ext w0 w
  fact : ∀ i, i < ops.size → listed.getD i false = true → (∀ j, eatOf eats j = some i → listed.getD j false = false) → factAt Fs i (valAt ops a.tmps i) w
  blk : ∀ i, i < ops.size → listed.getD i false = true → ∀ g, (valAt ops a.tmps i).ownBlock = some g → g < w.heap.size
  lin : ∀ i, i < ops.size → listed.getD i false = true → eaten eats i = true → ∀ g, (valAt ops a.tmps i).ownBlock = some g → B ≤ g
  sep : ∀ i k, i < ops.size → k < ops.size → i ≠ k → listed.getD i false = true → listed.getD k false = true → eaten eats i = true →
    (∀ j, eatOf eats j = some i → listed.getD j false = false) → (∀ j, eatOf eats j = some k → listed.getD j false = false) →
    (valAt ops a.tmps k).ownBlock = none ∨ (valAt ops a.tmps k).ownBlock ≠ (valAt ops a.tmps i).ownBlock

theorem getD_of_allDoL {P : Program} {ops : Array Oper} {eats : List (Option Nat)} {B : Nat} {Fs : List (Value → World → Prop)} {a0 : Act} {w0 : World} :
    ∀ (os : List Oper) (fs : List (Value → World → Prop)) (s : Nat), allDoL P ops eats B Fs a0 w0 s os fs → os.length = fs.length ∧ ∀ i o, os[i]? = some o →
      (∀ (ρ : Act) (w : World), Ext w0 w → (∀ t, (dstsOf ops).contains t = false → ρ.tmps.getD t undef = a0.tmps.getD t undef) → aheadL ops eats (s + i) Fs ρ.tmps w o.after.toList →
        Does P ops o ρ w fun v w' => w.grownBy w' (rowOf ops eats ρ.tmps (s + i)) ∧ factAt fs i (hit o.dst v) w' ∧ BlkOk ops eats B ρ.tmps o (s + i) w w' (hit o.dst v))
  | [], [], _, _ => ⟨rfl, by simp⟩
  | [], _ :: _, _, h => h.elim
  | _ :: _, [], _, h => h.elim
  | o :: os, F :: fs, s, h => by
    obtain ⟨h0, h1⟩ := h
    have ih := getD_of_allDoL os fs (s + 1) h1
    refine ⟨by simp [ih.1], fun i o' hi => ?_⟩
    cases i with
    | zero => simp at hi; subst hi; simpa [factAt] using h0
    | succ i =>
      have := ih.2 i o' (by simpa using hi)
      rw [show s + 1 + i = s + (i + 1) by omega] at this
      simpa [factAt] using this

theorem eaten_iff {eats : List (Option Nat)} {i : Nat} : eaten eats i = true ↔ ∃ j, eatOf eats j = some i := by
  unfold eaten eatOf
  rw [List.any_eq_true]
  constructor
  · rintro ⟨x, hx, h⟩
    obtain ⟨j, hj⟩ := List.mem_iff_getElem?.1 hx
    exact ⟨j, by rw [hj]; simpa using h⟩
  · rintro ⟨j, hj⟩
    cases h : eats[j]? with
    | none => rw [h] at hj; cases hj
    | some x =>
      rw [h] at hj
      exact ⟨x, List.mem_of_getElem? h, by simpa using hj⟩

theorem wp_region_lin {P : Program} {id : Nat} {ops : Array Oper} {Q : Exit → Act → World → Prop} {a0 : Act} {w : World} (hm : P.follows .mixedOrders = true) (eats : List (Option Nat))
    (Fs : List (Value → World → Prop)) (hF : allKeepL w.heap.size Fs)
    (hok : (relOk a0.tmps.size ops && linOk ops eats) = true)
    (hend : ∀ w', Ext w.drew w' → behind w' (fun a' => Q .normal a' w') (ops.toList.map (·.dst)) (leftL eats Fs) a0)
    (hdo : allDoL P ops eats w.heap.size Fs a0 w.drew 0 ops.toList Fs) : (Code.region id ops true).wp P Q a0 w := by
  rw [Bool.and_eq_true] at hok
  obtain ⟨hok, hlk⟩ := hok
  simp only [relOk, Bool.and_eq_true, decide_eq_true_eq] at hok
  obtain ⟨⟨hedge, hnd⟩, hlt⟩ := hok
  have hedge' : ∀ (i : Nat) (o : Oper), ops[i]? = some o → ∀ e ∈ o.after, Region.binds .any e = true → e.on < i := by
    intro i o hi e he hb
    rw [List.all_eq_true] at hedge
    have := hedge (o, i) (by
      rw [List.mem_zipIdx_iff_getElem?]
      simpa using hi)
    rw [List.all_eq_true] at this
    have := this e (by simpa using he)
    simpa [hb] using this
  have hlt' : ∀ (i : Nat) (o : Oper) (d : Tmp), ops[i]? = some o → o.dst = some d → d < a0.tmps.size := by
    intro i o d hi hd
    rw [List.all_eq_true] at hlt
    simpa using hlt d (dst_mem hi hd)
  have hinj : ∀ {i j : Nat} {x y : Oper} {d : Tmp}, ops[i]? = some x → ops[j]? = some y → x.dst = some d → y.dst = some d → i = j := by
    intro i j x y d hi hj hx hy
    exact nodup_filterMap_inj (l := ops.toList) hnd (by simpa using hi) (by simpa using hj) hx hy
  obtain ⟨hlen, hdo⟩ := getD_of_allDoL _ _ 0 hdo
  have hlin : ∀ (i : Nat) (o : Oper), ops[i]? = some o → ∀ j, eatOf eats i = some j → (∃ e ∈ o.after, Region.binds .any e = true ∧ e.on = j) ∧ j < i ∧ ∀ k, eatOf eats k = some j → k = i := by
    intro i o hi j hj
    simp only [linOk, Bool.and_eq_true, decide_eq_true_eq] at hlk
    obtain ⟨hle, hlk⟩ := hlk
    rw [List.all_eq_true] at hlk
    have := hlk (o, i) (by
      rw [List.mem_zipIdx_iff_getElem?]
      simpa using hi)
    simp only [hj, Bool.and_eq_true, decide_eq_true_eq] at this
    obtain ⟨⟨h1, h2⟩, h3⟩ := this
    rw [List.any_eq_true] at h1
    obtain ⟨e, he, hb⟩ := h1
    simp only [Bool.and_eq_true, decide_eq_true_eq] at hb
    refine ⟨⟨e, by simpa using he, hb⟩, h2, fun k hk => ?_⟩
    rw [List.all_eq_true] at h3
    have hks : k < ops.size := by
      rcases Nat.lt_or_ge k eats.length with h | h
      · omega
      · unfold eatOf at hk; rw [List.getElem?_eq_none h] at hk; cases hk
    have := h3 k (by simpa using hks)
    simpa [hk] using this
  have hFk : ∀ i v w1 w2 row, w1.grownBy w2 row → (∀ r, row = some r → w.heap.size ≤ r) → (v.ownBlock = none ∨ v.ownBlock ≠ row) → factAt Fs i v w1 → factAt Fs i v w2 := by
    intro i v w1 w2 row hg hr hs hf
    unfold factAt at *
    rw [List.getD_eq_getElem?_getD] at *
    cases hi : Fs[i]? with
    | none => simp
    | some F => rw [hi] at hf; simpa using allKeepL_mem hF F (List.mem_of_getElem? hi) v w1 w2 row hg hr hs (by simpa using hf)
  -- the end
  have hQ : ∀ listed a w', listed.size = ops.size → (∀ i, i < ops.size → listed.getD i false = true) → InvL w.heap.size ops eats Fs a0 w.drew listed a w' → Q .normal a w' := by
    intro listed a w' _ hall inv
    have hb := hend w' inv.world
    have hb' := putAll_behind (w' := w') _ _ _ (ops.toList.mapIdx fun i _ => valAt ops a.tmps i) (by simpa [leftL] using hlen) (by simp) hb (by
      intro i hi
      have hi' : i < ops.size := by simpa using hi
      have hfi : factAt (leftL eats Fs) i (valAt ops a.tmps i) w' := by
        have hiF : i < Fs.length := by rw [← hlen]; simpa using hi
        have e : factAt (leftL eats Fs) i = gone (eaten eats i) (factAt Fs i) := by
          unfold factAt leftL
          rw [List.getD_eq_getElem?_getD, List.getElem?_mapIdx, List.getD_eq_getElem?_getD, List.getElem?_eq_getElem hiF]
          rfl
        rw [e]
        cases hne : eaten eats i with
        | true => trivial
        | false =>
          refine inv.fact i hi' (hall i hi') fun j hj => ?_
          rw [eaten_iff.2 ⟨j, hj⟩] at hne
          cases hne
      simpa [hi'] using hfi)
    rwa [fold_is a _ a0 inv.size.symm inv.defers.symm] at hb'
    · intro x hx t hxt
      obtain ⟨i, hi⟩ := List.mem_iff_getElem?.1 hx
      rw [List.getElem?_zip_eq_some] at hi
      obtain ⟨h1, h2⟩ := hi
      rw [List.getElem?_map] at h1
      cases ho : ops.toList[i]? with
      | none => rw [ho] at h1; simp at h1
      | some o =>
        rw [ho] at h1
        have ho' : ops[i]? = some o := by simpa using ho
        have hd : o.dst = some t := by
          have : o.dst = x.1 := by simpa using h1
          rw [this]; exact hxt
        rw [List.getElem?_mapIdx, ho] at h2
        have : valAt ops a.tmps i = x.2 := by simpa using h2
        rw [← this]
        unfold valAt
        rw [ho']
        simp only [Option.bind_some, hd]
    · intro t ht
      refine (inv.out t ?_).symm
      cases hc : (dstsOf ops).contains t with
      | false => rfl
      | true =>
        exfalso
        have hmem : t ∈ dstsOf ops := by simpa using hc
        unfold dstsOf at hmem
        rw [List.mem_filterMap] at hmem
        obtain ⟨o, ho, hd⟩ := hmem
        obtain ⟨i, hi⟩ := List.mem_iff_getElem?.1 ho
        refine ht (o.dst, valAt ops a.tmps i) ?_ hd
        rw [List.mem_iff_getElem?]
        refine ⟨i, ?_⟩
        rw [List.getElem?_zip_eq_some]
        constructor
        · rw [List.getElem?_map, hi]; rfl
        · rw [List.getElem?_mapIdx, hi]; rfl
  -- where nothing is ready all is listed
  have hready : ∀ listed : Array Bool, listed.size = ops.size → Region.ready .any ops listed = [] → ∀ i, i < ops.size → listed.getD i false = true := by
    intro listed hsz hr i
    induction i using Nat.strongRecOn with
    | ind i ih =>
      intro hi
      cases hg : listed.getD i false with
      | true => rfl
      | false =>
        exfalso
        have ho : ops[i]? = some ops[i] := Array.getElem?_eq_getElem hi
        have : i ∈ Region.ready .any ops listed := by
          rw [mem_ready]
          refine ⟨?_, ops[i], ho, fun e he hb => ih e.on (hedge' i _ ho e he hb) (by have := hedge' i _ ho e he hb; omega)⟩
          have : i < listed.size := by omega
          simpa [this] using hg
        rw [hr] at this
        cases this
  refine wp_region_any hm ?_
  have main : ∀ fuel (listed : Array Bool) (a : Act) (w' : World), listed.size = ops.size → listed.toList.countP (!·) = fuel → InvL w.heap.size ops eats Fs a0 w.drew listed a w' → wpAny P .any ops Q fuel listed a w' := by
    intro fuel
    induction fuel with
    | zero =>
      intro listed a w' hsz hc inv
      have hall : ∀ i, i < ops.size → listed.getD i false = true := by
        intro i hi
        rw [List.countP_eq_zero] at hc
        have hil : i < listed.size := by omega
        have := hc listed[i] (by simp)
        simpa [hil] using this
      refine ⟨?_, hQ listed a w' hsz hall inv⟩
      cases hr : Region.ready .any ops listed with
      | nil => rfl
      | cons j js =>
        exfalso
        have hj : j ∈ Region.ready .any ops listed := by rw [hr]; exact List.mem_cons_self ..
        rw [mem_ready] at hj
        obtain ⟨h0, o, ho, _⟩ := hj
        have hlt : j < ops.size := (Array.getElem?_eq_some_iff.1 ho).1
        exact getD_conf (hall j hlt) h0
    | succ fuel ih =>
      intro listed a w' hsz hc inv
      refine ⟨fun hr => hQ listed a w' hsz (hready listed hsz hr) inv, fun i hi => ?_⟩
      rw [mem_ready] at hi
      obtain ⟨h0, o, ho, hall⟩ := hi
      have hilt : i < ops.size := (Array.getElem?_eq_some_iff.1 ho).1
      have hil : i < listed.size := by omega
      have hunl : listed.getD i false = false := by
        cases hg : listed.getD i false with
        | false => rfl
        | true => exact absurd h0 fun h0 => getD_conf hg h0
      -- what it eats
      have heat : ∀ j, eatOf eats i = some j → j < i ∧ listed.getD j false = true ∧ eaten eats j = true ∧ (∀ k, eatOf eats k = some j → k = i) := by
        intro j hj
        obtain ⟨h1, h2, h3⟩ := hlin i o ho j hj
        obtain ⟨e, he, hb, rfl⟩ := h1
        refine ⟨h2, hall e he hb, eaten_iff.2 ⟨i, hj⟩, fun k hk => ?_⟩
        exact h3 k hk
      have hact : ∀ j, eatOf eats i = some j → ∀ k, eatOf eats k = some j → listed.getD k false = false := by
        intro j hj k hk
        rw [(heat j hj).2.2.2 k hk]
        exact hunl
      have ha : aheadL ops eats i Fs a.tmps w' o.after.toList := by
        have : ∀ es : List Edge, (∀ e ∈ es, e ∈ o.after) → aheadL ops eats i Fs a.tmps w' es := by
          intro es
          induction es with
          | nil => intro _; trivial
          | cons e es ihe =>
            intro hes
            refine ⟨fun hb => ?_, ihe fun x hx => hes x (List.mem_cons_of_mem _ hx)⟩
            have he := hes e (List.mem_cons_self ..)
            simp only [Bool.and_eq_true, Bool.or_eq_true, Bool.not_eq_true', beq_iff_eq] at hb
            have hlt := hedge' i o ho e he hb.1
            refine inv.fact e.on (by omega) (hall e he hb.1) fun j hj => ?_
            rcases hb.2 with h | h
            · rw [eaten_iff.2 ⟨j, hj⟩] at h; cases h
            · exact hact e.on h j hj
        exact this _ fun e he => by simpa using he
      have hdoi := hdo i o (by simpa using ho) a w' inv.world inv.out (by rw [Nat.zero_add]; exact ha)
      rw [Nat.zero_add] at hdoi
      refine Does.wpOp ho hdoi fun v w'' ⟨hgr, hf, hbk⟩ => ?_
      -- the block written
      have hrow : ∀ r, rowOf ops eats a.tmps i = some r → ∃ j, eatOf eats i = some j ∧ (valAt ops a.tmps j).ownBlock = some r := by
        intro r hr
        unfold rowOf at hr
        rw [Option.bind_eq_some_iff] at hr
        exact hr
      have hrB : ∀ r, rowOf ops eats a.tmps i = some r → w.heap.size ≤ r := by
        intro r hr
        obtain ⟨j, hj, hb⟩ := hrow r hr
        obtain ⟨h1, h2, h3, _⟩ := heat j hj
        exact inv.lin j (by omega) h2 h3 r hb
      have hvi : valAt ops (a.put o.dst v).tmps i = hit o.dst v := by
        unfold valAt
        rw [ho]
        simp only [Option.bind_some]
        cases hd : o.dst with
        | none => rfl
        | some d => simp only; rw [put_getD_eq _ _ _ (by rw [inv.size]; exact hlt' i o d ho hd)]; rfl
      have hvj : ∀ j, j < ops.size → i ≠ j → valAt ops (a.put o.dst v).tmps j = valAt ops a.tmps j := by
        intro j hj hij
        unfold valAt
        have hoj : ops[j]? = some ops[j] := Array.getElem?_eq_getElem hj
        rw [hoj]
        simp only [Option.bind_some]
        cases hd : ops[j].dst with
        | none => rfl
        | some d =>
          simp only
          refine put_getD_ne _ _ _ _ fun he => hij ?_
          exact hinj ho hoj he hd
      have hWB : w.heap.size ≤ w'.heap.size := inv.world.size
      have hls : ∀ j, i ≠ j → (listed.setIfInBounds i true).getD j false = listed.getD j false := fun j hij => getD_set_ne false hij
      have hlsi : (listed.setIfInBounds i true).getD i false = true := by simp [hil]
      -- active behind is active ahead
      have hback : ∀ k, (∀ j, eatOf eats j = some k → (listed.setIfInBounds i true).getD j false = false) → (∀ j, eatOf eats j = some k → listed.getD j false = false) ∧ eatOf eats i ≠ some k := by
        intro k hk
        refine ⟨fun j hj => ?_, fun h => ?_⟩
        · have := hk j hj
          by_cases hij : i = j
          · subst hij; rw [hlsi] at this; cases this
          · rwa [hls j hij] at this
        · have := hk i h
          rw [hlsi] at this
          cases this
      refine ih _ _ _ (by simpa using hsz) ?_ ⟨by rw [put_defers]; exact inv.defers, by rw [put_size]; exact inv.size, ?_, grown_ext hgr inv.world hrB, ?_, ?_, ?_, ?_⟩
      · have hfalse : listed.toList[i]? = some false := by
          have h0' : listed[i]? = some false := by
            rw [Array.getElem?_eq_getElem hil]
            simpa [hil] using h0
          simpa using h0'
        have := countP_set_lt hfalse
        rw [Array.toList_setIfInBounds]
        omega
      · intro t ht
        rw [put_getD_ne _ _ _ _ (by
          intro hd
          have := dst_mem ho hd
          simp only [List.contains_eq_mem, decide_eq_false_iff_not] at ht
          exact ht this)]
        exact inv.out t ht
      · -- facts
        intro k hk hlk hak
        by_cases hik : i = k
        · subst hik; rw [hvi]; exact hf
        · rw [hls k hik] at hlk
          rw [hvj k hk hik]
          obtain ⟨hak', hne⟩ := hback k hak
          refine hFk k _ _ _ _ hgr hrB ?_ (inv.fact k hk hlk hak')
          cases hrr : rowOf ops eats a.tmps i with
          | none =>
            cases (valAt ops a.tmps k).ownBlock with
            | none => exact .inl rfl
            | some g => exact .inr (by simp)
          | some r =>
            obtain ⟨j, hj, hb⟩ := hrow r hrr
            obtain ⟨h1, h2, h3, _⟩ := heat j hj
            have hjk : j ≠ k := fun e => hne (by rw [hj, e])
            have := inv.sep j k (by omega) hk hjk h2 hlk h3 (hact j hj) hak'
            rwa [hb] at this
      · -- blocks
        intro k hk hlk g hg
        by_cases hik : i = k
        · subst hik; rw [hvi] at hg; exact (hbk g hg).1
        · rw [hls k hik] at hlk
          rw [hvj k hk hik] at hg
          exact Nat.lt_of_lt_of_le (inv.blk k hk hlk g hg) hgr.size
      · -- what is eaten lies above
        intro k hk hlk hek g hg
        by_cases hik : i = k
        · subst hik
          rw [hvi] at hg
          rcases (hbk g hg).2 with h | h | ⟨j, h, hb⟩
          · omega
          · rw [hek] at h; cases h.1
          · rcases h with h | h
            · obtain ⟨h1, h2, h3, _⟩ := heat j h
              exact inv.lin j (by omega) h2 h3 g hb
            · rw [hek] at h; cases h.1
        · rw [hls k hik] at hlk
          rw [hvj k hk hik] at hg
          exact inv.lin k hk hlk hek g hg
      · -- apart
        intro x y hx hy hxy hlx hly hex hax hay
        obtain ⟨hax', hnex⟩ := hback x hax
        obtain ⟨hay', hney⟩ := hback y hay
        by_cases hix : i = x
        · subst hix
          rw [hls y hxy] at hly
          rw [hvi, hvj y hy hxy]
          cases hv : (hit o.dst v).ownBlock with
          | none =>
            cases (valAt ops a.tmps y).ownBlock with
            | none => exact .inl rfl
            | some g => exact .inr (by simp)
          | some g =>
            rcases (hbk g hv).2 with h | h | ⟨j, h, hb⟩
            · cases hyb : (valAt ops a.tmps y).ownBlock with
              | none => exact .inl rfl
              | some g2 =>
                have := inv.blk y hy hly g2 hyb
                exact .inr (by intro e; cases e; omega)
            · rw [hex] at h; cases h.1
            · rcases h with h | h
              · obtain ⟨h1, h2, h3, _⟩ := heat j h
                have hjy : j ≠ y := fun e => hney (by rw [h, e])
                have := inv.sep j y (by omega) hy hjy h2 hly h3 (hact j h) hay'
                rwa [hb] at this
              · rw [hex] at h; cases h.1
        · rw [hls x hix] at hlx
          rw [hvj x hx hix]
          by_cases hiy : i = y
          · subst hiy
            rw [hvi]
            cases hv : (hit o.dst v).ownBlock with
            | none => exact .inl rfl
            | some g =>
              right
              intro e
              have hxb : (valAt ops a.tmps x).ownBlock = some g := e.symm
              have hxlt := inv.blk x hx hlx g hxb
              have hxge := inv.lin x hx hlx hex g hxb
              rcases (hbk g hv).2 with h | h | ⟨j, h, hb⟩
              · omega
              · omega
              · rcases h with h | h
                · obtain ⟨h1, h2, h3, _⟩ := heat j h
                  have hjx : j ≠ x := fun e => hnex (by rw [h, e])
                  rcases inv.sep j x (by omega) hx hjx h2 hlx h3 (hact j h) hax' with h4 | h4
                  · rw [hxb] at h4; cases h4
                  · exact h4 (by rw [hxb, hb])
                · obtain ⟨_, hej, e, he, hbi, rfl⟩ := h
                  have hjl := hall e (by simpa using he) hbi
                  have hjlt := hedge' i o ho e (by simpa using he) hbi
                  have hxj : x ≠ e.on := by intro h; rw [h, hej] at hex; cases hex
                  rcases inv.sep x e.on hx (by omega) hxj hlx hjl hex hax' (fun j hj => by rw [eaten_iff.2 ⟨j, hj⟩] at hej; cases hej) with h4 | h4
                  · rw [hb] at h4; cases h4
                  · exact h4 (by rw [hb, hxb])
          · rw [hls y hiy] at hly
            rw [hvj y hy hiy]
            exact inv.sep x y hx hy hxy hlx hly hex hax' hay'
  have hdrew : ({ w with drawn := w.drawn + 1 } : World) = w.drew := rfl
  rw [hdrew]
  have hnone : ∀ i, (Array.replicate ops.size false).getD i false = true → False := by
    intro i hli
    simp only [Array.getD_eq_getD_getElem?, Array.getElem?_replicate] at hli
    split at hli <;> simp at hli
  exact main ops.size _ a0 w.drew (by simp) (by simp [List.countP_replicate]) ⟨rfl, rfl, fun _ _ => rfl, Ext.refl _, fun i _ h => (hnone i h).elim, fun i _ h => (hnone i h).elim, fun i _ h => (hnone i h).elim, fun i _ _ _ _ h => (hnone i h).elim⟩

end Go.Proofs.Ytopcecgkbmdmeaa
