/- What the row of gateHeld_card_holds needs: part 2. -/
import Derived.Test.YtpilenbdimhegaaGreatDoorGHe1
import Derived.Laws.StructEq
import Derived.Laws.CopyOwn
import Derived.Deep.OwnRows
/- Separation: a region that draws its order. Each operation is told what those ahead of it gave; what is shown so holds in every order. -/
namespace Go.Proofs.YtpilenbdimhegaaGreatDoor
open Go.RowKit
set_option linter.unusedSimpArgs false
set_option linter.unusedVariables false

/-- What the operations have given: values, with assertions. -/
abbrev Env := Nat → Value × List Asn
/-- What is said of what an operation gives. -/
structure RS where
  val : Env → Value × List Asn → Value
  ent : Env → Value × List Asn → List Asn
  ok : Env → Value × List Asn → Prop
def mask (D : List Nat) (e : Env) : Env := fun k => match D.contains k with | true => e k | false => (undef, [])
def RS.Ins (D : List Nat) (s : RS) : Prop := ∀ e r, s.val (mask D e) r = s.val e r ∧ s.ent (mask D e) r = s.ent e r ∧ s.ok (mask D e) r = s.ok e r
def RS.Fact (s : RS) (e : Env) (r : Value × List Asn) : Prop := r.1 = s.val e r ∧ r.2 = s.ent e r ∧ s.ok e r
abbrev Prev := List (Nat × Option Tmp × RS)

def bnd (D : List Nat) (e : Env) : Prev → List (Nat × Value)
  | [] => []
  | (i, d, s) :: ps => match D.contains i, d with
    | true, some d => (d, s.val e (e i)) :: bnd D e ps
    | _, _ => bnd D e ps
def eater (eats : List (Nat × Nat)) (i : Nat) : Option Nat := match eats with
  | [] => none
  | (a, b) :: es => if a = i then some b else eater es i
def sees : List (Nat × Nat) → Nat → Nat → Bool
  | [], _, _ => false
  | (a, b) :: es, i, j => (Nat.beq a i && Nat.beq b j) || sees es i j
theorem sees_mem : ∀ {es : List (Nat × Nat)} {i j : Nat}, sees es i j = true → (i, j) ∈ es
  | [], _, _, h => by cases h
  | (a, b) :: es, i, j, h => by
    unfold sees at h
    rw [Bool.or_eq_true, Bool.and_eq_true] at h
    rcases h with ⟨h1, h2⟩ | h
    · rw [Nat.eq_of_beq_eq_true h1, Nat.eq_of_beq_eq_true h2]; exact List.mem_cons_self ..
    · exact List.mem_cons_of_mem _ (sees_mem h)
/-- The first pair tells who eats; the others who sees what is eaten later. -/
def vis (eats : List (Nat × Nat)) (i j : Nat) : Bool := match eater eats i with | none => true | some k => Nat.beq k j || sees eats i j
def ens (eats : List (Nat × Nat)) (D : List Nat) (j : Nat) (e : Env) : Prev → List Asn
  | [] => []
  | (i, _, s) :: ps => match D.contains i && vis eats i j with
    | true => s.ent e (e i) ++ ens eats D j e ps
    | false => ens eats D j e ps
def oks (D : List Nat) (e : Env) : Prev → Prop
  | [] => True
  | (i, _, s) :: ps => match D.contains i with
    | true => s.ok e (e i) ∧ oks D e ps
    | false => oks D e ps
def eaten1 (eats : List (Nat × Nat)) (j : Nat) (e : Env) : Prev → List Asn
  | [] => []
  | (i, _, s) :: ps => match eater eats i with
    | none => eaten1 eats j e ps
    | some k => match Nat.beq k j with
      | true => s.ent e (e i) ++ eaten1 eats j e ps
      | false => eaten1 eats j e ps
def fcut (bad : List Nat) : List (Nat × Value) → List (Nat × Value)
  | [] => []
  | (t, v) :: F => match bad.contains t with
    | true => fcut bad F
    | false => (t, v) :: fcut bad F

/-- All values, assertions, facts at a region's end. -/
def bndA (e : Env) : Prev → List (Nat × Value)
  | [] => []
  | (i, some d, s) :: ps => (d, s.val e (e i)) :: bndA e ps
  | (_, none, _) :: ps => bndA e ps
def ensA (eats : List (Nat × Nat)) (e : Env) : Prev → List Asn
  | [] => []
  | (i, _, s) :: ps => match eater eats i with
    | none => s.ent e (e i) ++ ensA eats e ps
    | some _ => ensA eats e ps
def oksA (e : Env) : Prev → Prop
  | [] => True
  | (i, _, s) :: ps => s.ok e (e i) ∧ oksA e ps

/-- What is owed at an operation. -/
structure Ob (P : Program) (n : Nat) (Γ : List Asn) (F : List (Nat × Value)) (ops : Array Oper) (eats : List (Nat × Nat)) (D bad : List Nat) (j : Nat) (o : Oper) (prev : Prev) (s : RS) : Prop where
  ins : s.Ins D
  does : ∀ e ρ w, Fr n (bnd D e prev ++ fcut bad F) ρ → Holds (ens eats D j e prev ++ Γ) w → (ens eats D j e prev ++ Γ).Pairwise Apart → oks D e prev →
    (Region.wanted o (yielded ops ρ.tmps) = true ∧ DoesW P o ρ w fun v w' => ∃ Γ', s.Fact e (v, Γ') ∧ Post (ownFp (eaten1 eats j e prev)) w Γ' w') ∨
    (Region.wanted o (yielded ops ρ.tmps) = false ∧ s.Fact e (undef, []))

def RGl (P : Program) (n : Nat) (Γ : List Asn) (F : List (Nat × Value)) (ops : Array Oper) (eats : List (Nat × Nat)) (K : Prev → Prop) : Nat → List Oper → List (List Nat × List Nat) → Prev → Prop
  | j, o :: os, (D, bad) :: Ds, prev => ∃ s, Ob P n Γ F ops eats D bad j o prev s ∧ RGl P n Γ F ops eats K (j + 1) os Ds ((j, o.dst, s) :: prev)
  | _, [], [], prev => K prev
  | _, _, _, _ => False

/-- The closed facts. -/
def regOk (n m : Nat) (l : List Oper) (Ds : List (List Nat × List Nat)) (eats : List (Nat × Nat)) : Bool :=
  relOk n l.toArray && decide (Ds.length = l.length) &&
  (l.zipIdx.all fun (o, j) => o.after.toList.all fun g => !Region.binds .any g || ((Ds.getD j ([], [])).1.contains g.on)) &&
  (Ds.zipIdx.all fun (d, j) => d.1.all fun i => (decide (i < j) && (Ds.getD i ([], [])).1.all fun k => d.1.contains k) || (decide (l.length ≤ i) && decide (i < l.length + m))) &&
  (l.zipIdx.all fun (o, k) => match o.dst with
    | none => true
    | some t => Ds.zipIdx.all fun (d, j) => j == k || (Ds.getD k ([], [])).1.contains j || d.2.contains t) &&
  (eats.all fun (i, j) => decide (j < l.length) && (Ds.getD j ([], [])).1.contains i && (match eater eats i with | none => false | some k => k == j || (Ds.getD k ([], [])).1.contains j)) &&
  (l.zipIdx.all fun (o, j) => (Ds.getD j ([], [])).1.all fun i => decide (l.length ≤ i) || o.after.toList.any fun g => Region.binds .any g && (g.on == i || (Ds.getD g.on ([], [])).1.contains i))

def psp (A : Asn) : RS := ⟨fun _ _ => undef, fun _ _ => [A], fun _ _ => True⟩
def prev0 : Nat → List Asn → Prev
  | _, [] => []
  | i, A :: Γx => (i, none, psp A) :: prev0 (i + 1) Γx

theorem mem_prev0 : ∀ {Γx : List Asn} {k i : Nat} {d : Option Tmp} {s : RS}, (i, d, s) ∈ prev0 k Γx ↔ k ≤ i ∧ d = none ∧ ∃ A, Γx[i - k]? = some A ∧ s = psp A
  | [], k, i, d, s => by simp [prev0]
  | A :: Γx, k, i, d, s => by
    rw [prev0, List.mem_cons, mem_prev0]
    constructor
    · rintro (h | ⟨h1, h2, B, h3, h4⟩)
      · cases h; exact ⟨Nat.le_refl _, rfl, A, by simp, rfl⟩
      · refine ⟨by omega, h2, B, ?_, h4⟩
        rw [show i - k = (i - (k + 1)) + 1 by omega, List.getElem?_cons_succ]; exact h3
    · rintro ⟨h1, h2, B, h3, h4⟩
      by_cases e : i = k
      · subst e
        simp at h3
        subst h3 h2 h4
        exact .inl rfl
      · refine .inr ⟨by omega, h2, B, ?_, h4⟩
        rw [show i - k = (i - (k + 1)) + 1 by omega, List.getElem?_cons_succ] at h3; exact h3

/-- All that was said up to operation j. -/
def mk (l : List Oper) (sp : Nat → RS) (p0 : Prev) : Nat → Prev
  | 0 => p0
  | j + 1 => (j, (l[j]?).bind (·.dst), sp j) :: mk l sp p0 j

theorem mem_mk {l : List Oper} {sp : Nat → RS} {p0 : Prev} : ∀ {j : Nat} {x : Nat × Option Tmp × RS}, x ∈ mk l sp p0 j ↔ (∃ i, i < j ∧ x = (i, (l[i]?).bind (·.dst), sp i)) ∨ x ∈ p0
  | 0, x => by simp [mk]
  | j + 1, x => by
    rw [mk, List.mem_cons, mem_mk]
    constructor
    · rintro (rfl | ⟨i, hi, rfl⟩ | h)
      · exact .inl ⟨j, by omega, rfl⟩
      · exact .inl ⟨i, by omega, rfl⟩
      · exact .inr h
    · rintro (⟨i, hi, rfl⟩ | h)
      · by_cases e : i = j
        · subst e; exact .inl rfl
        · exact .inr (.inl ⟨i, by omega, rfl⟩)
      · exact .inr (.inr h)

theorem RGl.get {P : Program} {n : Nat} {Γ : List Asn} {F : List (Nat × Value)} {ops : Array Oper} {eats : List (Nat × Nat)} {K : Prev → Prop} {l : List Oper} {p0 : Prev} : ∀ (os : List Oper) (j : Nat) (Ds : List (List Nat × List Nat)) (sp : Nat → RS),
    (∀ i, os[i]? = l[j + i]?) → RGl P n Γ F ops eats K j os Ds (mk l sp p0 j) →
    ∃ sp' : Nat → RS, (∀ i, i < j → sp' i = sp i) ∧ K (mk l sp' p0 (j + os.length)) ∧ ∀ i o, os[i]? = some o → ∃ D, Ds[i]? = some D ∧ Ob P n Γ F ops eats D.1 D.2 (j + i) o (mk l sp' p0 (j + i)) (sp' (j + i))
  | [], j, [], sp, _, h => ⟨sp, fun _ _ => rfl, h, by simp⟩
  | o :: os, j, (D, bad) :: Ds, sp, hl, h => by
    obtain ⟨s, h1, h2⟩ := h
    have hj : l[j]? = some o := by have := hl 0; simpa using this.symm
    have hmk : ∀ (f g : Nat → RS) (k : Nat), (∀ i, i < k → f i = g i) → mk l f p0 k = mk l g p0 k := by
      intro f g k
      induction k with
      | zero => intro _; rfl
      | succ k ih => intro hfg; rw [mk, mk, ih fun i hi => hfg i (by omega), hfg k (by omega)]
    let sp1 : Nat → RS := fun i => if i = j then s else sp i
    have e1 : mk l sp1 p0 j = mk l sp p0 j := hmk _ _ _ fun i hi => by simp only [sp1]; rw [if_neg (by omega)]
    have h2' : RGl P n Γ F ops eats K (j + 1) os Ds (mk l sp1 p0 (j + 1)) := by
      rw [mk, e1, hj]
      simp only [sp1, if_true, Option.bind_some]
      exact h2
    obtain ⟨sp', a1, a2, a3⟩ := RGl.get os (j + 1) Ds sp1 (fun i => by have := hl (i + 1); rw [List.getElem?_cons_succ] at this; rw [this]; congr 1; omega) h2'
    refine ⟨sp', fun i hi => by rw [a1 i (by omega)]; simp only [sp1]; rw [if_neg (by omega)], by rw [List.length_cons]; rw [show j + (os.length + 1) = j + 1 + os.length by omega]; exact a2, fun i o' ho => ?_⟩
    cases i with
    | zero =>
      simp at ho; subst ho
      refine ⟨(D, bad), rfl, ?_⟩
      rw [Nat.add_zero, hmk sp' sp j fun i hi => by rw [a1 i (by omega)]; simp only [sp1]; rw [if_neg (by omega)], a1 j (by omega)]
      simp only [sp1, if_true]
      exact h1
    | succ i =>
      obtain ⟨D', hD, hO⟩ := a3 i o' (by simpa using ho)
      refine ⟨D', by simpa using hD, ?_⟩
      rw [show j + (i + 1) = j + 1 + i by omega]
      exact hO
  | [], _, _ :: _, _, _, h => h.elim
  | _ :: _, _, [], _, _, h => h.elim

theorem lkT_append (F G : List (Nat × Value)) (t : Nat) : lkT (F ++ G) t = match lkT F t with | some v => some v | none => lkT G t := by
  induction F with
  | nil => rfl
  | cons x F ih =>
    obtain ⟨u, v⟩ := x
    simp only [List.cons_append, lkT]
    split <;> simp_all

theorem lkT_fcut {bad : List Nat} : ∀ {F : List (Nat × Value)} {t : Nat} {v : Value}, lkT (fcut bad F) t = some v → bad.contains t = false ∧ lkT F t = some v
  | [], t, v, h => by simp [fcut, lkT] at h
  | (u, x) :: F, t, v, h => by
    unfold fcut at h
    split at h
    · rename_i hb
      obtain ⟨h1, h2⟩ := lkT_fcut h
      refine ⟨h1, ?_⟩
      rw [lkT_cons_ne _ _ (by rintro rfl; rw [hb] at h1; cases h1)]
      exact h2
    · rename_i hb
      by_cases e : u = t
      · subst e
        rw [lkT_cons_eq] at h ⊢
        exact ⟨hb, h⟩
      · rw [lkT_cons_ne _ _ e] at h ⊢
        exact lkT_fcut h

theorem lkT_bnd {D : List Nat} {e : Env} : ∀ {prev : Prev} {t : Nat} {v : Value}, lkT (bnd D e prev) t = some v → ∃ i s, (i, some t, s) ∈ prev ∧ D.contains i = true ∧ v = s.val e (e i)
  | [], t, v, h => by simp [bnd, lkT] at h
  | (i, d, s) :: prev, t, v, h => by
    unfold bnd at h
    split at h
    · rename_i d' hD
      by_cases et : d' = t
      · subst et
        rw [lkT_cons_eq] at h
        cases h
        exact ⟨i, s, List.mem_cons_self .., hD, rfl⟩
      · rw [lkT_cons_ne _ _ et] at h
        obtain ⟨i', s', h1, h2, h3⟩ := lkT_bnd h
        exact ⟨i', s', List.mem_cons_of_mem _ h1, h2, h3⟩
    · obtain ⟨i', s', h1, h2, h3⟩ := lkT_bnd h
      exact ⟨i', s', List.mem_cons_of_mem _ h1, h2, h3⟩

theorem lkT_bnd_none {D : List Nat} {e : Env} : ∀ {prev : Prev} {t i : Nat} {s : RS}, lkT (bnd D e prev) t = none → (i, some t, s) ∈ prev → D.contains i = false
  | (i', d, s') :: prev, t, i, s, h, hm => by
    cases hD : D.contains i with
    | false => rfl
    | true =>
      exfalso
      unfold bnd at h
      rcases List.mem_cons.1 hm with e1 | e1
      · cases e1
        rw [hD] at h
        simp only at h
        rw [lkT_cons_eq] at h
        cases h
      · have key : ∀ h' : lkT (bnd D e prev) t = none, False := fun h' => by
          have := lkT_bnd_none h' e1
          rw [hD] at this
          cases this
        split at h
        · rename_i d' _
          by_cases et : d' = t
          · subst et; rw [lkT_cons_eq] at h; cases h
          · rw [lkT_cons_ne _ _ et] at h; exact key h
        · exact key h

theorem mem_ens {eats : List (Nat × Nat)} {D : List Nat} {j : Nat} {e : Env} : ∀ {prev : Prev} {A : Asn}, A ∈ ens eats D j e prev ↔ ∃ i d s, (i, d, s) ∈ prev ∧ D.contains i = true ∧ vis eats i j = true ∧ A ∈ s.ent e (e i)
  | [], A => by simp [ens]
  | (i, d, s) :: prev, A => by
    unfold ens
    cases hc : D.contains i && vis eats i j with
    | true =>
      rw [Bool.and_eq_true] at hc
      simp only [List.mem_append]
      constructor
      · rintro (h | h)
        · exact ⟨i, d, s, List.mem_cons_self .., hc.1, hc.2, h⟩
        · obtain ⟨i', d', s', h1, h2⟩ := mem_ens.1 h
          exact ⟨i', d', s', List.mem_cons_of_mem _ h1, h2⟩
      · rintro ⟨i', d', s', h1, h2, h3, h4⟩
        rcases List.mem_cons.1 h1 with h1 | h1
        · cases h1; exact .inl h4
        · exact .inr (mem_ens.2 ⟨i', d', s', h1, h2, h3, h4⟩)
    | false =>
      simp only
      constructor
      · intro h
        obtain ⟨i', d', s', h1, h2⟩ := mem_ens.1 h
        exact ⟨i', d', s', List.mem_cons_of_mem _ h1, h2⟩
      · rintro ⟨i', d', s', h1, h2, h3, h4⟩
        rcases List.mem_cons.1 h1 with h1 | h1
        · cases h1; rw [h2, h3] at hc; cases hc
        · exact mem_ens.2 ⟨i', d', s', h1, h2, h3, h4⟩

theorem ens_apart {eats : List (Nat × Nat)} {D : List Nat} {j : Nat} {e : Env} : ∀ {prev : Prev}, (prev.map (·.1)).Nodup → (∀ x, x ∈ prev → D.contains x.1 = true → vis eats x.1 j = true → (x.2.2.ent e (e x.1)).Pairwise Apart) →
    (∀ x y, x ∈ prev → y ∈ prev → x.1 ≠ y.1 → D.contains x.1 = true → vis eats x.1 j = true → D.contains y.1 = true → vis eats y.1 j = true → ∀ A, A ∈ x.2.2.ent e (e x.1) → ∀ B, B ∈ y.2.2.ent e (e y.1) → Apart A B) → (ens eats D j e prev).Pairwise Apart
  | [], _, _, _ => .nil
  | (i, d, s) :: prev, hn, h1, h2 => by
    rw [List.map_cons, List.nodup_cons] at hn
    have ih := ens_apart (eats := eats) (D := D) (j := j) (e := e) hn.2 (fun x hx => h1 x (List.mem_cons_of_mem _ hx)) fun x y hx hy => h2 x y (List.mem_cons_of_mem _ hx) (List.mem_cons_of_mem _ hy)
    unfold ens
    cases hc : D.contains i && vis eats i j with
    | false => exact ih
    | true =>
      rw [Bool.and_eq_true] at hc
      refine List.pairwise_append.2 ⟨h1 _ (List.mem_cons_self ..) hc.1 hc.2, ih, fun A hA B hB => ?_⟩
      obtain ⟨i', d', s', g1, g2, g3, g4⟩ := mem_ens.1 hB
      refine h2 (i, d, s) (i', d', s') (List.mem_cons_self ..) (List.mem_cons_of_mem _ g1) ?_ hc.1 hc.2 g2 g3 A hA B g4
      rintro rfl
      exact hn.1 (List.mem_map.2 ⟨_, g1, rfl⟩)

theorem oks_of {D : List Nat} {e : Env} : ∀ {prev : Prev}, (∀ x, x ∈ prev → D.contains x.1 = true → x.2.2.ok e (e x.1)) → oks D e prev
  | [], _ => trivial
  | (i, d, s) :: prev, h => by
    have ih := oks_of (D := D) (e := e) (prev := prev) fun x hx => h x (List.mem_cons_of_mem _ hx)
    unfold oks
    cases hc : D.contains i with
    | true => exact ⟨h (i, d, s) (List.mem_cons_self ..) hc, ih⟩
    | false => exact ih

theorem mem_eaten1 {eats : List (Nat × Nat)} {j : Nat} {e : Env} : ∀ {prev : Prev} {A : Asn}, A ∈ eaten1 eats j e prev → ∃ i d s, (i, d, s) ∈ prev ∧ eater eats i = some j ∧ A ∈ s.ent e (e i)
  | [], A, h => by simp [eaten1] at h
  | (i, d, s) :: prev, A, h => by
    unfold eaten1 at h
    split at h
    · obtain ⟨i', d', s', h1, h2⟩ := mem_eaten1 h
      exact ⟨i', d', s', List.mem_cons_of_mem _ h1, h2⟩
    · rename_i k hk
      split at h
      · rename_i hb
        rcases List.mem_append.1 h with h | h
        · exact ⟨i, d, s, List.mem_cons_self .., by rw [hk, beq_true hb], h⟩
        · obtain ⟨i', d', s', h1, h2⟩ := mem_eaten1 h
          exact ⟨i', d', s', List.mem_cons_of_mem _ h1, h2⟩
      · obtain ⟨i', d', s', h1, h2⟩ := mem_eaten1 h
        exact ⟨i', d', s', List.mem_cons_of_mem _ h1, h2⟩

theorem eater_mem {eats : List (Nat × Nat)} {i j : Nat} (h : eater eats i = some j) : (i, j) ∈ eats := by
  induction eats with
  | nil => cases h
  | cons x es ih =>
    obtain ⟨a, b⟩ := x
    unfold eater at h
    split at h
    · rename_i hb; cases h; rw [hb]; exact List.mem_cons_self ..
    · exact List.mem_cons_of_mem _ (ih h)

theorem mk_nodup {l : List Oper} {sp : Nat → RS} {Γx : List Asn} : ∀ {j : Nat}, j ≤ l.length → ((mk l sp (prev0 l.length Γx) j).map (·.1)).Nodup
  | 0, _ => by
    have : ∀ (Γx : List Asn) (k : Nat), ((prev0 k Γx).map (·.1)).Nodup ∧ ∀ i, i ∈ (prev0 k Γx).map (·.1) → k ≤ i := by
      intro Γx
      induction Γx with
      | nil => intro k; simp [prev0]
      | cons A Γx ih =>
        intro k
        obtain ⟨h1, h2⟩ := ih (k + 1)
        rw [prev0, List.map_cons, List.nodup_cons]
        refine ⟨⟨fun h => by have := h2 k h; omega, h1⟩, fun i hi => ?_⟩
        rcases List.mem_cons.1 hi with rfl | hi
        · exact Nat.le_refl _
        · have := h2 i hi; omega
    exact (this Γx l.length).1
  | j + 1, hj => by
    rw [mk, List.map_cons, List.nodup_cons]
    refine ⟨fun h => ?_, mk_nodup (by omega)⟩
    obtain ⟨x, hx, hxe⟩ := List.mem_map.1 h
    rcases mem_mk.1 hx with ⟨i, hi, rfl⟩ | hx
    · simp only at hxe; omega
    · obtain ⟨i, d, s⟩ := x
      have := (mem_prev0.1 hx).1
      simp only at hxe; omega


section
variable {P : Program} {n : Nat} {W : World} {S : Nat → Prop} {Γ : List Asn} {F : List (Nat × Value)} {Q : Exit → Act → World → Prop}

/-- Where a run of the region stands. -/
structure InvR (n : Nat) (Γx Γ : List Asn) (l : List Oper) (Ds : List (List Nat × List Nat)) (eats : List (Nat × Nat)) (sp : Nat → RS) (a0 : Act) (w0 : World) (listed : Array Bool) (e : Env) (a : Act) (w : World) : Prop where
  defers : a.defers = []
  size : a.tmps.size = n
  out : ∀ t, (∀ i o, l[i]? = some o → o.dst = some t → listed.getD i false = false) → a.tmps.getD t undef = a0.tmps.getD t undef
  slot : ∀ i o d, l[i]? = some o → o.dst = some d → listed.getD i false = true → a.tmps.getD d undef = (e i).1
  fact : ∀ i, i < l.length → listed.getD i false = true → (sp i).Fact e (e i)
  pse : ∀ k A, Γx[k]? = some A → e (l.length + k) = (undef, [A])
  mod : Mod (ownFp Γx) w0 w
  live : ∀ i, (i < l.length → listed.getD i false = true) → i < l.length + Γx.length → (∀ j, eater eats i = some j → listed.getD j false = false) →
    Holds (e i).2 w ∧ (e i).2.Pairwise Apart ∧ (∀ A, A ∈ (e i).2 → (∀ g, A.fp g → w0.heap.size ≤ g ∨ ownFp Γx g) ∧ ∀ B, B ∈ Γ → Apart A B) ∧
    ∀ k, k ≠ i → (k < l.length → listed.getD k false = true) → k < l.length + Γx.length → (∀ j, eater eats k = some j → listed.getD j false = false) → ∀ A, A ∈ (e i).2 → ∀ B, B ∈ (e k).2 → Apart A B
  holdG : Holds Γ w
  clos : ∀ k i, k < l.length → listed.getD k false = true → (Ds.getD k ([], [])).1.contains i = true → i < l.length → listed.getD i false = true

theorem WPc.drawn {id : Nat} {l : List Oper} (Ds : List (List Nat × List Nat)) (eats : List (Nat × Nat)) {Γx Γr : List Asn} (hx : Takes Γ Γx Γr) (hox : ∀ A, A ∈ Γx → A.own = true) (hm : P.follows .mixedOrders = true) (hok : regOk n Γx.length l Ds eats = true)
    (h : RGl P n Γr F l.toArray eats (fun prev => ∀ e, oksA e prev → WPq n W S (ensA eats e prev ++ Γr) (bndA e prev ++ F) Q .normal) 0 l Ds (prev0 l.length Γx)) :
    WPc P n W S Γ F (.region id l.toArray true) Q := by
  intro a0 w00 hf hgood
  have hgx := hgood.perm hx
  obtain ⟨ga1, ga2, ga3⟩ := List.pairwise_append.1 hgx.apart
  simp only [regOk, Bool.and_eq_true, decide_eq_true_eq] at hok
  obtain ⟨⟨⟨⟨⟨⟨hrel, hDl⟩, hedgeD⟩, hclo⟩, hbad⟩, heat⟩, hreach⟩ := hok
  simp only [relOk, Bool.and_eq_true, decide_eq_true_eq] at hrel
  obtain ⟨⟨hedge, hnd⟩, hlt⟩ := hrel
  have hedge' : ∀ (i : Nat) (o : Oper), l[i]? = some o → ∀ g ∈ o.after, Region.binds .any g = true → g.on < i := by
    intro i o hi g hg hb
    rw [List.all_eq_true] at hedge
    have := hedge (o, i) (by rw [List.mem_zipIdx_iff_getElem?]; simpa using hi)
    rw [List.all_eq_true] at this
    have := this g (by simpa using hg)
    simpa [hb] using this
  have hlt' : ∀ (i : Nat) (o : Oper) (d : Tmp), l[i]? = some o → o.dst = some d → d < n := by
    intro i o d hi hd
    rw [List.all_eq_true] at hlt
    simpa using hlt d (dst_mem (ops := l.toArray) (by simpa using hi) hd)
  have hinj : ∀ {i j : Nat} {x y : Oper} {d : Tmp}, l[i]? = some x → l[j]? = some y → x.dst = some d → y.dst = some d → i = j := by
    intro i j x y d hi hj hx hy
    exact nodup_filterMap_inj (l := l) hnd hi hj hx hy
  obtain ⟨sp, -, hK, hob⟩ := RGl.get (l := l) (p0 := prev0 l.length Γx) l 0 Ds (fun _ => psp ⟨false, fun _ => False, fun _ => True, fun _ _ _ h => h.elim, fun _ _ h _ => h⟩) (by simp) h
  rw [Nat.zero_add] at hK
  have hob' : ∀ j o, l[j]? = some o → Ob P n Γr F l.toArray eats (Ds.getD j ([], [])).1 (Ds.getD j ([], [])).2 j o (mk l sp (prev0 l.length Γx) j) (sp j) := by
    intro j o ho
    obtain ⟨D, hD, hO⟩ := hob j o ho
    rw [Nat.zero_add] at hO
    rw [List.getD_eq_getElem?_getD, hD]
    exact hO
  have hlen : ∀ {j : Nat} {o : Oper}, l[j]? = some o → j < l.length := fun h => (List.getElem?_eq_some_iff.1 h).1
  -- what stands ahead
  have hD1 : ∀ j i, j < l.length → (Ds.getD j ([], [])).1.contains i = true → (i < j ∧ ∀ k, (Ds.getD i ([], [])).1.contains k = true → (Ds.getD j ([], [])).1.contains k = true) ∨ (l.length ≤ i ∧ i < l.length + Γx.length) := by
    intro j i hj hi
    rw [List.all_eq_true] at hclo
    have h1 : Ds[j]? = some Ds[j] := List.getElem?_eq_getElem (by omega)
    have hg : Ds.getD j ([], []) = Ds[j] := by rw [List.getD_eq_getElem?_getD, h1]; rfl
    have := hclo (Ds[j], j) (by rw [List.mem_zipIdx_iff_getElem?]; exact h1)
    rw [List.all_eq_true] at this
    rw [hg] at hi ⊢
    have := this i (by simpa using hi)
    simp only [Bool.or_eq_true, Bool.and_eq_true, decide_eq_true_eq] at this
    rcases this with ⟨h1, h2⟩ | h3
    · refine .inl ⟨h1, fun k hk => ?_⟩
      rw [List.all_eq_true] at h2
      exact h2 k (by simpa using hk)
    · exact .inr h3
  have hE : ∀ j o, l[j]? = some o → ∀ g ∈ o.after, Region.binds .any g = true → (Ds.getD j ([], [])).1.contains g.on = true := by
    intro j o hj g hg hb
    rw [List.all_eq_true] at hedgeD
    have := hedgeD (o, j) (by rw [List.mem_zipIdx_iff_getElem?]; exact hj)
    rw [List.all_eq_true] at this
    have := this g (by simpa using hg)
    simpa [hb] using this
  have hB : ∀ j k o t, j < l.length → l[k]? = some o → o.dst = some t → j ≠ k → (Ds.getD k ([], [])).1.contains j = false → (Ds.getD j ([], [])).2.contains t = true := by
    intro j k o t hj hk hd hne hn
    rw [List.all_eq_true] at hbad
    have := hbad (o, k) (by rw [List.mem_zipIdx_iff_getElem?]; exact hk)
    rw [hd] at this
    simp only at this
    rw [List.all_eq_true] at this
    have h1 : Ds[j]? = some Ds[j] := List.getElem?_eq_getElem (by omega)
    have := this (Ds[j], j) (by rw [List.mem_zipIdx_iff_getElem?]; exact h1)
    rw [List.getD_eq_getElem?_getD, h1]
    simp only [hn, Bool.or_eq_true, beq_iff_eq] at this
    rcases this with (h | h) | h
    · exact absurd h hne
    · cases h
    · exact h
  have hEatM : ∀ i j, (i, j) ∈ eats → j < l.length ∧ (Ds.getD j ([], [])).1.contains i = true ∧ ∀ k, eater eats i = some k → k = j ∨ (Ds.getD k ([], [])).1.contains j = true := by
    intro i j h
    rw [List.all_eq_true] at heat
    have := heat _ h
    simp only [Bool.and_eq_true, decide_eq_true_eq] at this
    refine ⟨this.1.1, this.1.2, fun k hk => ?_⟩
    have h3 := this.2
    rw [hk] at h3
    simpa only [Bool.or_eq_true, beq_iff_eq] using h3
  have hEat : ∀ i j, eater eats i = some j → j < l.length ∧ (Ds.getD j ([], [])).1.contains i = true := fun i j h => ⟨(hEatM i j (eater_mem h)).1, (hEatM i j (eater_mem h)).2.1⟩
  have hvl : ∀ i, vis eats i l.length = true → eater eats i = none := by
    intro i h
    unfold vis at h
    cases he : eater eats i with
    | none => rfl
    | some k =>
      exfalso
      rw [he] at h
      simp only [Bool.or_eq_true] at h
      rcases h with h | h
      · have := beq_true h; have := (hEat i k he).1; omega
      · have := (hEatM _ _ (sees_mem h)).1; omega
  have hR : ∀ j o i, l[j]? = some o → (Ds.getD j ([], [])).1.contains i = true → i < l.length → ∃ g ∈ o.after, Region.binds .any g = true ∧ (g.on = i ∨ (Ds.getD g.on ([], [])).1.contains i = true) := by
    intro j o i hj hi hil
    rw [List.all_eq_true] at hreach
    have := hreach (o, j) (by rw [List.mem_zipIdx_iff_getElem?]; exact hj)
    rw [List.all_eq_true] at this
    have := this i (by simpa using hi)
    rw [Bool.or_eq_true, decide_eq_true_eq] at this
    rcases this with h | h
    · omega
    · rw [List.any_eq_true] at h
      obtain ⟨g, hg, hb⟩ := h
      simp only [Bool.and_eq_true, Bool.or_eq_true, beq_iff_eq] at hb
      exact ⟨g, by simpa using hg, hb.1, hb.2⟩
  have hfact0 : ∀ {j i : Nat} {d : Option Tmp} {s : RS}, (i, d, s) ∈ mk l sp (prev0 l.length Γx) j → (i < j ∧ d = (l[i]?).bind (·.dst) ∧ s = sp i) ∨ (l.length ≤ i ∧ d = none ∧ ∃ A, Γx[i - l.length]? = some A ∧ s = psp A) := by
    intro j i d s hm
    rcases mem_mk.1 hm with ⟨i', hi', he⟩ | hm
    · cases he; exact .inl ⟨hi', rfl, rfl⟩
    · exact .inr (mem_prev0.1 hm)
  refine wp_region_any hm ?_
  have hdrew : ({ w00 with drawn := w00.drawn + 1 } : World) = w00.drew := rfl
  rw [hdrew]
  have hg0 : Good W S (Γx ++ Γr) w00.drew := ⟨⟨hgx.mod.os, hgx.mod.tape, hgx.mod.output, hgx.mod.size, Nat.le_trans hgx.mod.drawn (Nat.le_succ _), hgx.mod.block⟩, fun A hA => A.loc w00 w00.drew (hgx.all A hA) fun _ _ => rfl, hgx.apart, hgx.mine⟩
  generalize w00.drew = w0 at hg0 ⊢
  -- the end
  have hQ : ∀ listed e a w, (∀ i, i < l.length → listed.getD i false = true) → InvR n Γx Γr l Ds eats sp a0 w0 listed e a w → Q .normal a w := by
    intro listed e a w hall inv
    have hrange : ∀ i, i < l.length + Γx.length → (List.range (l.length + Γx.length)).contains i = true := fun i hi => by simpa using hi
    have hin : ∀ x, x ∈ mk l sp (prev0 l.length Γx) l.length → x.1 < l.length + Γx.length := by
      rintro ⟨i, d, s⟩ hx
      rcases hfact0 hx with ⟨g1, _⟩ | ⟨g1, _, B, g2, _⟩
      · show i < _; omega
      · have := (List.getElem?_eq_some_iff.1 g2).1
        show i < _; omega
    have eb : ∀ p : Prev, (∀ x, x ∈ p → x.1 < l.length + Γx.length) → bndA e p = bnd (List.range (l.length + Γx.length)) e p := by
      intro p
      induction p with
      | nil => intro _; rfl
      | cons x p ih =>
        intro hp
        obtain ⟨i, d, s⟩ := x
        have hc := hrange i (hp _ (List.mem_cons_self ..))
        have := ih fun y hy => hp y (List.mem_cons_of_mem _ hy)
        cases d <;> simp only [bndA, bnd, hc, this]
    have ee : ∀ p : Prev, (∀ x, x ∈ p → x.1 < l.length + Γx.length) → ensA eats e p = ens eats (List.range (l.length + Γx.length)) l.length e p := by
      intro p
      induction p with
      | nil => intro _; rfl
      | cons x p ih =>
        intro hp
        obtain ⟨i, d, s⟩ := x
        have hc := hrange i (hp _ (List.mem_cons_self ..))
        have := ih fun y hy => hp y (List.mem_cons_of_mem _ hy)
        have hv : vis eats i l.length = (eater eats i).isNone := by
          cases he : eater eats i with
          | none => unfold vis; rw [he]; rfl
          | some k =>
            show vis eats i l.length = false
            rw [← Bool.not_eq_true]; intro hb; rw [hvl i hb] at he; cases he
        cases he : eater eats i <;> simp only [ensA, ens, hc, hv, he, this, Option.isNone_none, Option.isNone_some, Bool.and_true, Bool.and_false]
    have eo : ∀ p : Prev, (∀ x, x ∈ p → x.2.2.ok e (e x.1)) → oksA e p := by
      intro p
      induction p with
      | nil => intro _; trivial
      | cons x p ih => exact fun hp => ⟨hp _ (List.mem_cons_self ..), ih fun y hy => hp y (List.mem_cons_of_mem _ hy)⟩
    have hK' := hK e (eo _ fun x hx => ?_)
    rw [eb _ hin, ee _ hin] at hK'
    refine hK' a w ⟨inv.size, inv.defers, fun t v hv => ?_⟩ (Good.step hg0 ⟨inv.mod, fun A hA => ?_, ens_apart (mk_nodup (Nat.le_refl _)) ?_ ?_, fun A hA g hg => ?_⟩)
    · rw [lkT_append] at hv
      cases hb : lkT (bnd (List.range (l.length + Γx.length)) e (mk l sp (prev0 l.length Γx) l.length)) t with
      | some v' =>
        rw [hb] at hv
        simp only [Option.some.injEq] at hv
        subst hv
        obtain ⟨i, s, h1, h2, h3⟩ := lkT_bnd hb
        rcases hfact0 h1 with ⟨g1, g2, rfl⟩ | ⟨_, g2, _⟩
        · have ho : l[i]? = some l[i] := List.getElem?_eq_getElem g1
          rw [ho] at g2
          rw [inv.slot i l[i] t ho (by simpa using g2.symm) (hall i g1), h3]
          exact (inv.fact i g1 (hall i g1)).1
        · cases g2
      | none =>
        rw [hb] at hv
        simp only at hv
        rw [inv.out t fun i o ho hd => ?_]
        · exact hf.get t v hv
        · exfalso
          have hi := hlen ho
          have := lkT_bnd_none hb (i := i) (s := sp i) (mem_mk.2 (.inl ⟨i, hi, by rw [ho]; simp [hd]⟩))
          rw [hrange i (by omega)] at this
          cases this
    · obtain ⟨i, d, s, h1, h2, h3, h4⟩ := mem_ens.1 hA
      have hne : ∀ j, eater eats i = some j → listed.getD j false = false := fun j hj => by
        rw [hvl i h3] at hj; cases hj
      rcases hfact0 h1 with ⟨g1, rfl, rfl⟩ | ⟨g1, rfl, B, g2, rfl⟩
      · rw [← (inv.fact i g1 (hall i g1)).2.1] at h4
        exact (inv.live i (fun _ => hall i g1) (by omega) hne).1 A h4
      · have hp := inv.pse _ _ g2
        have hil : i - l.length < Γx.length := (List.getElem?_eq_some_iff.1 g2).1
        rw [show l.length + (i - l.length) = i by omega] at hp
        have hl := (inv.live i (fun h => by omega) (by omega) hne).1
        rw [hp] at hl
        exact hl A h4
    · intro x hx h1 h2
      obtain ⟨i, d, s⟩ := x
      have hne : ∀ j, eater eats i = some j → listed.getD j false = false := fun j hj => by
        rw [hvl i h2] at hj; cases hj
      rcases hfact0 hx with ⟨g1, rfl, rfl⟩ | ⟨g1, rfl, B, g2, rfl⟩
      · rw [← (inv.fact i g1 (hall i g1)).2.1]
        exact (inv.live i (fun _ => hall i g1) (by omega) hne).2.1
      · exact List.pairwise_singleton _ _
    · intro x y hx hy hxy h1 h2 h3 h4
      have key : ∀ z : Nat × Option Tmp × RS, z ∈ mk l sp (prev0 l.length Γx) l.length → vis eats z.1 l.length = true → z.2.2.ent e (e z.1) = (e z.1).2 ∧ (z.1 < l.length → listed.getD z.1 false = true) ∧ z.1 < l.length + Γx.length ∧ ∀ j, eater eats z.1 = some j → listed.getD j false = false := by
        intro z hz hv
        obtain ⟨i, d, s⟩ := z
        refine ⟨?_, fun h => hall i h, ?_, fun j hj => ?_⟩
        · rcases hfact0 hz with ⟨g1, rfl, rfl⟩ | ⟨g1, rfl, B, g2, rfl⟩
          · exact (inv.fact i g1 (hall i g1)).2.1.symm
          · have hp := inv.pse _ _ g2
            rw [show l.length + (i - l.length) = i by omega] at hp
            show [B] = (e i).2
            rw [hp]
        · rcases hfact0 hz with ⟨g1, _⟩ | ⟨g1, _, B, g2, _⟩
          · show i < _; omega
          · have := (List.getElem?_eq_some_iff.1 g2).1
            show i < _; omega
        · rw [hvl i hv] at hj; cases hj
      obtain ⟨x1, x2, x3, x4⟩ := key x hx h2
      obtain ⟨y1, y2, y3, y4⟩ := key y hy h4
      rw [x1, y1]
      exact (inv.live x.1 x2 x3 x4).2.2.2 y.1 (fun h => hxy h.symm) y2 y3 y4
    · obtain ⟨i, d, s, h1, h2, h3, h4⟩ := mem_ens.1 hA
      have hne : ∀ j, eater eats i = some j → listed.getD j false = false := fun j hj => by
        rw [hvl i h3] at hj; cases hj
      rcases hfact0 h1 with ⟨g1, rfl, rfl⟩ | ⟨g1, rfl, B, g2, rfl⟩
      · rw [← (inv.fact i g1 (hall i g1)).2.1] at h4
        exact ((inv.live i (fun _ => hall i g1) (by omega) hne).2.2.1 A h4).1 g hg
      · have hp := inv.pse _ _ g2
        have hil : i - l.length < Γx.length := (List.getElem?_eq_some_iff.1 g2).1
        rw [show l.length + (i - l.length) = i by omega] at hp
        have hl := (inv.live i (fun h => by omega) (by omega) hne).2.2.1
        rw [hp] at hl
        exact (hl A h4).1 g hg
    · obtain ⟨i, d, s⟩ := x
      rcases hfact0 hx with ⟨h1, rfl, rfl⟩ | ⟨h1, rfl, A, h2, rfl⟩
      · exact (inv.fact i h1 (hall i h1)).2.2
      · trivial
  -- where nothing is ready all is listed
  have hready : ∀ listed : Array Bool, listed.size = l.toArray.size → Region.ready .any l.toArray listed = [] → ∀ i, i < l.length → listed.getD i false = true := by
    intro listed hsz hr i
    induction i using Nat.strongRecOn with
    | ind i ih =>
      intro hi
      cases hg : listed.getD i false with
      | true => rfl
      | false =>
        exfalso
        have ho : l.toArray[i]? = some l[i] := by simp [hi]
        have : i ∈ Region.ready .any l.toArray listed := by
          rw [mem_ready]
          refine ⟨?_, l[i], ho, fun g hgm hb => ih g.on (hedge' i _ (List.getElem?_eq_getElem hi) g hgm hb) (by have := hedge' i _ (List.getElem?_eq_getElem hi) g hgm hb; omega)⟩
          have : i < listed.size := by simp at hsz; omega
          simpa [this] using hg
        rw [hr] at this
        cases this
  have main : ∀ fuel (listed : Array Bool) (e : Env) (a : Act) (w : World), listed.size = l.toArray.size → listed.toList.countP (!·) = fuel → InvR n Γx Γr l Ds eats sp a0 w0 listed e a w → wpAny P .any l.toArray Q fuel listed a w := by
    intro fuel
    induction fuel with
    | zero =>
      intro listed e a w hsz hc inv
      have hall : ∀ i, i < l.length → listed.getD i false = true := by
        intro i hi
        rw [List.countP_eq_zero] at hc
        have hil : i < listed.size := by simp at hsz; omega
        have := hc listed[i] (by simp)
        simpa [hil] using this
      refine ⟨?_, hQ listed e a w hall inv⟩
      cases hr : Region.ready .any l.toArray listed with
      | nil => rfl
      | cons j js =>
        exfalso
        have hj : j ∈ Region.ready .any l.toArray listed := by rw [hr]; exact List.mem_cons_self ..
        rw [mem_ready] at hj
        obtain ⟨g0, o2, go2, _⟩ := hj
        have hlt2 : j < l.length := by have := (Array.getElem?_eq_some_iff.1 go2).1; simpa using this
        exact getD_conf (hall j hlt2) g0
    | succ fuel ih =>
      intro listed e a w hsz hc inv
      refine ⟨fun hr => hQ listed e a w (hready listed hsz hr) inv, fun j hj => ?_⟩
      rw [mem_ready] at hj
      obtain ⟨h0, o, ho', hallE⟩ := hj
      have ho : l[j]? = some o := by simpa using ho'
      have hjl : j < l.length := hlen ho
      have hil : j < listed.size := by simp at hsz; omega
      have hun : listed.getD j false = false := by
        have h0' : listed[j]? = some false := by
          rw [Array.getElem?_eq_getElem hil]
          simpa [hil] using h0
        rw [Array.getD_eq_getD_getElem?, h0']; rfl
      have hfalse : listed.toList[j]? = some false := by
        have h0' : listed[j]? = some false := by
          rw [Array.getElem?_eq_getElem hil]
          simpa [hil] using h0
        simpa using h0'
      have hcnt : (listed.setIfInBounds j true).toList.countP (!·) = fuel := by
        have := countP_set_lt hfalse
        rw [Array.toList_setIfInBounds]
        omega
      -- what stands with j is listed
      have hDj : ∀ i, (Ds.getD j ([], [])).1.contains i = true → i < l.length → listed.getD i false = true := by
        intro i hi hil'
        obtain ⟨g, hg, hb, hor⟩ := hR j o i ho hi hil'
        have hl := hallE g hg hb
        rcases hor with rfl | hor
        · exact hl
        · exact inv.clos g.on i (by have := hedge' j o ho g hg hb; omega) hl hor hil'
      have hjD : (Ds.getD j ([], [])).1.contains j = false := by
        cases hc : (Ds.getD j ([], [])).1.contains j with
        | false => rfl
        | true => rcases hD1 j j hjl hc with ⟨h1, _⟩ | ⟨h1, _⟩ <;> omega
      have hObj := hob' j o ho
      -- the entries that j sees live
      have hlive : ∀ {i : Nat} {d : Option Tmp} {s : RS}, (i, d, s) ∈ mk l sp (prev0 l.length Γx) j → (Ds.getD j ([], [])).1.contains i = true → vis eats i j = true →
          s.ent e (e i) = (e i).2 ∧ (i < l.length → listed.getD i false = true) ∧ i < l.length + Γx.length ∧ ∀ k, eater eats i = some k → listed.getD k false = false := by
        intro i d s hm hD hv
        have hk : ∀ k, eater eats i = some k → listed.getD k false = false := fun k hk => by
          unfold vis at hv
          rw [hk] at hv
          simp only [Bool.or_eq_true] at hv
          rcases hv with hv | hv
          · have := beq_true hv; subst this; exact hun
          · rcases (hEatM _ _ (sees_mem hv)).2.2 k hk with h | h
            · subst h; exact hun
            · cases hlk : listed.getD k false with
              | false => rfl
              | true =>
                have := inv.clos k j (hEat i k hk).1 hlk h hjl
                rw [hun] at this; cases this
        rcases hfact0 hm with ⟨g1, rfl, rfl⟩ | ⟨g1, rfl, B, g2, rfl⟩
        · have hli := hDj i hD (by omega)
          exact ⟨(inv.fact i (by omega) hli).2.1.symm, fun _ => hli, by omega, hk⟩
        · have hp := inv.pse _ _ g2
          have := (List.getElem?_eq_some_iff.1 g2).1
          rw [show l.length + (i - l.length) = i by omega] at hp
          refine ⟨?_, fun h => by omega, by omega, hk⟩
          show [B] = (e i).2
          rw [hp]
      have hFr : Fr n (bnd (Ds.getD j ([], [])).1 e (mk l sp (prev0 l.length Γx) j) ++ fcut (Ds.getD j ([], [])).2 F) a := by
        refine ⟨inv.size, inv.defers, fun t v hv => ?_⟩
        rw [lkT_append] at hv
        cases hb : lkT (bnd (Ds.getD j ([], [])).1 e (mk l sp (prev0 l.length Γx) j)) t with
        | some v' =>
          rw [hb] at hv
          simp only [Option.some.injEq] at hv
          subst hv
          obtain ⟨i, s, h1, h2, h3⟩ := lkT_bnd hb
          rcases hfact0 h1 with ⟨g1, g2, rfl⟩ | ⟨_, g2, _⟩
          · have hoi : l[i]? = some l[i] := List.getElem?_eq_getElem (by omega)
            rw [hoi] at g2
            have hli := hDj i h2 (by omega)
            rw [inv.slot i l[i] t hoi (by simpa using g2.symm) hli, h3]
            exact (inv.fact i (by omega) hli).1
          · cases g2
        | none =>
          rw [hb] at hv
          simp only at hv
          obtain ⟨hc1, hc2⟩ := lkT_fcut hv
          rw [inv.out t fun k o2 hk hd => ?_]
          · exact hf.get t v hc2
          · cases hlk : listed.getD k false with
            | false => rfl
            | true =>
              exfalso
              have hkj : j ≠ k := by rintro rfl; rw [hun] at hlk; cases hlk
              cases hDk : (Ds.getD k ([], [])).1.contains j with
              | true =>
                have := inv.clos k j (hlen hk) hlk hDk hjl
                rw [hun] at this; cases this
              | false =>
                have := hB j k o2 t hjl hk hd hkj hDk
                rw [hc1] at this; cases this
      have hoks : oks (Ds.getD j ([], [])).1 e (mk l sp (prev0 l.length Γx) j) := oks_of fun x hx hD => by
        obtain ⟨i, d, s⟩ := x
        rcases hfact0 hx with ⟨g1, rfl, rfl⟩ | ⟨g1, rfl, B, g2, rfl⟩
        · exact (inv.fact i (by omega) (hDj i hD (by omega))).2.2
        · trivial
      have hHolds : Holds (ens eats (Ds.getD j ([], [])).1 j e (mk l sp (prev0 l.length Γx) j) ++ Γr) w := by
        intro A hA
        rcases List.mem_append.1 hA with hA | hA
        · obtain ⟨i, d, s, h1, h2, h3, h4⟩ := mem_ens.1 hA
          obtain ⟨l1, l2, l3, l4⟩ := hlive h1 h2 h3
          rw [l1] at h4
          exact (inv.live i l2 l3 l4).1 A h4
        · exact inv.holdG A hA
      have hApart : (ens eats (Ds.getD j ([], [])).1 j e (mk l sp (prev0 l.length Γx) j) ++ Γr).Pairwise Apart := by
        refine List.pairwise_append.2 ⟨ens_apart (mk_nodup (by omega)) (fun x hx h1 h2 => ?_) (fun x y hx hy hne h1 h2 h3 h4 => ?_), ga2, fun A hA B hB => ?_⟩
        · obtain ⟨l1, l2, l3, l4⟩ := hlive hx h1 h2
          rw [l1]
          exact (inv.live x.1 l2 l3 l4).2.1
        · obtain ⟨l1, l2, l3, l4⟩ := hlive hx h1 h2
          obtain ⟨m1, m2, m3, m4⟩ := hlive hy h3 h4
          rw [l1, m1]
          exact (inv.live x.1 l2 l3 l4).2.2.2 y.1 (fun h => hne h.symm) m2 m3 m4
        · obtain ⟨i, d, s, h1, h2, h3, h4⟩ := mem_ens.1 hA
          obtain ⟨l1, l2, l3, l4⟩ := hlive h1 h2 h3
          rw [l1] at h4
          exact ((inv.live i l2 l3 l4).2.2.1 A h4).2 B hB
      -- a step
      have next : ∀ (v : Value) (Γ' : List Asn) (w' : World), (sp j).Fact e (v, Γ') → Post (ownFp (eaten1 eats j e (mk l sp (prev0 l.length Γx) j))) w Γ' w' →
          InvR n Γx Γr l Ds eats sp a0 w0 (listed.setIfInBounds j true) (fun k => if k = j then (v, Γ') else e k) (a.put o.dst v) w' := by
        intro v Γ' w' hfa hpost
        -- what is eaten
        have heaten : ∀ g, ownFp (eaten1 eats j e (mk l sp (prev0 l.length Γx) j)) g → ∃ i A, eater eats i = some j ∧ i ≠ j ∧ (i < l.length → listed.getD i false = true) ∧ i < l.length + Γx.length ∧ (∀ k, eater eats i = some k → listed.getD k false = false) ∧ A ∈ (e i).2 ∧ A.own = true ∧ A.fp g := by
          rintro g ⟨A, hA, hown, hg⟩
          obtain ⟨i, d, s, h1, h2, h3⟩ := mem_eaten1 hA
          have hD := (hEat i j h2).2
          obtain ⟨l1, l2, l3, l4⟩ := hlive h1 hD (by unfold vis; rw [h2]; simp)
          rw [l1] at h3
          refine ⟨i, A, h2, ?_, l2, l3, l4, h3, hown, hg⟩
          rintro rfl
          rw [hjD] at hD; cases hD
        have hlist : ∀ k, k ≠ j → (listed.setIfInBounds j true).getD k false = listed.getD k false := fun k hk => getD_set_ne false (Ne.symm hk)
        have hlistj : (listed.setIfInBounds j true).getD j false = true := by simp [hil]
        -- what lives behind, and is not new, lived and stays
        have hold : ∀ i, i ≠ j → (i < l.length → (listed.setIfInBounds j true).getD i false = true) → i < l.length + Γx.length → (∀ k, eater eats i = some k → (listed.setIfInBounds j true).getD k false = false) →
            (i < l.length → listed.getD i false = true) ∧ (∀ k, eater eats i = some k → listed.getD k false = false) ∧ (∀ A, A ∈ (e i).2 → A.holds w' ∧ ∀ g, A.fp g → ¬ ownFp (eaten1 eats j e (mk l sp (prev0 l.length Γx) j)) g ∧ g < w.heap.size) := by
          intro i hij h1 h2 h3
          have h1' : i < l.length → listed.getD i false = true := fun h => by rw [← hlist i hij]; exact h1 h
          have hnj : eater eats i ≠ some j := fun h => by have := h3 j h; rw [hlistj] at this; cases this
          have h3' : ∀ k, eater eats i = some k → listed.getD k false = false := fun k hk => by
            rw [← hlist k (by rintro rfl; exact hnj hk)]; exact h3 k hk
          refine ⟨h1', h3', fun A hA => ?_⟩
          have hl := inv.live i h1' h2 h3'
          have hAw := hl.1 A hA
          have hfree : ∀ g, A.fp g → ¬ ownFp (eaten1 eats j e (mk l sp (prev0 l.length Γx) j)) g := by
            intro g hg hx
            obtain ⟨i', B, e1, e2, e3, e4, e5, e6, e7, e8⟩ := heaten g hx
            have hne : i' ≠ i := by rintro rfl; exact hnj e1
            exact (hl.2.2.2 i' hne e3 e4 e5 A hA B e6) (.inr e7) g hg e8
          exact ⟨A.loc w w' hAw fun g hg => hpost.mod.block g (A.lt w hAw g hg) (hfree g hg), fun g hg => ⟨hfree g hg, A.lt w hAw g hg⟩⟩
        have hnewG : ∀ g, ownFp (eaten1 eats j e (mk l sp (prev0 l.length Γx) j)) g → w0.heap.size ≤ g ∨ ownFp Γx g := by
          intro g hx
          obtain ⟨i', B, e1, e2, e3, e4, e5, e6, e7, e8⟩ := heaten g hx
          exact ((inv.live i' e3 e4 e5).2.2.1 B e6).1 g e8
        refine ⟨by rw [put_defers]; exact inv.defers, by rw [put_size]; exact inv.size, ?_, ?_, ?_, ?_, ?_, ?_, ?_, ?_⟩
        · -- out
          intro t ht
          have hoj := ht j o ho
          rw [put_getD_ne _ _ _ _ (fun hd => by have := hoj hd; rw [hlistj] at this; cases this)]
          refine inv.out t fun i o2 hi hd => ?_
          by_cases hij : i = j
          · subst hij; exact hun
          · rw [← hlist i hij]; exact ht i o2 hi hd
        · -- slot
          intro i o2 d hi hd hli
          by_cases hij : i = j
          · subst hij
            have : o2 = o := by rw [ho] at hi; exact (Option.some.inj hi).symm
            subst this
            rw [hd, put_getD_eq _ _ _ (by rw [inv.size]; exact hlt' i o2 d hi hd)]
            simp
          · rw [hlist i hij] at hli
            rw [put_getD_ne _ _ _ _ (fun hd' => hij (hinj hi ho hd hd'))]
            simp only [hij, if_false]
            exact inv.slot i o2 d hi hd hli
        · -- fact
          intro i hi hli
          have hmaskeq : ∀ k, k < l.length → (Ds.getD k ([], [])).1.contains j = false → mask (Ds.getD k ([], [])).1 (fun k => if k = j then (v, Γ') else e k) = mask (Ds.getD k ([], [])).1 e := by
            intro k _ hc
            funext q
            unfold mask
            cases hq : (Ds.getD k ([], [])).1.contains q with
            | false => rfl
            | true =>
              have : q ≠ j := by rintro rfl; rw [hc] at hq; cases hq
              simp [this]
          by_cases hij : i = j
          · subst hij
            simp only [if_true]
            have hins := hObj.ins
            have em := hmaskeq i hi hjD
            obtain ⟨f1, f2, f3⟩ := hfa
            have i1 := hins e (v, Γ')
            have i2 := hins (fun k => if k = i then (v, Γ') else e k) (v, Γ')
            rw [em] at i2
            exact ⟨by rw [← i2.1, i1.1]; exact f1, by rw [← i2.2.1, i1.2.1]; exact f2, by rw [← i2.2.2, i1.2.2]; exact f3⟩
          · rw [hlist i hij] at hli
            simp only [hij, if_false]
            have hins := (hob' i l[i] (List.getElem?_eq_getElem hi)).ins
            have hci : (Ds.getD i ([], [])).1.contains j = false := by
              cases hc : (Ds.getD i ([], [])).1.contains j with
              | false => rfl
              | true => have := inv.clos i j hi hli hc hjl; rw [hun] at this; cases this
            have em := hmaskeq i hi hci
            obtain ⟨f1, f2, f3⟩ := inv.fact i hi hli
            have i1 := hins e (e i)
            have i2 := hins (fun k => if k = j then (v, Γ') else e k) (e i)
            rw [em] at i2
            exact ⟨by rw [← i2.1, i1.1]; exact f1, by rw [← i2.2.1, i1.2.1]; exact f2, by rw [← i2.2.2, i1.2.2]; exact f3⟩
        · -- pse
          intro k A hk
          rw [if_neg (by omega)]
          exact inv.pse k A hk
        · exact inv.mod.after hpost.mod fun g hg hx => (hnewG g hx).resolve_left (by omega)
        · -- live
          intro i h1 h2 h3
          by_cases hij : i = j
          · subst hij
            simp only [if_true]
            refine ⟨hpost.all, hpost.apart, fun A hA => ⟨fun g hg => ?_, fun B hB hor g hg hg' => ?_⟩, fun k hk g1 g2 g3 A hA B hB hor g hg hg' => ?_⟩
            · rcases hpost.new A hA g hg with h | h
              · exact .inl (Nat.le_trans inv.mod.size h)
              · exact hnewG g h
            · rcases hpost.new A hA g hg with h | h
              · have := B.lt w (inv.holdG B hB) g hg'; omega
              · obtain ⟨i', C, e1, e2, e3, e4, e5, e6, e7, e8⟩ := heaten g h
                exact ((inv.live i' e3 e4 e5).2.2.1 C e6).2 B hB (.inl e7) g e8 hg'
            · rw [if_neg hk] at hB
              obtain ⟨q1, q2, q3⟩ := hold k hk g1 g2 g3
              have hb := (q3 B hB).2 g hg'
              rcases hpost.new A hA g hg with h | h
              · omega
              · exact hb.1 h
          · obtain ⟨q1, q2, q3⟩ := hold i hij h1 h2 h3
            have hl := inv.live i q1 h2 q2
            simp only [hij, if_false]
            refine ⟨fun A hA => (q3 A hA).1, hl.2.1, hl.2.2.1, fun k hk g1 g2 g3 A hA B hB => ?_⟩
            by_cases hkj : k = j
            · subst hkj
              rw [if_pos rfl] at hB
              intro hor g hg hg'
              have hb := (q3 A hA).2 g hg
              rcases hpost.new B hB g hg' with h | h
              · omega
              · exact hb.1 h
            · rw [if_neg hkj] at hB
              obtain ⟨p1, p2, p3⟩ := hold k hkj g1 g2 g3
              exact hl.2.2.2 k hk p1 g2 p2 A hA B hB
        · -- holdG
          intro B hB
          refine B.loc w w' (inv.holdG B hB) fun g hg => hpost.mod.block g (B.lt w (inv.holdG B hB) g hg) fun hx => ?_
          obtain ⟨i', C, e1, e2, e3, e4, e5, e6, e7, e8⟩ := heaten g hx
          exact ((inv.live i' e3 e4 e5).2.2.1 C e6).2 B hB (.inl e7) g e8 hg
        · -- clos
          intro k i hk hlk hc hi
          by_cases hij : i = j
          · subst hij; exact hlistj
          · rw [hlist i hij]
            by_cases hkj : k = j
            · subst hkj; exact hDj i hc hi
            · rw [hlist k hkj] at hlk
              exact inv.clos k i hk hlk hc hi
      have goal : ∀ v w', (∃ Γ', (sp j).Fact e (v, Γ') ∧ Post (ownFp (eaten1 eats j e (mk l sp (prev0 l.length Γx) j))) w Γ' w') → wpAny P .any l.toArray Q fuel (listed.setIfInBounds j true) (a.put o.dst v) w' := by
        rintro v w' ⟨Γ', hfa, hpost⟩
        exact ih _ _ _ _ (by simpa using hsz) hcnt (next v Γ' w' hfa hpost)
      unfold wpOp
      simp only [ho']
      rcases hObj.does e a w hFr hHolds hApart hoks with ⟨hw, hd⟩ | ⟨hw, hfa⟩
      · rw [if_pos hw]
        refine .inl ?_
        unfold DoesW at hd
        unfold Oper.wp
        generalize (execOp a.eval o).run P w = r at hd
        cases r with
        | ok m w' =>
          cases m with
          | value v => exact goal _ _ hd
          | skip => exact goal _ _ hd
          | enter f args =>
            refine Calls.mono hd ?_
            rintro e' w'' ⟨v, rfl, hR'⟩
            exact goal _ _ hR'
          | row row args => exact Rows.mono hd fun v w'' hR' => goal _ _ hR'
          | _ => exact hd.elim
        | halt x w' => exact hd.elim
      · rw [if_neg (by rw [hw]; decide)]
        exact goal _ _ ⟨[], hfa, Post.nil (Mod.refl _ _)⟩
  have e0 : ∃ e0 : Env, ∀ k A, Γx[k]? = some A → e0 (l.length + k) = (undef, [A]) := ⟨fun i => match Γx[i - l.length]? with | some A => (undef, [A]) | none => (undef, []), fun k A hk => by simp [hk]⟩
  obtain ⟨e0, he0⟩ := e0
  have hno : ∀ i, (Array.replicate l.toArray.size false).getD i false = false := fun i => by
    rw [Array.getD_eq_getD_getElem?, Array.getElem?_replicate]; split <;> rfl
  obtain ⟨gb1, gb2, gb3⟩ := List.pairwise_append.1 hg0.apart
  refine main l.toArray.size _ e0 a0 w0 (by simp) (by simp [List.countP_replicate]) ⟨hf.defers, hf.size, fun _ _ => rfl, fun i o d _ _ h => ?_, fun i _ h => ?_, he0, Mod.refl _ _, fun i h1 h2 _ => ?_, fun B hB => hg0.all B (List.mem_append_right _ hB), fun k i _ h => ?_⟩
  · rw [hno] at h; cases h
  · rw [hno] at h; cases h
  · have hge : l.length ≤ i := by
      rcases Nat.lt_or_ge i l.length with h | h
      · have := h1 h; rw [hno] at this; cases this
      · exact h
    have hi : Γx[i - l.length]? = some Γx[i - l.length] := List.getElem?_eq_getElem (by omega)
    have hp := he0 _ _ hi
    rw [show l.length + (i - l.length) = i by omega] at hp
    rw [hp]
    have hmem : Γx[i - l.length] ∈ Γx := List.getElem_mem (by omega)
    refine ⟨fun A hA => ?_, List.pairwise_singleton _ _, fun A hA => ⟨fun g hg => ?_, fun B hB => ?_⟩, fun k hk g1 g2 _ A hA B hB => ?_⟩
    · rw [List.mem_singleton.1 hA]; exact hg0.all _ (List.mem_append_left _ hmem)
    · rw [List.mem_singleton.1 hA] at hg; exact .inr ⟨_, hmem, hox _ hmem, hg⟩
    · rw [List.mem_singleton.1 hA]; exact gb3 _ hmem B hB
    · have hge' : l.length ≤ k := by
        rcases Nat.lt_or_ge k l.length with h | h
        · have := g1 h; rw [hno] at this; cases this
        · exact h
      have hk' : Γx[k - l.length]? = some Γx[k - l.length] := List.getElem?_eq_getElem (by omega)
      have hp' := he0 _ _ hk'
      rw [show l.length + (k - l.length) = k by omega] at hp'
      rw [hp'] at hB
      rw [List.mem_singleton.1 hA, List.mem_singleton.1 hB]
      rw [List.pairwise_iff_getElem] at gb1
      rcases Nat.lt_or_ge (i - l.length) (k - l.length) with h | h
      · exact gb1 _ _ (by omega) (by omega) h
      · exact (gb1 _ _ (by omega) (by omega) (show k - l.length < i - l.length by omega)).symm
  · rw [hno] at h; cases h

/-! ### The operations of such a region -/

def StepOb (P : Program) (n : Nat) (Γ : List Asn) (F : List (Nat × Value)) (ops : Array Oper) (o : Oper) (Γo : List Asn) (va : Value × List Asn → Value) (en : Value × List Asn → List Asn) (ok : Value × List Asn → Prop) : Prop :=
  ∀ ρ w, Fr n F ρ → Holds Γ w → Γ.Pairwise Apart →
    (Region.wanted o (yielded ops ρ.tmps) = true ∧ DoesW P o ρ w fun v w' => ∃ Γ', (v = va (v, Γ') ∧ Γ' = en (v, Γ') ∧ ok (v, Γ')) ∧ Post (ownFp Γo) w Γ' w') ∨
    (Region.wanted o (yielded ops ρ.tmps) = false ∧ undef = va (undef, []) ∧ [] = en (undef, []) ∧ ok (undef, []))

theorem RGl.nil {ops : Array Oper} {eats : List (Nat × Nat)} {K : Prev → Prop} {j : Nat} {prev : Prev} (k : K prev) : RGl P n Γ F ops eats K j [] [] prev := k
theorem RGl.step {ops : Array Oper} {eats : List (Nat × Nat)} {K : Prev → Prop} {j : Nat} {o : Oper} {os : List Oper} {D bad : List Nat} {Ds : List (List Nat × List Nat)} {prev : Prev} {va : Env → Value × List Asn → Value} {en : Env → Value × List Asn → List Asn} {ok : Env → Value × List Asn → Prop}
    (h : ∀ e, oks D e prev → StepOb P n (ens eats D j e prev ++ Γ) (bnd D e prev ++ fcut bad F) ops o (eaten1 eats j e prev) (va e) (en e) (ok e)) (hi : ∀ e r, va (mask D e) r = va e r ∧ en (mask D e) r = en e r ∧ ok (mask D e) r = ok e r)
    (k : RGl P n Γ F ops eats K (j + 1) os Ds ((j, o.dst, ⟨va, en, ok⟩) :: prev)) : RGl P n Γ F ops eats K j (o :: os) ((D, bad) :: Ds) prev :=
  ⟨⟨va, en, ok⟩, ⟨hi, fun e ρ w hf hw ha ho => h e ho ρ w hf hw ha⟩, k⟩

variable {ops : Array Oper} {o : Oper} {Γo : List Asn}
theorem StepOb.op {va : Value × List Asn → Value} {en : Value × List Asn → List Asn} {ok : Value × List Asn → Prop} {Γ1 : List Asn} {R : Value → List Asn → Prop} (hw : wantG F ops o.guard = some true) (h : OpT P n Γ F o Γ1 R) (hs : ∀ A, A ∈ Γ1 → A ∈ Γo) (hR : ∀ v Γ', R v Γ' → v = va (v, Γ') ∧ Γ' = en (v, Γ') ∧ ok (v, Γ')) : StepOb P n Γ F ops o Γo va en ok := by
  intro ρ w hf hh ha
  refine .inl ⟨wanted_of hf hw, (h ρ w hf hh ha).mono ?_⟩
  rintro v w' ⟨Γ', hr, hp⟩
  refine ⟨Γ', hR v Γ' hr, ⟨hp.mod.weaken ?_, hp.all, hp.apart, fun A hA g hg => ?_⟩⟩
  · rintro g _ ⟨A, hA, ho, hg⟩; exact ⟨A, hs A hA, ho, hg⟩
  · rcases hp.new A hA g hg with h | ⟨B, hB, ho, hg⟩
    · exact .inl h
    · exact .inr ⟨B, hs B hB, ho, hg⟩
theorem StepOb.sk (hw : wantG F ops o.guard = some false) : StepOb P n Γ F ops o Γo (fun _ => undef) (fun _ => []) (fun _ => True) := fun ρ w hf _ _ => .inr ⟨wanted_of hf hw, rfl, rfl, trivial⟩
/-- The block of a pointer. -/
def blk : Value → Nat
  | .pointer (some a) => a.block
  | _ => 0
theorem StepOb.nw {T : TypeId} {cs : Ch} (h : OpT P n Γ F o [] (RNew T cs)) (hw : wantG F ops o.guard = some true) : StepOb P n Γ F ops o Γo (fun r => .pointer (some ⟨blk r.1, 0, none⟩)) (fun r => [bx (blk r.1) T cs]) (fun _ => True) :=
  .op hw h (fun A hA => by cases hA) (by rintro v Γ' ⟨g, rfl, rfl⟩; exact ⟨rfl, rfl, trivial⟩)
theorem StepOb.row {e : TypeId} {sz m : Nat} {xs : List Value} {Γ1 : List Asn} (h : OpT P n Γ F o Γ1 (RRow e sz m xs)) (hs : ∀ A, A ∈ Γ1 → A ∈ Γo) (hw : wantG F ops o.guard = some true) : StepOb P n Γ F ops o Γo (fun r => r.1) (fun r => [rowN e sz r.1 m xs]) (fun r => r.1.oneCell' = true) :=
  .op hw h hs (by rintro v Γ' ⟨h1, rfl⟩; exact ⟨rfl, rfl, h1⟩)
theorem StepOb.turn {A B : Asn} (h : OpT P n Γ F o [A] (RLeave [B])) (hs : A ∈ Γo) (hw : wantG F ops o.guard = some true) : StepOb P n Γ F ops o Γo (fun r => r.1) (fun _ => [B]) (fun _ => True) :=
  .op hw h (fun C hC => by rw [List.mem_singleton.1 hC]; exact hs) (by rintro v Γ' rfl; exact ⟨rfl, rfl, trivial⟩)

/-- A call, as what an operation does. -/
theorem OpT.call {d : Option Tmp} {f : FuncId} {xs : List Operand} {ts : Array TypeId} {ty : TypeId} {pos : String} {af : Array Edge} {gd : Option (Nat × Bool)} {vs : List Value} {Δ : List Asn} {R : Value → List Asn → Prop}
    (h : Triple P f vs.toArray Δ R) (hx : evFs F xs vs) (hΔ : Provs Γ Δ) (hc : isCode P f = true) : OpT P n Γ F ⟨d, .call { callee := .value (.func f), args := xs.toArray, argTypes := ts }, ty, pos, af, gd⟩ [] R := by
  intro ρ w hf hw ha
  unfold DoesW
  rw [run_call hc, hx.map hf]
  refine (Triple.frame (Γo := []) (Γf := Γ) (by rw [List.append_nil]; exact h) hw ha hΔ (fun A _ g _ => ?_)).mono ?_
  · rintro ⟨B, hB, _⟩; cases hB
  · rintro e w' ⟨v, Γ', he, hR, hp⟩
    exact ⟨v, he, Γ', hR, hp⟩


/-! ### The same, in words that the walk can read at once -/

@[reducible] def memN : List Nat → Nat → Bool
  | [], _ => false
  | a :: l, i => match Nat.beq a i with | true => true | false => memN l i
@[reducible] def eatN : List (Nat × Nat) → Nat → Option Nat
  | [], _ => none
  | (a, b) :: l, i => match Nat.beq a i with | true => some b | false => eatN l i
@[reducible] def seesN : List (Nat × Nat) → Nat → Nat → Bool
  | [], _, _ => false
  | (a, b) :: es, i, j => match Nat.beq a i with | true => (match Nat.beq b j with | true => true | false => seesN es i j) | false => seesN es i j
@[reducible] def visN (eats : List (Nat × Nat)) (i j : Nat) : Bool := match eatN eats i with | none => true | some k => match Nat.beq k j with | true => true | false => seesN eats i j
def bndR (D : List Nat) (e : Env) : Prev → List (Nat × Value)
  | [] => []
  | (i, some d, s) :: ps => match memN D i with | true => (d, s.val e (e i)) :: bndR D e ps | false => bndR D e ps
  | (_, none, _) :: ps => bndR D e ps
def ensR (eats : List (Nat × Nat)) (D : List Nat) (j : Nat) (e : Env) : Prev → List Asn
  | [] => []
  | (i, _, s) :: ps => match memN D i with
    | true => match visN eats i j with
      | true => s.ent e (e i) ++ ensR eats D j e ps
      | false => ensR eats D j e ps
    | false => ensR eats D j e ps
def ensAR (eats : List (Nat × Nat)) (e : Env) : Prev → List Asn
  | [] => []
  | (i, _, s) :: ps => match eatN eats i with
    | none => s.ent e (e i) ++ ensAR eats e ps
    | some _ => ensAR eats e ps
def oksR (D : List Nat) (e : Env) : Prev → Prop
  | [] => True
  | (i, _, s) :: ps => match memN D i with
    | true => s.ok e (e i) ∧ oksR D e ps
    | false => oksR D e ps
def eaten1R (eats : List (Nat × Nat)) (j : Nat) (e : Env) : Prev → List Asn
  | [] => []
  | (i, _, s) :: ps => match eatN eats i with
    | none => eaten1R eats j e ps
    | some k => match Nat.beq k j with
      | true => s.ent e (e i) ++ eaten1R eats j e ps
      | false => eaten1R eats j e ps
def fcutR (bad : List Nat) : List (Nat × Value) → List (Nat × Value)
  | [] => []
  | (t, v) :: F => match memN bad t with
    | true => fcutR bad F
    | false => (t, v) :: fcutR bad F

theorem memN_eq : ∀ (D : List Nat) (i : Nat), D.contains i = memN D i
  | [], _ => rfl
  | a :: D, i => by
    rw [List.contains_cons, memN_eq D i]
    show _ = match Nat.beq a i with | true => true | false => memN D i
    by_cases h : a = i
    · subst h; simp
    · have h1 : Nat.beq a i = false := by rw [← Bool.not_eq_true]; intro hh; exact h (beq_true hh)
      have h2 : (i == a) = false := by simp; exact fun hh => h hh.symm
      rw [h1, h2]; rfl
theorem eatN_eq : ∀ (es : List (Nat × Nat)) (i : Nat), eater es i = eatN es i
  | [], _ => rfl
  | (a, b) :: es, i => by
    unfold eater eatN
    by_cases h : a = i
    · subst h; simp
    · have h1 : Nat.beq a i = false := by rw [← Bool.not_eq_true]; intro hh; exact h (beq_true hh)
      rw [if_neg h, h1, eatN_eq es i]
theorem seesN_eq : ∀ (es : List (Nat × Nat)) (i j : Nat), sees es i j = seesN es i j
  | [], _, _ => rfl
  | (a, b) :: es, i, j => by
    unfold sees
    rw [seesN_eq es i j]
    show _ = match Nat.beq a i with | true => (match Nat.beq b j with | true => true | false => seesN es i j) | false => seesN es i j
    cases Nat.beq a i <;> cases Nat.beq b j <;> rfl
theorem visN_eq (es : List (Nat × Nat)) (i j : Nat) : vis es i j = visN es i j := by
  unfold vis visN; rw [eatN_eq]
  cases eatN es i with
  | none => rfl
  | some k => simp only [seesN_eq]; cases Nat.beq k j <;> rfl
theorem bndR_eq (D : List Nat) (e : Env) : ∀ ps : Prev, bnd D e ps = bndR D e ps
  | [] => rfl
  | (i, some d, s) :: ps => by unfold bnd bndR; rw [memN_eq, bndR_eq D e ps]; cases memN D i <;> rfl
  | (i, none, s) :: ps => by unfold bnd bndR; rw [bndR_eq D e ps]; cases D.contains i <;> rfl
theorem ensR_eq (eats : List (Nat × Nat)) (D : List Nat) (j : Nat) (e : Env) : ∀ ps : Prev, ens eats D j e ps = ensR eats D j e ps
  | [] => rfl
  | (i, _, s) :: ps => by unfold ens ensR; rw [memN_eq, visN_eq, ensR_eq eats D j e ps]; cases memN D i <;> cases visN eats i j <;> rfl
theorem ensAR_eq (eats : List (Nat × Nat)) (e : Env) : ∀ ps : Prev, ensA eats e ps = ensAR eats e ps
  | [] => rfl
  | (i, _, s) :: ps => by unfold ensA ensAR; rw [eatN_eq, ensAR_eq eats e ps]
theorem oksR_eq (D : List Nat) (e : Env) : ∀ ps : Prev, oks D e ps = oksR D e ps
  | [] => rfl
  | (i, _, s) :: ps => by unfold oks oksR; rw [memN_eq, oksR_eq D e ps]
theorem eaten1R_eq (eats : List (Nat × Nat)) (j : Nat) (e : Env) : ∀ ps : Prev, eaten1 eats j e ps = eaten1R eats j e ps
  | [] => rfl
  | (i, _, s) :: ps => by
    unfold eaten1 eaten1R; rw [eatN_eq, eaten1R_eq eats j e ps]
theorem fcutR_eq (bad : List Nat) : ∀ F : List (Nat × Value), fcut bad F = fcutR bad F
  | [] => rfl
  | (t, v) :: F => by unfold fcut fcutR; rw [memN_eq, fcutR_eq bad F]

section
variable {eats : List (Nat × Nat)} {K : Prev → Prop} {j : Nat} {os : List Oper} {D bad : List Nat} {Ds : List (List Nat × List Nat)} {prev : Prev}
theorem RGl.stepR {va : Env → Value × List Asn → Value} {en : Env → Value × List Asn → List Asn} {ok : Env → Value × List Asn → Prop}
    (h : ∀ e, oksR D e prev → StepOb P n (ensR eats D j e prev ++ Γ) (bndR D e prev ++ fcutR bad F) ops o (eaten1R eats j e prev) (va e) (en e) (ok e)) (hi : ∀ e r, va (mask D e) r = va e r ∧ en (mask D e) r = en e r ∧ ok (mask D e) r = ok e r)
    (k : RGl P n Γ F ops eats K (j + 1) os Ds ((j, o.dst, ⟨va, en, ok⟩) :: prev)) : RGl P n Γ F ops eats K j (o :: os) ((D, bad) :: Ds) prev :=
  RGl.step (fun e he => by rw [ensR_eq, bndR_eq, fcutR_eq, eaten1R_eq]; exact h e (oksR_eq D e prev ▸ he)) hi k

theorem RGl.vl {c : Env → Value} (h : ∀ e, oksR D e prev → OpT P n (ensR eats D j e prev ++ Γ) (bndR D e prev ++ fcutR bad F) o [] (RVal (c e)))
    (k : RGl P n Γ F ops eats K (j + 1) os Ds ((j, o.dst, ⟨fun e _ => c e, fun _ _ => [], fun _ _ => True⟩) :: prev)) (hw : ∀ e, wantG (bndR D e prev ++ fcutR bad F) ops o.guard = some true := by intro e; first | rfl | fail) (hi : ∀ e, c (mask D e) = c e := by intro e; first | rfl | fail) :
    RGl P n Γ F ops eats K j (o :: os) ((D, bad) :: Ds) prev :=
  RGl.stepR (fun e he => .op (hw e) (h e he) (fun A hA => by cases hA) fun v Γ' ⟨h1, h2⟩ => ⟨h1, h2, trivial⟩) (fun e _ => ⟨hi e, rfl, rfl⟩) k
theorem RGl.skp (k : RGl P n Γ F ops eats K (j + 1) os Ds ((j, o.dst, ⟨fun _ _ => undef, fun _ _ => [], fun _ _ => True⟩) :: prev)) (hw : ∀ e, wantG (bndR D e prev ++ fcutR bad F) ops o.guard = some false := by intro e; first | rfl | fail) : RGl P n Γ F ops eats K j (o :: os) ((D, bad) :: Ds) prev :=
  RGl.stepR (fun e he => .sk (hw e)) (fun e _ => ⟨rfl, rfl, rfl⟩) k
theorem RGl.new {T : Env → TypeId} {cs : Env → Ch} (h : ∀ e, oksR D e prev → OpT P n (ensR eats D j e prev ++ Γ) (bndR D e prev ++ fcutR bad F) o [] (RNew (T e) (cs e)))
    (k : RGl P n Γ F ops eats K (j + 1) os Ds ((j, o.dst, ⟨fun _ r => .pointer (some ⟨blk r.1, 0, none⟩), fun e r => [bx (blk r.1) (T e) (cs e)], fun _ _ => True⟩) :: prev)) (hw : ∀ e, wantG (bndR D e prev ++ fcutR bad F) ops o.guard = some true := by intro e; first | rfl | fail) (hi : ∀ e, T (mask D e) = T e ∧ cs (mask D e) = cs e := by intro e; first | exact ⟨rfl, rfl⟩ | fail) :
    RGl P n Γ F ops eats K j (o :: os) ((D, bad) :: Ds) prev :=
  RGl.stepR (fun e he => .nw (h e he) (hw e)) (fun e _ => ⟨rfl, by show [_] = [_]; rw [(hi e).1, (hi e).2], rfl⟩) k
theorem RGl.row {ety : Env → TypeId} {sz : Env → Nat} {m : Env → Nat} {xs : Env → List Value} {Γ1 : Env → List Asn} (h : ∀ e, oksR D e prev → OpT P n (ensR eats D j e prev ++ Γ) (bndR D e prev ++ fcutR bad F) o (Γ1 e) (RRow (ety e) (sz e) (m e) (xs e)))
    (k : RGl P n Γ F ops eats K (j + 1) os Ds ((j, o.dst, ⟨fun _ r => r.1, fun e r => [rowN (ety e) (sz e) r.1 (m e) (xs e)], fun _ r => r.1.oneCell' = true⟩) :: prev)) (hs : ∀ e, Γ1 e = eaten1R eats j e prev := by intro e; first | rfl | fail) (hw : ∀ e, wantG (bndR D e prev ++ fcutR bad F) ops o.guard = some true := by intro e; first | rfl | fail) (hi : ∀ e, ety (mask D e) = ety e ∧ sz (mask D e) = sz e ∧ m (mask D e) = m e ∧ xs (mask D e) = xs e := by intro e; first | exact ⟨rfl, rfl, rfl, rfl⟩ | fail) :
    RGl P n Γ F ops eats K j (o :: os) ((D, bad) :: Ds) prev :=
  RGl.stepR (fun e he => .row (h e he) (fun A hA => by rw [← hs e]; exact hA) (hw e)) (fun e _ => ⟨rfl, by show [_] = [_]; rw [(hi e).1, (hi e).2.1, (hi e).2.2.1, (hi e).2.2.2], rfl⟩) k
/-- What is said of two values. -/
theorem RGl.turn {A B : Env → Asn} (h : ∀ e, oksR D e prev → OpT P n (ensR eats D j e prev ++ Γ) (bndR D e prev ++ fcutR bad F) o [A e] (RLeave [B e]))
    (k : RGl P n Γ F ops eats K (j + 1) os Ds ((j, o.dst, ⟨fun _ r => r.1, fun e r => [B e], fun _ _ => True⟩) :: prev)) (hs : ∀ e, [A e] = eaten1R eats j e prev := by intro e; first | rfl | fail) (hw : ∀ e, wantG (bndR D e prev ++ fcutR bad F) ops o.guard = some true := by intro e; first | rfl | fail) (hi : ∀ e, B (mask D e) = B e := by intro e; first | rfl | fail) :
    RGl P n Γ F ops eats K j (o :: os) ((D, bad) :: Ds) prev :=
  RGl.stepR (fun e he => .turn (h e he) (by rw [← hs e]; exact List.mem_cons_self ..) (hw e)) (fun e _ => ⟨rfl, by show [_] = [_]; rw [hi e], rfl⟩) k
theorem RGl.fin {W : World} {S : Nat → Prop} {Q : Exit → Act → World → Prop} (k : ∀ e, oksA e prev → WPq n W S (ensAR eats e prev ++ Γ) (bndA e prev ++ F) Q .normal) :
    RGl P n Γ F ops eats (fun prev => ∀ e, oksA e prev → WPq n W S (ensA eats e prev ++ Γ) (bndA e prev ++ F) Q .normal) j [] [] prev := by
  intro e he
  rw [ensAR_eq]
  exact k e he
end

end
end Go.Proofs.YtpilenbdimhegaaGreatDoor
/- Separation: equality of structs and arrays of integers and bools. -/
namespace Go.Proofs.YtpilenbdimhegaaGreatDoor
open Go.RowKit
set_option linter.unusedSimpArgs false
set_option linter.unusedVariables false

/-- Cells of given kinds (none: a bool). -/
def Shp : List (Option IntKind) → List Value → Prop
  | [], [] => True
  | none :: ks, v :: vs => (∃ b, v = .bool b) ∧ Shp ks vs
  | some k :: ks, v :: vs => (∃ n, v = .int k n) ∧ Shp ks vs
  | _, _ => False

theorem Shp.append : ∀ {ks ks' : List (Option IntKind)} {vs vs' : List Value}, Shp ks vs → Shp ks' vs' → Shp (ks ++ ks') (vs ++ vs')
  | [], _, [], _, _, h => h
  | none :: _, _, _ :: _, _, h, h' => ⟨h.1, Shp.append h.2 h'⟩
  | some _ :: _, _, _ :: _, _, h, h' => ⟨h.1, Shp.append h.2 h'⟩
  | [], _, _ :: _, _, h, _ => h.elim
  | none :: _, _, [], _, h, _ => h.elim
  | some _ :: _, _, [], _, h, _ => h.elim
theorem Shp.length : ∀ {ks : List (Option IntKind)} {vs : List Value}, Shp ks vs → vs.length = ks.length
  | [], [], _ => rfl
  | none :: _, _ :: _, h => by simp [Shp.length h.2]
  | some _ :: _, _ :: _, h => by simp [Shp.length h.2]
  | [], _ :: _, h => h.elim
  | none :: _, [], h => h.elim
  | some _ :: _, [], h => h.elim
theorem Shp.split : ∀ {ks ks' : List (Option IntKind)} {vs : List Value}, Shp (ks ++ ks') vs → ∃ v1 v2, vs = v1 ++ v2 ∧ Shp ks v1 ∧ Shp ks' v2
  | [], _, vs, h => ⟨[], vs, rfl, trivial, h⟩
  | none :: ks, ks', v :: vs, h => by
    obtain ⟨v1, v2, rfl, h1, h2⟩ := Shp.split h.2
    exact ⟨v :: v1, v2, rfl, ⟨h.1, h1⟩, h2⟩
  | some k :: ks, ks', v :: vs, h => by
    obtain ⟨v1, v2, rfl, h1, h2⟩ := Shp.split h.2
    exact ⟨v :: v1, v2, rfl, ⟨h.1, h1⟩, h2⟩
  | none :: _, _, [], h => h.elim
  | some _ :: _, _, [], h => h.elim

/-- The kinds of a type's cells, where it holds integers and bools alone. -/
def flatT (P : Program) : Nat → TypeId → Option (List (Option IntKind))
  | 0, _ => none
  | fuel + 1, t =>
    match P.underlying t with
    | some .bool => some [none]
    | some (.int k) => some [some k]
    | some (.struct fs) => (fs.toList.foldr (fun f acc => fun off => if f.offset = off then (flatT P fuel f.type).bind fun ks => if P.cellsOf f.type = ks.length then (acc (off + ks.length)).map (ks ++ ·) else none else none) (fun off => if P.cellsOf t = off then some [] else none)) 0
    | some (.array n e) => (flatT P fuel e).bind fun ks => if P.cellsOf e = ks.length ∧ P.cellsOf t = n * ks.length then some (List.replicate n ks).flatten else none
    | _ => none

def veq : Value → Value → Bool
  | .int _ a, .int _ b => a == b
  | .bool a, .bool b => a == b
  | _, _ => false
def eqs : List Value → List Value → Bool
  | [], [] => true
  | a :: L, b :: M => veq a b && eqs L M
  | _, _ => false

theorem eqs_iff : ∀ {ks : List (Option IntKind)} {L M : List Value}, Shp ks L → Shp ks M → (eqs L M = true ↔ L = M)
  | [], [], [], _, _ => by simp [eqs]
  | none :: ks, a :: L, b :: M, h, h' => by
    obtain ⟨⟨x, rfl⟩, h2⟩ := h
    obtain ⟨⟨y, rfl⟩, h2'⟩ := h'
    simp [eqs, veq, eqs_iff h2 h2']
  | some k :: ks, a :: L, b :: M, h, h' => by
    obtain ⟨⟨x, rfl⟩, h2⟩ := h
    obtain ⟨⟨y, rfl⟩, h2'⟩ := h'
    simp [eqs, veq, eqs_iff h2 h2']
  | [], _ :: _, _, h, _ => h.elim
  | [], [], _ :: _, _, h => h.elim
  | none :: _, [], _, h, _ => h.elim
  | none :: _, _ :: _, [], _, h => h.elim
  | some _ :: _, [], _, h, _ => h.elim
  | some _ :: _, _ :: _, [], _, h => h.elim

theorem eqs_append : ∀ {L M L' M' : List Value}, L.length = M.length → eqs (L ++ L') (M ++ M') = (eqs L M && eqs L' M')
  | [], [], _, _, _ => by simp [eqs]
  | a :: L, b :: M, L', M', h => by
    simp only [List.cons_append, eqs, eqs_append (L := L) (M := M) (L' := L') (M' := M') (by simpa using h), Bool.and_assoc]
  | [], _ :: _, _, _, h => by simp at h
  | _ :: _, [], _, _, h => by simp at h

/-- Equality of such a type can be told by its cells. -/
def eqFine (P : Program) : Nat → TypeId → Bool
  | 0, _ => false
  | fuel + 1, t =>
    match P.underlying t with
    | some .bool => true
    | some (.int _) => true
    | some (.struct fs) => !P.stoodInHeld t && fs.toList.all fun f => decide (f.name ≠ "_") && eqFine P fuel f.type
    | some (.array _ e) => eqFine P fuel e
    | _ => false

/-- A type's value of these cells. -/
def valOf (P : Program) (t : TypeId) (L : List Value) : Value :=
  match P.underlying t with
  | some d => if aggB d then .agg L.toArray else L.headD undef
  | none => undef

theorem flatT_desc {P : Program} : ∀ {fuel : Nat} {t : TypeId} {ks : List (Option IntKind)}, flatT P fuel t = some ks → ∃ d, P.underlying t = some d ∧ (aggB d = true ∨ ks.length = 1)
  | 0, _, _, h => (by cases h)
  | fuel + 1, t, ks, h => by
    unfold flatT at h
    cases ht : P.underlying t with
    | none => rw [ht] at h; cases h
    | some d =>
      rw [ht] at h
      refine ⟨d, rfl, ?_⟩
      cases d <;> simp_all [aggB]
      all_goals (subst h; rfl)

theorem run_isAggT {P : Program} {t : TypeId} {d : TypeDesc} (h : P.underlying t = some d) (w : World) : (isAgg t).run P w = .ok (aggB d) w := by
  unfold isAgg
  rw [Sem.run_bind, run_underlying h w]
  cases d <;> rfl

theorem run_sizeOfT {P : Program} {t : TypeId} {d : TypeDesc} (h : P.underlying t = some d) (w : World) : (sizeOf t).run P w = .ok (P.cellsOf t) w := by
  unfold Program.underlying at h
  cases hi : P.info? t with
  | none => rw [hi] at h; cases h
  | some i => simp [sizeOf, typeInfo, Program.cellsOf, hi, Sem.run_bind]

theorem run_part {P : Program} {t : TypeId} {d : TypeDesc} {L : List Value} {off n : Nat} (hu : P.underlying t = some d) (hn : P.cellsOf t = n) (h1 : aggB d = true ∨ n = 1 ∧ off + 1 ≤ L.length) (w : World) :
    (part t L.toArray off).run P w = .ok (valOf P t ((L.drop off).take n)) w := by
  unfold part valOf
  simp only [Sem.run_bind, run_isAggT hu, Result.andThen_ok, hu]
  cases ha : aggB d with
  | true =>
    simp only [if_true, Sem.run_bind, run_sizeOfT hu, Result.andThen_ok, Sem.run_pure, hn]
    simp [List.extract_eq_take_drop, List.take_drop]
  | false =>
    rw [ha] at h1
    obtain ⟨rfl, hl⟩ := h1.resolve_left (by decide)
    have e : L[off]? = some L[off] := List.getElem?_eq_getElem (by omega)
    simp [e, List.take_one, Sem.run_pure]

theorem Shp.cut {k1 k2 : List (Option IntKind)} {vs : List Value} (h : Shp (k1 ++ k2) vs) : Shp k1 (vs.take k1.length) ∧ Shp k2 (vs.drop k1.length) := by
  obtain ⟨v1, v2, rfl, h1, h2⟩ := Shp.split h
  rw [← h1.length, List.take_left, List.drop_left]
  exact ⟨h1, h2⟩

theorem run_eqFields {P : Program} {fuel d tot : Nat} {L M : List Value} (w : World)
    (ih : ∀ t ks L M, flatT P fuel t = some ks → eqFine P fuel t = true → Shp ks L → Shp ks M → (Op.equalIn d t (valOf P t L) (valOf P t M)).run P w = .ok (eqs L M) w) :
    ∀ (fs : List Field) (off : Nat) (ks : List (Option IntKind)),
      (fs.foldr (fun f acc => fun off => if f.offset = off then (flatT P fuel f.type).bind fun ks => if P.cellsOf f.type = ks.length then (acc (off + ks.length)).map (ks ++ ·) else none else none) (fun off => if tot = off then some [] else none)) off = some ks →
      (fs.all fun f => decide (f.name ≠ "_") && eqFine P fuel f.type) = true → Shp ks (L.drop off) → Shp ks (M.drop off) →
      (Op.eqFields d L.toArray M.toArray fs).run P w = .ok (eqs (L.drop off) (M.drop off)) w
  | [], off, ks, h, _, hL, hM => by
    simp only [List.foldr_nil] at h
    split at h
    · cases h
      have h1 := hL.length
      have h2 := hM.length
      rw [List.eq_nil_of_length_eq_zero h1, List.eq_nil_of_length_eq_zero h2]
      simp [Op.eqFields, eqs]
    · cases h
  | f :: fs, off, ks, h, hall, hL, hM => by
    simp only [List.foldr_cons] at h
    split at h
    · rename_i hoff
      cases hk : flatT P fuel f.type with
      | none => rw [hk] at h; cases h
      | some k1 =>
        rw [hk] at h
        simp only [Option.bind_some] at h
        split at h
        · rename_i hc
          rw [Option.map_eq_some_iff] at h
          obtain ⟨k2, h2, rfl⟩ := h
          obtain ⟨l1, l2⟩ := hL.cut
          obtain ⟨m1, m2⟩ := hM.cut
          have hl := hL.length
          have hm := hM.length
          simp only [List.length_append, List.length_drop] at hl hm
          rw [List.drop_drop] at l2 m2
          simp only [List.all_cons, Bool.and_eq_true, decide_eq_true_eq] at hall
          obtain ⟨⟨hn, hf⟩, hrest⟩ := hall
          have r := run_eqFields w ih fs (off + k1.length) k2 h2 hrest l2 m2
          obtain ⟨du, hu, hg⟩ := flatT_desc hk
          have e1 : eqs (L.drop off) (M.drop off) = (eqs ((L.drop off).take k1.length) ((M.drop off).take k1.length) && eqs (L.drop (off + k1.length)) (M.drop (off + k1.length))) := by
            rw [← eqs_append (by rw [l1.length, m1.length]), ← List.drop_drop, ← List.drop_drop, List.take_append_drop, List.take_append_drop]
          unfold Op.eqFields
          rw [if_pos hn]
          have p1 := run_part (L := L) (off := off) hu hc (hg.imp_right fun h => ⟨h, by omega⟩) w
          have p2 := run_part (L := M) (off := off) hu hc (hg.imp_right fun h => ⟨h, by omega⟩) w
          simp only [Sem.run_bind, hoff, p1, p2, Result.andThen_ok, ih _ _ _ _ hk hf l1 m1, Sem.run_ite, Sem.run_pure, r]
          rw [e1]
          cases eqs ((L.drop off).take k1.length) ((M.drop off).take k1.length) <;> simp
        · cases h
    · cases h

/-- The model's test of two arrays, by recursion. -/
def Op.eqRow (d : Nat) (e : TypeId) (n : Nat) (xs ys : Array Value) : List Nat → Sem Bool
  | [] => pure true
  | i :: is => do
    let a ← part e xs (i * n)
    let b ← part e ys (i * n)
    let r ← Go.Op.equalIn d e a b
    if (!r) = true then pure false else Op.eqRow d e n xs ys is

theorem eqs_refl_nil (L M : List Value) (hL : L.length = 0) (hM : M.length = 0) : eqs L M = true := by
  rw [List.eq_nil_of_length_eq_zero hL, List.eq_nil_of_length_eq_zero hM]; rfl

theorem run_equal {P : Program} (w : World) : ∀ (fuel d : Nat) (t : TypeId) (ks : List (Option IntKind)) (L M : List Value), fuel ≤ d → flatT P fuel t = some ks → eqFine P fuel t = true → Shp ks L → Shp ks M →
    (Op.equalIn d t (valOf P t L) (valOf P t M)).run P w = .ok (eqs L M) w
  | 0, _, _, _, _, _, _, h, _, _, _ => (by cases h)
  | fuel + 1, 0, _, _, _, _, hd, _, _, _, _ => by omega
  | fuel + 1, d + 1, t, ks, L, M, hd, h, hf, hL, hM => by
    have ih : ∀ t ks L M, flatT P fuel t = some ks → eqFine P fuel t = true → Shp ks L → Shp ks M → (Op.equalIn d t (valOf P t L) (valOf P t M)).run P w = .ok (eqs L M) w :=
      fun t ks L M h1 h2 h3 h4 => run_equal w fuel d t ks L M (by omega) h1 h2 h3 h4
    unfold flatT at h
    unfold eqFine at hf
    cases ht : P.underlying t with
    | none => rw [ht] at h; cases h
    | some D =>
      rw [ht] at h hf
      simp only [valOf, ht]
      cases D with
      | bool =>
        cases h
        match L, M, hL, hM with
        | [_], [_], hL, hM =>
          obtain ⟨⟨x, rfl⟩, _⟩ := hL
          obtain ⟨⟨y, rfl⟩, _⟩ := hM
          simp [aggB, run_equalIn_bool w d t x y ht, eqs, veq]
      | int k =>
        cases h
        match L, M, hL, hM with
        | [_], [_], hL, hM =>
          obtain ⟨⟨x, rfl⟩, _⟩ := hL
          obtain ⟨⟨y, rfl⟩, _⟩ := hM
          simp [aggB, run_equalIn_int w d t k k x y ht, eqs, veq]
      | struct fs =>
        simp only [Bool.and_eq_true, Bool.not_eq_true'] at hf
        have hfs : P.fieldsOf t = fs := by simp [Program.fieldsOf, ht]
        simp only [aggB, if_true]
        rw [run_equalIn_struct w d t _ _ (by rw [hfs]; exact ht) hf.1, hfs]
        exact run_eqFields (tot := P.cellsOf t) w ih fs.toList 0 ks h hf.2 hL hM
      | array n e =>
        simp only [aggB, if_true]
        simp only at h hf
        cases hk : flatT P fuel e with
        | none => rw [hk] at h; cases h
        | some k1 =>
          rw [hk] at h
          simp only [Option.bind_some] at h
          split at h
          · rename_i hc
            cases h
            obtain ⟨du, hu, hg⟩ := flatT_desc hk
            simp only [Op.equalIn, Sem.run_bind, run_underlying ht, Result.andThen_ok, run_sizeOfT hu, hc.1, Std.Legacy.Range.forIn_eq_forIn_range', Std.Legacy.Range.size, Nat.sub_zero, Nat.add_one_sub_one, Nat.div_one]
            have key : ∀ (m i : Nat), i + m = n → Shp (List.replicate m k1).flatten (L.drop (i * k1.length)) → Shp (List.replicate m k1).flatten (M.drop (i * k1.length)) →
                (Op.eqRow d e k1.length L.toArray M.toArray (List.range' i m)).run P w = .ok (eqs (L.drop (i * k1.length)) (M.drop (i * k1.length))) w := by
              intro m
              induction m with
              | zero =>
                intro i _ h1 h2
                simp only [List.range'_zero, Op.eqRow, Sem.run_pure]
                rw [eqs_refl_nil _ _ h1.length h2.length]
              | succ m ihm =>
                intro i hi h1 h2
                rw [List.replicate_succ, List.flatten_cons] at h1 h2
                obtain ⟨l1, l2⟩ := h1.cut
                obtain ⟨m1, m2⟩ := h2.cut
                have hl := h1.length
                have hm := h2.length
                simp only [List.length_append, List.length_drop] at hl hm
                have hi1 : i * k1.length + k1.length = (i + 1) * k1.length := (Nat.succ_mul i k1.length).symm
                rw [List.drop_drop, hi1] at l2 m2
                have r := ihm (i + 1) (by omega) l2 m2
                have p1 := run_part (L := L) (off := i * k1.length) hu hc.1 (hg.imp_right fun h => ⟨h, by omega⟩) w
                have p2 := run_part (L := M) (off := i * k1.length) hu hc.1 (hg.imp_right fun h => ⟨h, by omega⟩) w
                have e1 : eqs (L.drop (i * k1.length)) (M.drop (i * k1.length)) = (eqs ((L.drop (i * k1.length)).take k1.length) ((M.drop (i * k1.length)).take k1.length) && eqs (L.drop ((i + 1) * k1.length)) (M.drop ((i + 1) * k1.length))) := by
                  rw [← eqs_append (by rw [l1.length, m1.length]), ← hi1, ← List.drop_drop, ← List.drop_drop, List.take_append_drop, List.take_append_drop]
                simp only [List.range'_succ, Op.eqRow, Sem.run_bind, p1, p2, Result.andThen_ok, ih _ _ _ _ hk hf l1 m1, Sem.run_ite, Sem.run_pure, r]
                rw [e1]
                cases eqs ((L.drop (i * k1.length)).take k1.length) ((M.drop (i * k1.length)).take k1.length) <;> simp
            have k0 := key n 0 (by omega) (by simpa using hL) (by simpa using hM)
            simp only [Nat.zero_mul, List.drop_zero] at k0
            rw [← k0]
            clear k0 key hL hM ih
            generalize List.range' 0 n = is
            induction is generalizing w with
            | nil => simp [Op.eqRow]
            | cons i is ihi =>
              simp only [List.forIn_cons, Op.eqRow, Sem.run_bind, Sem.run_ite]
              generalize (part e L.toArray (i * k1.length)).run P w = r1
              cases r1 with
              | ok a w1 =>
                simp only [Result.andThen_ok]
                generalize (part e M.toArray (i * k1.length)).run P w1 = r2
                cases r2 with
                | ok b w2 =>
                  simp only [Result.andThen_ok]
                  generalize (Go.Op.equalIn d e a b).run P w2 = r3
                  cases r3 with
                  | ok r w3 =>
                    cases r
                    · simp only [Result.andThen_ok, Bool.not_false, if_true, Sem.run_pure]
                    · simp only [Result.andThen_ok, Bool.not_true, Bool.false_eq_true, if_false, Sem.run_pure]
                      exact ihi w3
                  | halt x w3 => simp [Result.andThen]
                | halt x w2 => simp [Result.andThen]
              | halt x w1 => simp [Result.andThen]
          · cases h
      | _ => cases h

/-- Such a type: its cells, equality, the test ahead of it. -/
structure EqTy (P : Program) (t : TypeId) (ks : List (Option IntKind)) : Prop where
  agg : ∃ d, P.underlying t = some d ∧ aggB d = true
  flat : flatT P 8 t = some ks
  fine : eqFine P 8 t = true
  guard : P.eqGuardType P.depth t = false

theorem EqTy.val {P : Program} {t : TypeId} {ks : List (Option IntKind)} (h : EqTy P t ks) (L : List Value) : valOf P t L = .agg L.toArray := by
  obtain ⟨d, h1, h2⟩ := h.agg
  simp [valOf, h1, h2]

theorem EqTy.eql {P : Program} {t : TypeId} {ks : List (Option IntKind)} (h : EqTy P t ks) {L M : List Value} (hL : Shp ks L) (hM : Shp ks M) (w : World) :
    (binOp .eql t (.agg L.toArray) (.agg M.toArray)).run P w = .ok (.bool (eqs L M)) w := by
  rw [run_eql_struct, ← h.val, ← h.val, run_equal w 8 10000 t ks L M (by decide) h.flat h.fine hL hM]
  rfl
theorem EqTy.neq {P : Program} {t : TypeId} {ks : List (Option IntKind)} (h : EqTy P t ks) {L M : List Value} (hL : Shp ks L) (hM : Shp ks M) (w : World) :
    (binOp .neq t (.agg L.toArray) (.agg M.toArray)).run P w = .ok (.bool (!eqs L M)) w := by
  rw [run_neq_struct, ← h.val, ← h.val, run_equal w 8 10000 t ks L M (by decide) h.flat h.fine hL hM]
  rfl

theorem EqTy.run {P : Program} {t : TypeId} {ks : List (Option IntKind)} (h : EqTy P t ks) (op : BinOp) (hop : op = .eql ∨ op = .neq) (x y : Operand) {L M : List Value} (hL : Shp ks L) (hM : Shp ks M) (w : World) :
    (do eqGuard op t x y (.agg L.toArray) (.agg M.toArray); binOp op t (.agg L.toArray) (.agg M.toArray) : Sem Value).run P w = .ok (.bool (if op = .eql then eqs L M else !eqs L M)) w := by
  rw [Sem.run_bind, run_eqGuard_agg w op t x y _ _ h.guard, Result.andThen_ok]
  rcases hop with rfl | rfl
  · rw [h.eql hL hM]; rfl
  · rw [h.neq hL hM]; rfl


class EqI (P : Program) (t : TypeId) (ks : outParam (List (Option IntKind))) : Prop where
  ty : EqTy P t ks

/-- The test of two values' chunks. -/
inductive EqC : List (Option IntKind) → Ch → Ch → Bool → Prop
  | nil : EqC [] [] [] true
  | bool {ks : List (Option IntKind)} {cs ds : Ch} {a c b : Bool} (h : EqC ks cs ds b) : EqC (none :: ks) ((1, [.bool a]) :: cs) ((1, [.bool c]) :: ds) ((a == c) && b)
  | int {k : IntKind} {ks : List (Option IntKind)} {cs ds : Ch} {a c : Int} {b : Bool} (h : EqC ks cs ds b) : EqC (some k :: ks) ((1, [.int k a]) :: cs) ((1, [.int k c]) :: ds) (decide (a = c) && b)
  | bytes {n : Nat} {ks ks' : List (Option IntKind)} {cs ds : Ch} {l m : List UInt8} {b : Bool} (hk : ks.take n = List.replicate n (some .u8)) (hd : ks.drop n = ks') (hl : l.length = n) (hm : m.length = n) (h : EqC ks' cs ds b) : EqC ks ((n, u8s l) :: cs) ((n, u8s m) :: ds) (decide (l = m) && b)

theorem flat_cons (c : Nat × List Value) (cs : Ch) : flat (c :: cs) = c.2 ++ flat cs := by rw [flat_eq, flat_eq, List.map_cons, List.flatten_cons]
theorem shp_u8s : ∀ (l : List UInt8), Shp (List.replicate l.length (some .u8)) (u8s l)
  | [] => trivial
  | x :: l => ⟨⟨_, rfl⟩, shp_u8s l⟩
theorem eqs_u8s {l m : List UInt8} (h : l.length = m.length) : eqs (u8s l) (u8s m) = decide (l = m) := by
  have h1 := eqs_iff (shp_u8s l) (h ▸ shp_u8s m)
  rw [u8s_inj] at h1
  rw [Bool.eq_iff_iff, h1]; simp
theorem EqC.run {ks : List (Option IntKind)} {cs ds : Ch} {b : Bool} (h : EqC ks cs ds b) : Shp ks (flat cs) ∧ Shp ks (flat ds) ∧ eqs (flat cs) (flat ds) = b := by
  induction h with
  | nil => exact ⟨trivial, trivial, rfl⟩
  | bool h ih => obtain ⟨h1, h2, h3⟩ := ih; simp only [flat_cons]; exact ⟨⟨⟨_, rfl⟩, h1⟩, ⟨⟨_, rfl⟩, h2⟩, by simp [eqs, veq, h3]⟩
  | int h ih => obtain ⟨h1, h2, h3⟩ := ih; simp only [flat_cons]; exact ⟨⟨⟨_, rfl⟩, h1⟩, ⟨⟨_, rfl⟩, h2⟩, by simp [eqs, veq, h3]; rfl⟩
  | @bytes n ks ks' cs ds l m b hk hd hl hm h ih =>
    obtain ⟨h1, h2, h3⟩ := ih
    simp only [flat_cons]
    have e : ks = List.replicate n (some .u8) ++ ks' := by rw [← hk, ← hd, List.take_append_drop]
    subst hl
    refine ⟨?_, ?_, ?_⟩
    · rw [e]; exact (shp_u8s l).append h1
    · rw [e, ← hm]; exact (shp_u8s m).append h2
    · rw [eqs_append (by simp [u8s_length, hm]), eqs_u8s hm.symm, h3]

theorem BinR.eqlA {P : Program} {T : TypeId} {ks : List (Option IntKind)} {cs ds : Ch} {b : Bool} [hT : EqI P T ks] (h : EqC ks cs ds b) : BinR P .eql T (ag cs) (ag ds) (.bool b) := fun X Y w => by
  obtain ⟨h1, h2, h3⟩ := h.run
  have := hT.ty.run .eql (.inl rfl) X Y h1 h2 w
  rw [← h3]
  simpa [ag] using this
theorem aggTy {P : Program} {t : TypeId} {sz : Nat} [h : TyI P t true sz] : ∃ d, P.underlying t = some d ∧ aggB d = true := by
  have := h.und
  rw [Option.map_eq_some_iff] at this
  exact this

/-- The bytes of a list, as many as told. -/
class LenI (l : List UInt8) (n : outParam Nat) : Prop where
  len : l.length = n

end Go.Proofs.YtpilenbdimhegaaGreatDoor
/- Plain facts on bytes: numbers as bytes. -/
namespace Go.Proofs.YtpilenbdimhegaaGreatDoor
set_option linter.unusedVariables false

theorem u8_of (n : Nat) : (UInt8.ofNat n).toNat = n % 256 := UInt8.toNat_ofNat'
/-- A number's last n bytes. -/
def be (x : Nat) : Nat → List UInt8
  | 0 => []
  | n + 1 => UInt8.ofNat (x / 256 ^ n) :: be x n
theorem be_length (x n : Nat) : (be x n).length = n := by induction n with | zero => rfl | succ n ih => simp [be, ih]
/-- The number of bytes. -/
def val (l : List UInt8) : Nat := l.foldl (fun a b => a * 256 + b.toNat) 0
theorem val_from (l : List UInt8) (a : Nat) : l.foldl (fun a b => a * 256 + b.toNat) a = a * 256 ^ l.length + val l := by
  induction l generalizing a with
  | nil => simp [val]
  | cons b l ih =>
    have h1 := ih (a * 256 + b.toNat)
    have h2 := ih (0 * 256 + b.toNat)
    simp only [val, List.foldl_cons] at h1 h2 ⊢
    rw [h1, h2]
    simp only [List.length_cons, Nat.pow_succ, Nat.add_mul, Nat.zero_mul, Nat.zero_add]
    rw [Nat.mul_assoc, Nat.mul_comm 256 (256 ^ l.length), Nat.add_assoc]
theorem val_cons (b : UInt8) (l : List UInt8) : val (b :: l) = b.toNat * 256 ^ l.length + val l := by
  have := val_from l (0 * 256 + b.toNat)
  simpa [val] using this
theorem val_snoc (l : List UInt8) (b : UInt8) : val (l ++ [b]) = val l * 256 + b.toNat := by simp [val, List.foldl_append]
theorem val_lt (l : List UInt8) : val l < 256 ^ l.length := by
  induction l with
  | nil => simp [val]
  | cons b l ih =>
    rw [val_cons, List.length_cons, Nat.pow_succ]
    have hb := b.toNat_lt
    have : b.toNat * 256 ^ l.length ≤ 255 * 256 ^ l.length := Nat.mul_le_mul_right _ (by omega)
    omega
theorem be_get (x : Nat) : ∀ {n j : Nat}, j < n → (be x n).getD j 0 = UInt8.ofNat (x / 256 ^ (n - 1 - j))
  | n + 1, 0, _ => by simp [be]
  | n + 1, j + 1, h => by
    have := be_get x (n := n) (j := j) (by omega)
    simp only [be, List.getD_cons_succ, this]
    congr 3
    omega
theorem take_snoc (l : List UInt8) {i : Nat} (h : i < l.length) : l.take (i + 1) = l.take i ++ [l.getD i 0] := by
  rw [List.take_succ_eq_append_getElem h]; simp [h]
theorem val_take (l : List UInt8) {i : Nat} (h : i < l.length) : val (l.take (i + 1)) = val (l.take i) * 256 + (l.getD i 0).toNat := by rw [take_snoc l h, val_snoc]

end Go.Proofs.YtpilenbdimhegaaGreatDoor
/- Bits of numbers, as the walk meets them. -/
namespace Go.Proofs.YtpilenbdimhegaaGreatDoor
open Go.RowKit
set_option linter.unusedSimpArgs false
set_option linter.unusedVariables false

def kw : IntKind → Nat
  | .u8 => 8 | .u16 => 16 | .u32 => 32 | .u64 => 64 | .i8 => 8 | .i16 => 16 | .i32 => 32 | .i64 => 64
theorem kw_bits (k : IntKind) : k.bits = kw k := by cases k <;> rfl
def isU : IntKind → Bool
  | .u8 | .u16 | .u32 | .u64 => true
  | _ => false
theorem wrap_nat {k : IntKind} (hk : isU k = true) {a : Nat} (h : a < 2 ^ kw k) : k.wrap (a : Int) = (a : Int) := by
  cases k <;> simp [isU] at hk <;> simp only [kw] at h <;> simp [IntKind.wrap, IntKind.bits, IntKind.signed] <;> omega
theorem wrap_mod {k : IntKind} (hk : isU k = true) (a : Nat) : k.wrap (a : Int) = ((a % 2 ^ kw k : Nat) : Int) := by
  cases k <;> simp [isU] at hk <;> simp [IntKind.wrap, IntKind.bits, IntKind.signed, kw]
variable {P : Program} {T : TypeId} {k k2 : IntKind}

theorem BinR.shlN {a s : Nat} (hk : isU k = true) (hs : s ≤ kw k) : BinR P .shl T (.int k (a : Int)) (.int k2 (s : Int)) (.int k ((a * 2 ^ s % 2 ^ kw k : Nat) : Int)) := fun X Y w => by
  have h0 : ¬ ((s : Nat) : Int) < 0 := by omega
  have hm : min s k.bits = s := by rw [kw_bits]; omega
  simp only [eqGuard, binOp, Op.shift, h0, if_false, Int.toNat_natCast, hm]
  rw [← wrap_mod hk]
  simp
theorem BinR.shrN {a s : Nat} (hs : s ≤ kw k) : BinR P .shr T (.int k (a : Int)) (.int k2 (s : Int)) (.int k ((a / 2 ^ s : Nat) : Int)) := fun X Y w => by
  have h0 : ¬ ((s : Nat) : Int) < 0 := by omega
  have hm : min s k.bits = s := by rw [kw_bits]; omega
  simp only [eqGuard, binOp, Op.shift, h0, if_false, Int.toNat_natCast, hm]
  have : (a : Int).fdiv (2 ^ s) = ((a / 2 ^ s : Nat) : Int) := by
    rw [Int.fdiv_eq_ediv_of_nonneg _ (by exact Int.le_of_lt (Int.pow_pos (by decide)))]
    simp
  rw [this]
  simp
theorem bv_nat {n a : Nat} (h : a < 2 ^ n) : (BitVec.ofInt n (a : Int)).toNat = a := by
  rw [BitVec.toNat_ofInt]
  have : (((a : Nat) : Int) % ((2 ^ n : Nat) : Int)).toNat = a := by
    rw [← Int.natCast_emod, Int.toNat_natCast, Nat.mod_eq_of_lt h]
  simpa using this
theorem BinR.orN {a b : Nat} (hk : isU k = true) (ha : a < 2 ^ kw k) (hb : b < 2 ^ kw k) : BinR P .or T (.int k (a : Int)) (.int k (b : Int)) (.int k ((a ||| b : Nat) : Int)) := fun X Y w => by
  have h1 : (BitVec.ofInt k.bits (a : Int) ||| BitVec.ofInt k.bits (b : Int)).toNat = a ||| b := by
    rw [BitVec.toNat_or, kw_bits, bv_nat ha, bv_nat hb]
  have e1 : a % 2 ^ k.bits = a := by rw [kw_bits]; exact Nat.mod_eq_of_lt ha
  have e2 : b % 2 ^ k.bits = b := by rw [kw_bits]; exact Nat.mod_eq_of_lt hb
  simp [eqGuard, binOp, Op.intBits, e1, e2, wrap_nat hk (Nat.or_lt_two_pow ha hb)]
theorem BinR.andN {a b : Nat} (hk : isU k = true) (ha : a < 2 ^ kw k) (hb : b < 2 ^ kw k) : BinR P .and T (.int k (a : Int)) (.int k (b : Int)) (.int k ((a &&& b : Nat) : Int)) := fun X Y w => by
  have h1 : (BitVec.ofInt k.bits (a : Int) &&& BitVec.ofInt k.bits (b : Int)).toNat = a &&& b := by
    rw [BitVec.toNat_and, kw_bits, bv_nat ha, bv_nat hb]
  have e1 : a % 2 ^ k.bits = a := by rw [kw_bits]; exact Nat.mod_eq_of_lt ha
  have e2 : b % 2 ^ k.bits = b := by rw [kw_bits]; exact Nat.mod_eq_of_lt hb
  simp [eqGuard, binOp, Op.intBits, e1, e2, wrap_nat hk (Nat.and_lt_two_pow a hb)]
theorem or_add {a b s : Nat} (h : b < 2 ^ s) : a * 2 ^ s ||| b = a * 2 ^ s + b := by
  rw [Nat.mul_comm]
  exact (Nat.two_pow_add_eq_or_of_lt h a).symm

/-- One more byte behind a number. -/
theorem BinR.shl8 {m : Nat} (h : m < 72057594037927936) : BinR P .shl T (.int .u64 (m : Int)) (.int k2 8) (.int .u64 ((m * 256 : Nat) : Int)) := by
  have := BinR.shlN (P := P) (T := T) (k := .u64) (k2 := k2) (a := m) (s := 8) rfl (by decide)
  rw [show m * 2 ^ 8 % 2 ^ kw .u64 = m * 256 by rw [show kw .u64 = 64 from rfl, Nat.mod_eq_of_lt (by omega)]] at this
  exact this
theorem BinR.or8 {m c : Nat} (h : m < 72057594037927936) (hc : c < 256) : BinR P .or T (.int .u64 ((m * 256 : Nat) : Int)) (.int .u64 (c : Int)) (.int .u64 ((m * 256 + c : Nat) : Int)) := by
  have := BinR.orN (P := P) (T := T) (k := .u64) (a := m * 256) (b := c) rfl (by show m * 256 < 2 ^ 64; omega) (by show c < 2 ^ 64; omega)
  rw [show m * 256 ||| c = m * 256 + c from or_add (s := 8) hc] at this
  exact this
theorem BinR.shrI {a : Nat} {s : Int} (h0 : 0 ≤ s) (hs : s ≤ kw k) : BinR P .shr T (.int k (a : Int)) (.int k2 s) (.int k ((a / 2 ^ s.toNat : Nat) : Int)) := by
  have := BinR.shrN (P := P) (T := T) (k := k) (k2 := k2) (a := a) (s := s.toNat) (by omega)
  rwa [Int.toNat_of_nonneg h0] at this
theorem u8_lt (b : UInt8) : ((b.toNat : Nat) : Int) < 256 := by have := b.toNat_lt; omega
theorem wrap8 (x : Nat) : IntKind.u8.wrap (x : Int) = (((UInt8.ofNat x).toNat : Nat) : Int) := by rw [IntKind.wrap_u8, u8_of]; rfl
theorem ReadR.conv8 {n : Nat} {Γ : List Asn} {F : List (Nat × Value)} {d : Option Tmp} {ty : TypeId} {pos : String} {af : Array Edge} {gd : Option (Nat × Bool)} {T1 T2 : TypeId} {k1 : IntKind} {x : Operand} {a : Nat} [h2 : IntI P T2 .u8] [h1 : IntI P T1 k1] (hx : evF F x = some (.int k1 (Int.ofNat a))) :
    ReadR P n Γ F ⟨d, .convert T1 T2 x, ty, pos, af, gd⟩ (.int .u8 (((UInt8.ofNat a).toNat : Nat) : Int)) := by
  have := ReadR.convW (P := P) (n := n) (Γ := Γ) (F := F) (d := d) (ty := ty) (pos := pos) (af := af) (gd := gd) (T1 := T1) (T2 := T2) (by rw [h1.und]; rfl) hx
  rwa [show IntKind.u8.wrap (Int.ofNat a) = _ from wrap8 a] at this
theorem nbs_nil : nbs [] = [] := rfl
theorem nbs_u8 (b : UInt8) (es : List Int) : nbs (((b.toNat : Nat) : Int) :: es) = b :: nbs es := by simp [nbs]
theorem conv_u8 {c : UInt8} : IntKind.u64.wrap ((c.toNat : Nat) : Int) = ((c.toNat : Nat) : Int) := by have := c.toNat_lt; rw [IntKind.wrap_u64]; omega

end Go.Proofs.YtpilenbdimhegaaGreatDoor
/- Separation: copy, make, min and max; what is read of blocks that go with it. -/
namespace Go.Proofs.YtpilenbdimhegaaGreatDoor
open Go.RowKit
set_option linter.unusedSimpArgs false
set_option linter.unusedVariables false

/-- A row that is read, whose block goes with it. -/
def hdN (v : Value) (n : Nat) (xs : List Value) : Asn where
  own := true
  fp := (rdN v n xs).fp
  holds := (rdN v n xs).holds
  lt := (rdN v n xs).lt
  loc := (rdN v n xs).loc
theorem HasS.hd {Γ : List Asn} {v : Value} {n : Nat} {xs : List Value} (h : hdN v n xs ∈ Γ) : HasS Γ v n xs := fun w hw => hw _ h
def RHd (n : Nat) (xs : List Value) : Value → List Asn → Prop := fun v Γ => v.oneCell' = true ∧ Γ = [hdN v n xs]
/-- A slice of one's own, and another value. -/
def RRow2 (e : TypeId) (sz m : Nat) (xs : List Value) (c : Value) : Value → List Asn → Prop := fun v Γ => ∃ s, v = .tuple #[s, c] ∧ s.oneCell' = true ∧ Γ = [rowN e sz s m xs]
/-- A value with another one that is said to be so. -/
def tup (v : Value) (i : Nat) : Value := match v with | .tuple vs => vs.getD i undef | _ => undef

section
variable {P : Program} {n : Nat} {W : World} {S : Nat → Prop} {Γ : List Asn} {F : List (Nat × Value)} {Q : Exit → Act → World → Prop}
variable {d : Option Tmp} {ty : TypeId} {pos : String} {af : Array Edge} {gd : Option (Nat × Bool)}

theorem WPq.asHd {e : Exit} {g : Nat} {T : TypeId} {cs : Ch} {v : Value} {m : Nat} {xs : List Value} {Γf : List Asn} (hp : Take Γ (bx g T cs) Γf) (hv : HasS [bx g T cs] v m xs) (hb : v.ownBlock = some g) (k : WPq n W S (hdN v m xs :: Γf) F Q e) : WPq n W S Γ F Q e := by
  intro a w hf hg
  have hg' := hg.perm (Takes.cons hp .nil : Takes Γ [bx g T cs] Γf)
  refine k a w hf (hg'.step (Post.one (Mod.refl _ _) ?_ ?_))
  · exact hv w fun A hA => hg'.all A (List.mem_append_left _ hA)
  · rintro g' ⟨_, h⟩
    rw [hb] at h; cases h
    exact .inr ⟨_, List.mem_singleton.2 rfl, rfl, rfl⟩

theorem WPq.doneH {fn : Func} {rs : List ResultVar} {v : Value} {m : Nat} {us : List Value} {Γx : List Asn} {ex : Exit} (he : ex = .ret ∨ ex = .normal) (hr : fn.results = rs.toArray) (h : ResF P Γ F rs [v]) (hp : Take Γ (hdN v m us) Γx) (h1 : v.oneCell' = true) :
    WPq n W S Γ F (Done P fn W S (RHd m us)) ex :=
  WPq.done he hr h (.cons hp .nil) (fun A hA => by rw [List.mem_singleton.1 hA]; rfl) ⟨h1, rfl⟩
theorem WPq.doneR2 {fn : Func} {rs : List ResultVar} {v c : Value} {e : TypeId} {sz m : Nat} {us : List Value} {Γx : List Asn} {ex : Exit} (he : ex = .ret ∨ ex = .normal) (hr : fn.results = rs.toArray) (h : ResF P Γ F rs [v, c]) (hp : Take Γ (rowN e sz v m us) Γx) (h1 : v.oneCell' = true) :
    WPq n W S Γ F (Done P fn W S (RRow2 e sz m us c)) ex :=
  WPq.done he hr h (.cons hp .nil) (fun A hA => by rw [List.mem_singleton.1 hA]; rfl) ⟨v, rfl, h1, rfl⟩

/-! ### min, max -/

theorem ReadR.min {x y : Operand} {ts : Array TypeId} {k : IntKind} {a b : Int} (hx : evF F x = some (.int k a)) (hy : evF F y = some (.int k b)) :
    ReadR P n Γ F ⟨d, .call { callee := .builtin .min, args := #[x, y], argTypes := ts }, ty, pos, af, gd⟩ (.int k (if b < a then b else a)) := fun ρ w hf hw => by
  simp [execOp, resolve, invoke, builtin, hf.eval hx, hf.eval hy, run_min_int2]
theorem ReadR.max {x y : Operand} {ts : Array TypeId} {k : IntKind} {a b : Int} (hx : evF F x = some (.int k a)) (hy : evF F y = some (.int k b)) :
    ReadR P n Γ F ⟨d, .call { callee := .builtin .max, args := #[x, y], argTypes := ts }, ty, pos, af, gd⟩ (.int k (if b > a then b else a)) := fun ρ w hf hw => by
  simp [execOp, resolve, invoke, builtin, hf.eval hx, hf.eval hy, run_max_int2]

/-! ### make -/

theorem OpT.make {T e : TypeId} {z : Value} {bytes : Nat} [hT : SliI P T e] [he : EltI P e z bytes] {x y : Operand} {k1 k2 : IntKind} {m : Nat} (hx : evF F x = some (.int k1 (Int.ofNat m))) (hy : evF F y = some (.int k2 (Int.ofNat m))) (hm : m ≤ 1099511627776) (hby : bytes ≤ 128) (hz1 : z.cells = #[z]) :
    OpT P n Γ F ⟨d, .makeSlice T x y, ty, pos, af, gd⟩ [] (RRow e 1 m (List.replicate m z)) := fun ρ w hf hw _ => by
  have hb : bytes * m ≤ 281474976710656 := by
    have : bytes * m ≤ 128 * 1099511627776 := Nat.mul_le_mul hby hm
    omega
  have hrun := run_make_row' (P := P) T e z bytes hT.und he.info hz1 k1 k2 m hb (by omega) w
  have : (execOp ρ.eval ⟨d, .makeSlice T x y, ty, pos, af, gd⟩).run P w = .ok (.value (.slice (some ⟨w.heap.size, 0, none⟩) m m)) (w.alloc (.cells (madeCells #[z] m) e)) := by
    simp only [execOp, hf.eval hx, hf.eval hy]
    simp only [Int.ofNat_eq_natCast, Sem.run_bind, hrun, Result.andThen_ok, Sem.run_pure]
  unfold DoesW
  rw [this]
  have hl : (madeCells #[z] m).toList = List.replicate m z := by
    have : ∀ m, (List.map (fun x => [z][x % 1]?.getD default) (List.range m)) = List.replicate m z := by
      intro m
      induction m with
      | zero => rfl
      | succ m ih => rw [List.range_succ, List.map_append, ih, List.replicate_succ']; simp [Nat.mod_one]
    rw [← this]
    simp [madeCells]
  refine ⟨_, ⟨rfl, rfl⟩, .one (Mod.alloc _ _ _) ⟨by simp, .inr ⟨w.heap.size, m, madeCells #[z] m, rfl, Nat.zero_le _, alloc_new _ _, Nat.le_refl _, by unfold maxLen; omega, ?_, ?_⟩⟩ fun g hg => .inl ?_⟩
  · rw [← Array.length_toList, hl]; simp
  · rw [hl]; simp
  · cases hg; exact Nat.le_refl _
theorem OpT.makeB {T : TypeId} {bytes : Nat} [hT : SliI P T 5] [he : EltI P 5 (.int .u8 0) bytes] {x y : Operand} {k1 k2 : IntKind} {m : Nat} (hx : evF F x = some (.int k1 (Int.ofNat m))) (hy : evF F y = some (.int k2 (Int.ofNat m))) (hm : m ≤ 1099511627776) (hby : Nat.ble bytes 128 = true) :
    OpT P n Γ F ⟨d, .makeSlice T x y, ty, pos, af, gd⟩ [] (ROb (List.replicate m 0)) := by
  have := OpT.make (P := P) (n := n) (Γ := Γ) (d := d) (ty := ty) (pos := pos) (af := af) (gd := gd) (T := T) hx hy hm (Nat.le_of_ble_eq_true hby) rfl
  have e : List.replicate m (Value.int .u8 0) = u8s (List.replicate m 0) := by simp [u8s]
  rw [e] at this
  unfold ROb
  rw [List.length_replicate]
  exact this

/-! ### copy -/

/-- Bytes laid over others, from a place on. -/
def over (l : List UInt8) (k : Nat) (new : List UInt8) : List UInt8 := l.take k ++ (new ++ l.drop (k + new.length))
@[simp] theorem over_length {l new : List UInt8} {k : Nat} (h : k + new.length ≤ l.length) : (over l k new).length = l.length := by simp [over]; omega
theorem over_u8s (l new : List UInt8) (k : Nat) : u8s (over l k new) = (u8s l).take k ++ (u8s new ++ (u8s l).drop (k + (u8s new).length)) := by
  simp [over, u8s_append, u8s_take, u8s_drop, u8s_length]

inductive OvC (new : List UInt8) : Ch → Nat → Ch → Prop
  | here {m k : Nat} {l : List UInt8} {cs : Ch} (hk : Nat.blt k m = true) (h : k + new.length ≤ l.length) : OvC new ((m, u8s l) :: cs) k ((m, u8s (over l k new)) :: cs)
  | there {c : Nat × List Value} {cs cs' : Ch} {o : Nat} (hc : Nat.ble c.1 o = true) (h : OvC new cs (o - c.1) cs') : OvC new (c :: cs) o (c :: cs')
theorem OvC.run {new : List UInt8} {cs cs' : Ch} {o : Nat} (h : OvC new cs o cs') (hk : FOk cs) : FOk cs' ∧ flat cs' = (flat cs).take o ++ (u8s new ++ (flat cs).drop (o + (u8s new).length)) ∧ o + new.length ≤ (flat cs).length := by
  induction h with
  | @here m k l cs hm h =>
    have hl : l.length = m := by have := hk.len _ (List.mem_cons_self ..); simpa [u8s_length] using this
    have hfc : ∀ x : List Value, flat ((m, x) :: cs) = x ++ flat cs := fun x => flat_cons _ _
    refine ⟨.bytes (by rw [over_length h]; exact hl) ⟨fun c hc => hk.len c (List.mem_cons_of_mem _ hc), fun v hv => hk.one v (by rw [hfc]; exact List.mem_append_right _ hv)⟩, ?_, ?_⟩
    · rw [hfc, hfc, over_u8s, List.take_append_of_le_length (by rw [u8s_length]; omega), List.drop_append_of_le_length (by rw [u8s_length, u8s_length]; omega)]
      simp
    · rw [hfc, List.length_append, u8s_length]; omega
  | @there c cs cs' o hc h ih =>
    have hc' : c.1 ≤ o := Nat.le_of_ble_eq_true hc
    have hk' : FOk cs := ⟨fun c hc => hk.len c (List.mem_cons_of_mem _ hc), fun v hv => hk.one v (by rw [flat_cons]; exact List.mem_append_right _ hv)⟩
    obtain ⟨h1, h2, h3⟩ := ih hk'
    have hcl : c.2.length = c.1 := hk.len _ (List.mem_cons_self ..)
    refine ⟨.seg hcl (fun v hv => hk.one v (by rw [flat_cons]; exact List.mem_append_left _ hv)) h1, ?_, ?_⟩
    · rw [flat_cons, flat_cons, h2, List.take_append, List.drop_append, List.take_of_length_le (l := c.2) (by omega), List.drop_of_length_le (l := c.2) (by omega), hcl, List.append_assoc, List.nil_append, show o + (u8s new).length - c.1 = o - c.1 + (u8s new).length by omega]
    · rw [flat_cons, List.length_append]; omega

theorem run_copyU {P : Program} {dT sT e : TypeId} {ag : Bool} [hT : SliI P dT e] [he : TyI P e ag 1] {g o dLen dCap sLen sCap : Nat} {sp : Option Addr} {cur : List Value} {t : TypeId} {w : World} {l2 new : List UInt8} (ty : TypeId)
    (hg : w.heap[g]? = some (.cells cur.toArray t (0, 0))) (hr : Reads w (.slice sp sLen sCap) l2.length (u8s l2)) (hnew : l2.take dLen = new) (hfit : o + new.length ≤ cur.length) :
    (Builtin.copy_ #[dT, sT] ty #[.slice (some ⟨g, o, none⟩) dLen dCap, .slice sp sLen sCap]).run P w = .ok (goInt new.length) (if new.length = 0 then w else w.setRow g (cur.take o ++ (u8s new ++ cur.drop (o + (u8s new).length))).toArray) := by
  have hsz : (P.info? e).map (·.size) = some 1 := he.size
  obtain ⟨a, cap, hv, h1, h2, h3, h4⟩ := hr.at
  cases hv
  have hnl : new.length = Nat.min l2.length dLen := by rw [← hnew, List.length_take]; exact Nat.min_comm _ _
  by_cases h0 : new.length = 0
  · rw [if_pos h0, h0]
    exact run_copy_none w dT sT ty e _ _ dLen dCap _ _ hT.und hsz (by rw [← hnl, h0])
  · rw [if_neg h0]
    have hln : 0 < l2.length := by
      rcases Nat.eq_zero_or_pos l2.length with h | h
      · rw [h] at hnl; simp at hnl; exact absurd (by rw [hnl]; rfl) h0
      · exact h
    obtain ⟨ad, rfl, _⟩ := h4 0 _ (List.getElem?_eq_getElem (by rw [u8s_length]; exact hln))
    have hc : ∀ j v, (u8s new)[j]? = some v → w.cell? (ad.add j) = some v := by
      intro j v hj
      have hj' : (u8s l2)[j]? = some v := by
        rw [← hnew, ← u8s_take, List.getElem?_take] at hj
        split at hj
        · exact hj
        · cases hj
      obtain ⟨ad', e1, e2⟩ := h4 j v hj'
      cases e1; exact e2
    have := run_copy_row (P := P) w dT sT ty e g o dLen dCap ad l2.length sCap cur.toArray t (u8s new) hT.und hsz hg (by rw [u8s_length, hnl]) hc (by rw [u8s_length]; simpa using hfit) (u8s_one new)
    rw [this, u8s_length]
    simp

theorem run_copyOp {a : Act} {x y : Operand} {ts : Array TypeId} {u v : Value} (hx : a.eval x = u) (hy : a.eval y = v) {w w' : World} {r : Value} (h : (Builtin.copy_ ts ty #[u, v]).run P w = .ok r w') :
    (execOp a.eval ⟨d, .call { callee := .builtin .copy, args := #[x, y], argTypes := ts }, ty, pos, af, gd⟩).run P w = .ok (.value r) w' := by
  simp only [execOp, resolve, invoke, builtin, Sem.run_bind, Sem.run_pure, Result.andThen_ok, List.map_toArray, List.map_cons, List.map_nil, hx, hy, h]

/-- copy into an array of a block. -/
theorem OpT.copyA {dT sT e : TypeId} {ag : Bool} [hT : SliI P dT e] [he : TyI P e ag 1] {x y : Operand} {g o dLen dCap : Nat} {T' : TypeId} {cs cs' : Ch} {v2 : Value} {l2 new : List UInt8} {Γf : List Asn} (hx : evF F x = some (.slice (some ⟨g, o, none⟩) dLen dCap)) (hy : evF F y = some v2) (hp : Takes Γ [bx g T' cs] Γf) (h2 : HasS Γ v2 l2.length (u8s l2)) (hnew : l2.take dLen = new) (ho : OvC new cs o cs') :
    OpT P n Γ F ⟨d, .call { callee := .builtin .copy, args := #[x, y], argTypes := #[dT, sT] }, ty, pos, af, gd⟩ [bx g T' cs] (RLeave [bx g T' cs']) := fun ρ w hf hw _ => by
  have hb : (bx g T' cs).holds w := hw _ (hp.mem_iff.2 (List.mem_cons_self ..))
  obtain ⟨o1, o2, o3⟩ := ho.run hb.2
  have hr := h2 w hw
  obtain ⟨a, cap, hv, _⟩ := hr.at
  subst hv
  have hrun := run_copyU (P := P) (dT := dT) (sT := sT) ty hb.1 hr (dCap := dCap) hnew o3
  rw [← o2] at hrun
  unfold DoesW
  rw [run_copyOp (hf.eval hx) (hf.eval hy) hrun]
  have hg : ownFp [bx g T' cs] g := ⟨_, List.mem_singleton.2 rfl, rfl, rfl⟩
  by_cases h0 : new.length = 0
  · rw [if_pos h0]
    have : flat cs' = flat cs := by rw [o2, List.length_eq_zero_iff.1 h0]; simp [u8s]
    exact ⟨_, rfl, .one (Mod.refl _ _) ⟨by rw [this]; exact hb.1, o1⟩ fun g' hg' => .inr (by rw [show g' = g from hg']; exact hg)⟩
  · rw [if_neg h0]
    exact ⟨_, rfl, .one (Mod.setRow hg _ _) ⟨setRow_heap w g _ _ T' (0, 0) hb.1, o1⟩ fun g' hg' => .inr (by rw [show g' = g from hg']; exact hg)⟩

/-- copy into bytes of one's own, from a place on. -/
theorem OpT.copyE {dT sT : TypeId} [hT : SliI P dT 5] [he : TyI P 5 false 1] {x y : Operand} {s v2 : Value} {k dLen : Nat} {l l2 new : List UInt8} {Γf : List Asn} (hx : evF F x = some (subv 1 s k dLen)) (hy : evF F y = some v2) (hp : Takes Γ [ob s l] Γf) (h2 : HasS Γ v2 l2.length (u8s l2)) (hk : k + dLen ≤ l.length) (hnew : l2.take dLen = new) :
    OpT P n Γ F ⟨d, .call { callee := .builtin .copy, args := #[x, y], argTypes := #[dT, sT] }, ty, pos, af, gd⟩ [ob s l] (RLeave [ob s (over l k new)]) := fun ρ w hf hw _ => by
  have hb : (ob s l).holds w := hw _ (hp.mem_iff.2 (List.mem_cons_self ..))
  have hr := h2 w hw
  obtain ⟨a, cap2, hv, _⟩ := hr.at
  subst hv
  have hnl : new.length ≤ dLen := by rw [← hnew, List.length_take]; omega
  have hov : ob s (over l k new) = rowN 5 1 s l.length (u8s (over l k new)) := by unfold ob; rw [over_length (by omega)]
  rw [hov]
  have hstay : new.length = 0 → (rowN 5 1 s l.length (u8s (over l k new))).holds w := fun h0 => by
    have : over l k new = l := by rw [List.length_eq_zero_iff.1 h0]; simp [over]
    rw [this]; exact hb
  rcases hb.2 with ⟨hs, h0⟩ | ⟨g, cap, cur, hs, hB, hg, hnc, hcm, hcs, ht⟩
  · subst hs
    have hd0 : dLen = 0 := by omega
    subst hd0
    have hn0 : new.length = 0 := by omega
    have hrun : (Builtin.copy_ #[dT, sT] ty #[.slice none 0 0, .slice a l2.length cap2]).run P w = .ok (goInt 0) w := run_copy_none w dT sT ty 5 _ _ 0 0 _ _ hT.und he.size (Nat.min_zero _)
    unfold DoesW
    rw [run_copyOp (u := .slice none 0 0) (hf.eval hx) (hf.eval hy) hrun]
    exact ⟨_, rfl, .one (Mod.refl _ _) (hstay hn0) fun g' hg' => by cases hg'⟩
  · subst hs
    have hg' : ownFp [ob (.slice (some ⟨g, 0, none⟩) l.length cap) l] g := ⟨_, List.mem_singleton.2 rfl, rfl, rfl⟩
    by_cases hkc : cap = k
    · have hd0 : dLen = 0 := by omega
      have hn0 : new.length = 0 := by omega
      have hrun : (Builtin.copy_ #[dT, sT] ty #[.slice (some ⟨g, 0, none⟩) dLen (cap - k), .slice a l2.length cap2]).run P w = .ok (goInt 0) w := run_copy_none w dT sT ty 5 _ _ dLen _ _ _ hT.und he.size (by rw [hd0]; exact Nat.min_zero _)
      unfold DoesW
      rw [run_copyOp (u := .slice (some ⟨g, 0, none⟩) dLen (cap - k)) (by rw [hf.eval hx]; simp [subv, hkc]) (hf.eval hy) hrun]
      exact ⟨_, rfl, .one (Mod.refl _ _) (hstay hn0) fun k' hk' => .inr (by cases hk'; exact hg')⟩
    · have hrun := run_copyU (P := P) (dT := dT) (sT := sT) (e := 5) (o := k) (dCap := cap - k) (cur := cur.toList) (t := 5) (g := g) ty (by simpa using hg) hr hnew (by have : cur.toList.length = cap * 1 := by { simpa using hcs }; omega)
      unfold DoesW
      rw [run_copyOp (u := .slice (some ⟨g, k, none⟩) dLen (cap - k)) (by rw [hf.eval hx]; simp [subv, hkc, add_mk]) (hf.eval hy) hrun]
      by_cases hn0 : new.length = 0
      · rw [if_pos hn0]
        exact ⟨_, rfl, .one (Mod.refl _ _) (hstay hn0) fun k' hk' => .inr (by cases hk'; exact hg')⟩
      · rw [if_neg hn0]
        have hcl : cur.toList.length = cap := by simpa using hcs
        have hll := u8s_length l
        have hnl2 := u8s_length new
        refine ⟨_, rfl, .one (Mod.setRow hg' _ _) ⟨by rw [u8s_length, over_length (by omega)]; omega, .inr ⟨g, cap, _, rfl, hB, setRow_heap w g _ _ 5 (0, 0) hg, hnc, hcm, ?_, ?_⟩⟩ fun k' hk' => .inr (by cases hk'; exact hg')⟩
        · simp only [List.size_toArray, List.length_append, List.length_take, List.length_drop]; omega
        · rw [over_u8s, ← ht]
          simp only [Nat.mul_one, List.toList_toArray]
          rw [List.take_append, List.take_append, List.take_take, List.drop_take, List.take_take, List.length_take]
          congr 1
          · congr 1; omega
          · congr 1
            · rw [List.take_of_length_le (by omega)]
            · congr 1; omega


/-- Bytes of a block's array, as a slice sees them. -/
inductive BoxC : Ch → Nat → Nat → List UInt8 → Prop
  | all {m : Nat} {l : List UInt8} {cs : Ch} : BoxC ((m, u8s l) :: cs) 0 m l
  | part {m k n : Nat} {l : List UInt8} {cs : Ch} (hk : Nat.blt k m = true) (h : Nat.ble (k + n) m = true) : BoxC ((m, u8s l) :: cs) k n (seg l k n)
  | there {c : Nat × List Value} {cs : Ch} {o n : Nat} {l : List UInt8} (hc : Nat.ble c.1 o = true) (h : BoxC cs (o - c.1) n l) : BoxC (c :: cs) o n l
theorem BoxC.run {cs : Ch} {o n : Nat} {l : List UInt8} (h : BoxC cs o n l) (hk : chOk cs) : l.length = n ∧ ∀ i u, (u8s l)[i]? = some u → (flat cs)[o + i]? = some u := by
  induction h with
  | @all m l cs =>
    have hl : l.length = m := by have := hk _ (List.mem_cons_self ..); simpa [u8s_length] using this
    refine ⟨hl, fun i u hu => ?_⟩
    have hi := (List.getElem?_eq_some_iff.1 hu).1
    rw [flat_cons, Nat.zero_add, List.getElem?_append_left hi, hu]
  | @part m k n l cs hkm h =>
    have hl : l.length = m := by have := hk _ (List.mem_cons_self ..); simpa [u8s_length] using this
    have h' : k + n ≤ m := Nat.le_of_ble_eq_true h
    refine ⟨seg_length (by omega), fun i u hu => ?_⟩
    have hi := (List.getElem?_eq_some_iff.1 hu).1
    rw [u8s_length, seg_length (by omega)] at hi
    unfold seg at hu
    rw [← u8s_take, ← u8s_drop, List.getElem?_take, if_pos hi, List.getElem?_drop] at hu
    rw [flat_cons, List.getElem?_append_left (by rw [u8s_length]; omega), hu]
  | @there c cs o n l hc h ih =>
    have hc' : c.1 ≤ o := Nat.le_of_ble_eq_true hc
    obtain ⟨h1, h2⟩ := ih fun d hd => hk d (List.mem_cons_of_mem _ hd)
    refine ⟨h1, fun i u hu => ?_⟩
    have hcl : c.2.length = c.1 := hk _ (List.mem_cons_self ..)
    rw [flat_cons, List.getElem?_append_right (by omega), show o + i - c.2.length = o - c.1 + i by omega]
    exact h2 i u hu
theorem HasS.boxB {g : Nat} {T : TypeId} {cs : Ch} {o m c : Nat} {l : List UInt8} (h : bx g T cs ∈ Γ) (hb : BoxC cs o m l) (hc : Nat.ble m c = true) (hcm : Nat.ble c 1000000 = true) : HasS Γ (.slice (some ⟨g, o, none⟩) m c) l.length (u8s l) := fun w hw => by
  have hg := hw _ h
  obtain ⟨h1, h2⟩ := hb.run hg.2.len
  subst h1
  refine .inr ⟨_, c, rfl, Nat.le_of_ble_eq_true hc, by have := Nat.le_of_ble_eq_true hcm; unfold maxLen; omega, fun i u hu => ?_⟩
  rw [add_mk, bx_cell hg]
  exact h2 i u hu

theorem WPq.doneBH {fn : Func} {rs : List ResultVar} {g : Nat} {T : TypeId} {cs : Ch} {o c m : Nat} {l : List UInt8} {Γx : List Asn} {ex : Exit} (he : ex = .ret ∨ ex = .normal) (hr : fn.results = rs.toArray) (h : ResF P (hdN (.slice (some ⟨g, o, none⟩) m c) l.length (u8s l) :: Γx) F rs [.slice (some ⟨g, o, none⟩) m c]) (hp : Take Γ (bx g T cs) Γx) (hv : HasS [bx g T cs] (.slice (some ⟨g, o, none⟩) m c) l.length (u8s l)) :
    WPq n W S Γ F (Done P fn W S (RHd l.length (u8s l))) ex :=
  WPq.asHd hp hv rfl (WPq.doneH he hr h .here rfl)

/-! ### Arrays -/

theorem ReadR.toArrS {T e : TypeId} {m : Nat} [hT : ArrI P T m e] {x : Operand} {ad : Addr} {k c : Nat} (hx : evF F x = some (.slice (some ad) k c)) (hle : Nat.ble m k = true) :
    ReadR P n Γ F ⟨d, .sliceToArrayPointer T x, ty, pos, af, gd⟩ (.pointer (some ad)) := fun ρ w hf hw => by
  have : ¬ k < m := by have := Nat.le_of_ble_eq_true hle; omega
  simp [execOp, hf.eval hx, Instr.arrayAt, run_underlying hT.und, Sem.run_bind, this]
theorem ReadR.loadBx {T T' : TypeId} {sz : Nat} [hT : TyI P T true sz] {x : Operand} {g o : Nat} {cs : Ch} {l : List UInt8} (hx : evF F x = some (.pointer (some ⟨g, o, none⟩))) (hm : bx g T' cs ∈ Γ) (hb : BoxC cs o sz l) :
    ReadR P n Γ F ⟨d, .load T x, ty, pos, af, gd⟩ (ag [(sz, u8s l)]) := fun ρ w hf hw => by
  have hg := hw _ hm
  obtain ⟨h1, h2⟩ := hb.run hg.2.len
  have := run_loadCells_list (P := P) w ⟨g, o, none⟩ (u8s l) fun j v hv => by
    rw [add_mk, bx_cell hg]; exact h2 j v hv
  rw [u8s_length, h1] at this
  simp [execOp, hf.eval hx, Instr.loadAt, Instr.sureAddr, loadVar, Sem.run_bind, hT.run_isAgg, hT.run_sizeOf, this, ag, flat]
theorem ReadR.loadEA0 {T : TypeId} {sz : Nat} [hT : TyI P T true sz] {x : Operand} {s : Value} {l : List UInt8} (hx : evF F x = some (.pointer (some (ela s 0)))) (h : HasS Γ s l.length (u8s l)) (hi : l.length = sz) :
    ReadR P n Γ F ⟨d, .load T x, ty, pos, af, gd⟩ (ag [(sz, u8s l)]) := by
  have := ReadR.loadEAB (P := P) (n := n) (d := d) (ty := ty) (pos := pos) (af := af) (gd := gd) (T := T) hx h (by omega)
  rwa [List.drop_zero, List.take_of_length_le (by omega)] at this
theorem ReadR.buildZ {T : TypeId} {cs : Ch} {m : Nat} {e : TypeId} [hT : ArrI P T m e] [hz : ZeroI P T cs] [he : TyI P e false 1] :
    ReadR P n Γ F ⟨d, .build T #[], ty, pos, af, gd⟩ (ag cs) := fun ρ w hf hw => by
  obtain ⟨z, h1, h2⟩ := hz.run w
  simp [execOp, Instr.build, Sem.run_bind, h1, run_underlying hT.und, he.run_sizeOf, Instr.fill, h2, ag]

def setsB (l : List UInt8) : List (Nat × Int) → List UInt8
  | [] => l
  | (i, e) :: qs => setsB (l.set i (UInt8.ofNat e.toNat)) qs
def evAs (F : List (Nat × Value)) (m : Nat) : List (Nat × Operand) → List (Nat × Int) → Prop
  | [], [] => True
  | (j, x) :: ps, (i, e) :: qs => Nat.beq i j = true ∧ Nat.blt i m = true ∧ evF F x = some (.int .u8 e) ∧ 0 ≤ e ∧ e < 256 ∧ evAs F m ps qs
  | _, _ => False
theorem evAs.nil {m : Nat} : evAs F m [] [] := trivial
theorem evAs.cons {m j : Nat} {x : Operand} {ps : List (Nat × Operand)} {e : Int} {qs : List (Nat × Int)} (h0 : Nat.blt j m = true) (h2 : evF F x = some (.int .u8 e)) (h3 : 0 ≤ e) (h4 : e < 256) (k : evAs F m ps qs) : evAs F m ((j, x) :: ps) ((j, e) :: qs) := ⟨Nat.beq_refl j, h0, h2, h3, h4, k⟩
theorem WPl.turnD {ops : Array Oper} {os : List Oper} {o : Oper} {d : Tmp} {Γo Γf Γ' : List Asn} (hp : Takes Γ Γo Γf) (hd : o.dst = some d) (hlt : Nat.blt d n = true) (hw : wantG F ops o.guard = some true) (h : OpT P n Γ F o Γo (RLeave Γ'))
    (k : ∀ v, WPl P n W S (Γ' ++ Γf) ((d, v) :: F) ops os Q) : WPl P n W S Γ F ops (o :: os) Q := by
  refine WPl.op hp (by rw [hd]; exact hlt) hw h ?_
  rintro v Γ'' rfl
  rw [hd]
  exact k v
theorem WPl.hd {ops : Array Oper} {os : List Oper} {o : Oper} {d : Tmp} {m : Nat} {us : List Value} (hd : o.dst = some d) (hlt : Nat.blt d n = true) (hw : wantG F ops o.guard = some true) (h : OpT P n Γ F o [] (RHd m us))
    (k : ∀ v, v.oneCell' = true → WPl P n W S (hdN v m us :: Γ) ((d, v) :: F) ops os Q) : WPl P n W S Γ F ops (o :: os) Q := by
  refine WPl.op (Γo := []) (Γf := Γ) .nil (by rw [hd]; exact hlt) hw h ?_
  rintro v Γ' ⟨h1, rfl⟩
  rw [hd]
  exact k v h1
theorem WPl.row2 {ops : Array Oper} {os : List Oper} {o : Oper} {d : Tmp} {e : TypeId} {sz m : Nat} {us : List Value} {c : Value} (hd : o.dst = some d) (hlt : Nat.blt d n = true) (hw : wantG F ops o.guard = some true) (h : OpT P n Γ F o [] (RRow2 e sz m us c))
    (k : ∀ v, v.oneCell' = true → WPl P n W S (rowN e sz v m us :: Γ) ((d, .tuple #[v, c]) :: F) ops os Q) : WPl P n W S Γ F ops (o :: os) Q := by
  refine WPl.op (Γo := []) (Γf := Γ) .nil (by rw [hd]; exact hlt) hw h ?_
  rintro v Γ' ⟨s, rfl, h1, rfl⟩
  rw [hd]
  exact k s h1

variable {ops : Array Oper} {o : Oper} {eats : List (Nat × Nat)} {K : Prev → Prop} {j : Nat} {os : List Oper} {D bad : List Nat} {Ds : List (List Nat × List Nat)} {prev : Prev}
theorem RGl.hd {m : Env → Nat} {xs : Env → List Value} (h : ∀ e, oksR D e prev → OpT P n (ensR eats D j e prev ++ Γ) (bndR D e prev ++ fcutR bad F) o [] (RHd (m e) (xs e)))
    (k : RGl P n Γ F ops eats K (j + 1) os Ds ((j, o.dst, ⟨fun _ r => r.1, fun e r => [hdN r.1 (m e) (xs e)], fun _ r => r.1.oneCell' = true⟩) :: prev)) (hw : ∀ e, wantG (bndR D e prev ++ fcutR bad F) ops o.guard = some true := by intro e; first | rfl | fail) (hi : ∀ e, m (mask D e) = m e ∧ xs (mask D e) = xs e := by intro e; first | exact ⟨rfl, rfl⟩ | fail) :
    RGl P n Γ F ops eats K j (o :: os) ((D, bad) :: Ds) prev :=
  RGl.stepR (fun e he => .op (hw e) (h e he) (fun A hA => by cases hA) (by rintro v Γ' ⟨h1, rfl⟩; exact ⟨rfl, rfl, h1⟩)) (fun e _ => ⟨rfl, by show [_] = [_]; rw [(hi e).1, (hi e).2], rfl⟩) k
end
end Go.Proofs.YtpilenbdimhegaaGreatDoor
