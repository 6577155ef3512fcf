/- Separation: a region that draws its order. Each operation is told what those ahead of it gave; what is shown so holds in every order. -/
import Derived.Test.YtpjfkomicehinaaSE
namespace Go.Proofs.Ytpjfkomicehinaa
open Go.RowKit
set_option linter.unusedSimpArgs false
set_option linter.unusedVariables false

/-- What the operations have given: values, with assertions. -/
abbrev Env := Nat → Value × List Asn
/-- What is said of what an operation gives. -/
structure RS where
  val : Env → Value × List Asn → Value
  ent : Env → Value × List Asn → List Asn
  ok : Env → Value × List Asn → Prop
def mask (D : List Nat) (e : Env) : Env := fun k => match D.contains k with | true => e k | false => (undef, [])
def RS.Ins (D : List Nat) (s : RS) : Prop := ∀ e r, s.val (mask D e) r = s.val e r ∧ s.ent (mask D e) r = s.ent e r ∧ s.ok (mask D e) r = s.ok e r
def RS.Fact (s : RS) (e : Env) (r : Value × List Asn) : Prop := r.1 = s.val e r ∧ r.2 = s.ent e r ∧ s.ok e r
abbrev Prev := List (Nat × Option Tmp × RS)

def bnd (D : List Nat) (e : Env) : Prev → List (Nat × Value)
  | [] => []
  | (i, d, s) :: ps => match D.contains i, d with
    | true, some d => (d, s.val e (e i)) :: bnd D e ps
    | _, _ => bnd D e ps
def eater (eats : List (Nat × Nat)) (i : Nat) : Option Nat := match eats with
  | [] => none
  | (a, b) :: es => if a = i then some b else eater es i
def sees : List (Nat × Nat) → Nat → Nat → Bool
  | [], _, _ => false
  | (a, b) :: es, i, j => (Nat.beq a i && Nat.beq b j) || sees es i j
theorem sees_mem : ∀ {es : List (Nat × Nat)} {i j : Nat}, sees es i j = true → (i, j) ∈ es
  | [], _, _, h => by cases h
  | (a, b) :: es, i, j, h => by
    unfold sees at h
    rw [Bool.or_eq_true, Bool.and_eq_true] at h
    rcases h with ⟨h1, h2⟩ | h
    · rw [Nat.eq_of_beq_eq_true h1, Nat.eq_of_beq_eq_true h2]; exact List.mem_cons_self ..
    · exact List.mem_cons_of_mem _ (sees_mem h)
/-- The first pair tells who eats; the others who sees what is eaten later. -/
def vis (eats : List (Nat × Nat)) (i j : Nat) : Bool := match eater eats i with | none => true | some k => Nat.beq k j || sees eats i j
def ens (eats : List (Nat × Nat)) (D : List Nat) (j : Nat) (e : Env) : Prev → List Asn
  | [] => []
  | (i, _, s) :: ps => match D.contains i && vis eats i j with
    | true => s.ent e (e i) ++ ens eats D j e ps
    | false => ens eats D j e ps
def oks (D : List Nat) (e : Env) : Prev → Prop
  | [] => True
  | (i, _, s) :: ps => match D.contains i with
    | true => s.ok e (e i) ∧ oks D e ps
    | false => oks D e ps
def eaten1 (eats : List (Nat × Nat)) (j : Nat) (e : Env) : Prev → List Asn
  | [] => []
  | (i, _, s) :: ps => match eater eats i with
    | none => eaten1 eats j e ps
    | some k => match Nat.beq k j with
      | true => s.ent e (e i) ++ eaten1 eats j e ps
      | false => eaten1 eats j e ps
def fcut (bad : List Nat) : List (Nat × Value) → List (Nat × Value)
  | [] => []
  | (t, v) :: F => match bad.contains t with
    | true => fcut bad F
    | false => (t, v) :: fcut bad F

/-- All values, assertions, facts at a region's end. -/
def bndA (e : Env) : Prev → List (Nat × Value)
  | [] => []
  | (i, some d, s) :: ps => (d, s.val e (e i)) :: bndA e ps
  | (_, none, _) :: ps => bndA e ps
def ensA (eats : List (Nat × Nat)) (e : Env) : Prev → List Asn
  | [] => []
  | (i, _, s) :: ps => match eater eats i with
    | none => s.ent e (e i) ++ ensA eats e ps
    | some _ => ensA eats e ps
def oksA (e : Env) : Prev → Prop
  | [] => True
  | (i, _, s) :: ps => s.ok e (e i) ∧ oksA e ps

/-- What is owed at an operation. -/
structure Ob (P : Program) (n : Nat) (Γ : List Asn) (F : List (Nat × Value)) (ops : Array Oper) (eats : List (Nat × Nat)) (D bad : List Nat) (j : Nat) (o : Oper) (prev : Prev) (s : RS) : Prop where
  ins : s.Ins D
  does : ∀ e ρ w, Fr n (bnd D e prev ++ fcut bad F) ρ → Holds (ens eats D j e prev ++ Γ) w → (ens eats D j e prev ++ Γ).Pairwise Apart → oks D e prev →
    (Region.wanted o (yielded ops ρ.tmps) = true ∧ DoesW P o ρ w fun v w' => ∃ Γ', s.Fact e (v, Γ') ∧ Post (ownFp (eaten1 eats j e prev)) w Γ' w') ∨
    (Region.wanted o (yielded ops ρ.tmps) = false ∧ s.Fact e (undef, []))

def RGl (P : Program) (n : Nat) (Γ : List Asn) (F : List (Nat × Value)) (ops : Array Oper) (eats : List (Nat × Nat)) (K : Prev → Prop) : Nat → List Oper → List (List Nat × List Nat) → Prev → Prop
  | j, o :: os, (D, bad) :: Ds, prev => ∃ s, Ob P n Γ F ops eats D bad j o prev s ∧ RGl P n Γ F ops eats K (j + 1) os Ds ((j, o.dst, s) :: prev)
  | _, [], [], prev => K prev
  | _, _, _, _ => False

/-- The closed facts. -/
def regOk (n m : Nat) (l : List Oper) (Ds : List (List Nat × List Nat)) (eats : List (Nat × Nat)) : Bool :=
  relOk n l.toArray && decide (Ds.length = l.length) &&
  (l.zipIdx.all fun (o, j) => o.after.toList.all fun g => !Region.binds .any g || ((Ds.getD j ([], [])).1.contains g.on)) &&
  (Ds.zipIdx.all fun (d, j) => d.1.all fun i => (decide (i < j) && (Ds.getD i ([], [])).1.all fun k => d.1.contains k) || (decide (l.length ≤ i) && decide (i < l.length + m))) &&
  (l.zipIdx.all fun (o, k) => match o.dst with
    | none => true
    | some t => Ds.zipIdx.all fun (d, j) => j == k || (Ds.getD k ([], [])).1.contains j || d.2.contains t) &&
  (eats.all fun (i, j) => decide (j < l.length) && (Ds.getD j ([], [])).1.contains i && (match eater eats i with | none => false | some k => k == j || (Ds.getD k ([], [])).1.contains j)) &&
  (l.zipIdx.all fun (o, j) => (Ds.getD j ([], [])).1.all fun i => decide (l.length ≤ i) || o.after.toList.any fun g => Region.binds .any g && (g.on == i || (Ds.getD g.on ([], [])).1.contains i))

def psp (A : Asn) : RS := ⟨fun _ _ => undef, fun _ _ => [A], fun _ _ => True⟩
def prev0 : Nat → List Asn → Prev
  | _, [] => []
  | i, A :: Γx => (i, none, psp A) :: prev0 (i + 1) Γx

theorem mem_prev0 : ∀ {Γx : List Asn} {k i : Nat} {d : Option Tmp} {s : RS}, (i, d, s) ∈ prev0 k Γx ↔ k ≤ i ∧ d = none ∧ ∃ A, Γx[i - k]? = some A ∧ s = psp A
  | [], k, i, d, s => by simp [prev0]
  | A :: Γx, k, i, d, s => by
    rw [prev0, List.mem_cons, mem_prev0]
    constructor
    · rintro (h | ⟨h1, h2, B, h3, h4⟩)
      · cases h; exact ⟨Nat.le_refl _, rfl, A, by simp, rfl⟩
      · refine ⟨by omega, h2, B, ?_, h4⟩
        rw [show i - k = (i - (k + 1)) + 1 by omega, List.getElem?_cons_succ]; exact h3
    · rintro ⟨h1, h2, B, h3, h4⟩
      by_cases e : i = k
      · subst e
        simp at h3
        subst h3 h2 h4
        exact .inl rfl
      · refine .inr ⟨by omega, h2, B, ?_, h4⟩
        rw [show i - k = (i - (k + 1)) + 1 by omega, List.getElem?_cons_succ] at h3; exact h3

/-- All that was said up to operation j. -/
def mk (l : List Oper) (sp : Nat → RS) (p0 : Prev) : Nat → Prev
  | 0 => p0
  | j + 1 => (j, (l[j]?).bind (·.dst), sp j) :: mk l sp p0 j

theorem mem_mk {l : List Oper} {sp : Nat → RS} {p0 : Prev} : ∀ {j : Nat} {x : Nat × Option Tmp × RS}, x ∈ mk l sp p0 j ↔ (∃ i, i < j ∧ x = (i, (l[i]?).bind (·.dst), sp i)) ∨ x ∈ p0
  | 0, x => by simp [mk]
  | j + 1, x => by
    rw [mk, List.mem_cons, mem_mk]
    constructor
    · rintro (rfl | ⟨i, hi, rfl⟩ | h)
      · exact .inl ⟨j, by omega, rfl⟩
      · exact .inl ⟨i, by omega, rfl⟩
      · exact .inr h
    · rintro (⟨i, hi, rfl⟩ | h)
      · by_cases e : i = j
        · subst e; exact .inl rfl
        · exact .inr (.inl ⟨i, by omega, rfl⟩)
      · exact .inr (.inr h)

theorem RGl.get {P : Program} {n : Nat} {Γ : List Asn} {F : List (Nat × Value)} {ops : Array Oper} {eats : List (Nat × Nat)} {K : Prev → Prop} {l : List Oper} {p0 : Prev} : ∀ (os : List Oper) (j : Nat) (Ds : List (List Nat × List Nat)) (sp : Nat → RS),
    (∀ i, os[i]? = l[j + i]?) → RGl P n Γ F ops eats K j os Ds (mk l sp p0 j) →
    ∃ sp' : Nat → RS, (∀ i, i < j → sp' i = sp i) ∧ K (mk l sp' p0 (j + os.length)) ∧ ∀ i o, os[i]? = some o → ∃ D, Ds[i]? = some D ∧ Ob P n Γ F ops eats D.1 D.2 (j + i) o (mk l sp' p0 (j + i)) (sp' (j + i))
  | [], j, [], sp, _, h => ⟨sp, fun _ _ => rfl, h, by simp⟩
  | o :: os, j, (D, bad) :: Ds, sp, hl, h => by
    obtain ⟨s, h1, h2⟩ := h
    have hj : l[j]? = some o := by have := hl 0; simpa using this.symm
    have hmk : ∀ (f g : Nat → RS) (k : Nat), (∀ i, i < k → f i = g i) → mk l f p0 k = mk l g p0 k := by
      intro f g k
      induction k with
      | zero => intro _; rfl
      | succ k ih => intro hfg; rw [mk, mk, ih fun i hi => hfg i (by omega), hfg k (by omega)]
    let sp1 : Nat → RS := fun i => if i = j then s else sp i
    have e1 : mk l sp1 p0 j = mk l sp p0 j := hmk _ _ _ fun i hi => by simp only [sp1]; rw [if_neg (by omega)]
    have h2' : RGl P n Γ F ops eats K (j + 1) os Ds (mk l sp1 p0 (j + 1)) := by
      rw [mk, e1, hj]
      simp only [sp1, if_true, Option.bind_some]
      exact h2
    obtain ⟨sp', a1, a2, a3⟩ := RGl.get os (j + 1) Ds sp1 (fun i => by have := hl (i + 1); rw [List.getElem?_cons_succ] at this; rw [this]; congr 1; omega) h2'
    refine ⟨sp', fun i hi => by rw [a1 i (by omega)]; simp only [sp1]; rw [if_neg (by omega)], by rw [List.length_cons]; rw [show j + (os.length + 1) = j + 1 + os.length by omega]; exact a2, fun i o' ho => ?_⟩
    cases i with
    | zero =>
      simp at ho; subst ho
      refine ⟨(D, bad), rfl, ?_⟩
      rw [Nat.add_zero, hmk sp' sp j fun i hi => by rw [a1 i (by omega)]; simp only [sp1]; rw [if_neg (by omega)], a1 j (by omega)]
      simp only [sp1, if_true]
      exact h1
    | succ i =>
      obtain ⟨D', hD, hO⟩ := a3 i o' (by simpa using ho)
      refine ⟨D', by simpa using hD, ?_⟩
      rw [show j + (i + 1) = j + 1 + i by omega]
      exact hO
  | [], _, _ :: _, _, _, h => h.elim
  | _ :: _, _, [], _, _, h => h.elim

theorem lkT_append (F G : List (Nat × Value)) (t : Nat) : lkT (F ++ G) t = match lkT F t with | some v => some v | none => lkT G t := by
  induction F with
  | nil => rfl
  | cons x F ih =>
    obtain ⟨u, v⟩ := x
    simp only [List.cons_append, lkT]
    split <;> simp_all

theorem lkT_fcut {bad : List Nat} : ∀ {F : List (Nat × Value)} {t : Nat} {v : Value}, lkT (fcut bad F) t = some v → bad.contains t = false ∧ lkT F t = some v
  | [], t, v, h => by simp [fcut, lkT] at h
  | (u, x) :: F, t, v, h => by
    unfold fcut at h
    split at h
    · rename_i hb
      obtain ⟨h1, h2⟩ := lkT_fcut h
      refine ⟨h1, ?_⟩
      rw [lkT_cons_ne _ _ (by rintro rfl; rw [hb] at h1; cases h1)]
      exact h2
    · rename_i hb
      by_cases e : u = t
      · subst e
        rw [lkT_cons_eq] at h ⊢
        exact ⟨hb, h⟩
      · rw [lkT_cons_ne _ _ e] at h ⊢
        exact lkT_fcut h

theorem lkT_bnd {D : List Nat} {e : Env} : ∀ {prev : Prev} {t : Nat} {v : Value}, lkT (bnd D e prev) t = some v → ∃ i s, (i, some t, s) ∈ prev ∧ D.contains i = true ∧ v = s.val e (e i)
  | [], t, v, h => by simp [bnd, lkT] at h
  | (i, d, s) :: prev, t, v, h => by
    unfold bnd at h
    split at h
    · rename_i d' hD
      by_cases et : d' = t
      · subst et
        rw [lkT_cons_eq] at h
        cases h
        exact ⟨i, s, List.mem_cons_self .., hD, rfl⟩
      · rw [lkT_cons_ne _ _ et] at h
        obtain ⟨i', s', h1, h2, h3⟩ := lkT_bnd h
        exact ⟨i', s', List.mem_cons_of_mem _ h1, h2, h3⟩
    · obtain ⟨i', s', h1, h2, h3⟩ := lkT_bnd h
      exact ⟨i', s', List.mem_cons_of_mem _ h1, h2, h3⟩

theorem lkT_bnd_none {D : List Nat} {e : Env} : ∀ {prev : Prev} {t i : Nat} {s : RS}, lkT (bnd D e prev) t = none → (i, some t, s) ∈ prev → D.contains i = false
  | (i', d, s') :: prev, t, i, s, h, hm => by
    cases hD : D.contains i with
    | false => rfl
    | true =>
      exfalso
      unfold bnd at h
      rcases List.mem_cons.1 hm with e1 | e1
      · cases e1
        rw [hD] at h
        simp only at h
        rw [lkT_cons_eq] at h
        cases h
      · have key : ∀ h' : lkT (bnd D e prev) t = none, False := fun h' => by
          have := lkT_bnd_none h' e1
          rw [hD] at this
          cases this
        split at h
        · rename_i d' _
          by_cases et : d' = t
          · subst et; rw [lkT_cons_eq] at h; cases h
          · rw [lkT_cons_ne _ _ et] at h; exact key h
        · exact key h

theorem mem_ens {eats : List (Nat × Nat)} {D : List Nat} {j : Nat} {e : Env} : ∀ {prev : Prev} {A : Asn}, A ∈ ens eats D j e prev ↔ ∃ i d s, (i, d, s) ∈ prev ∧ D.contains i = true ∧ vis eats i j = true ∧ A ∈ s.ent e (e i)
  | [], A => by simp [ens]
  | (i, d, s) :: prev, A => by
    unfold ens
    cases hc : D.contains i && vis eats i j with
    | true =>
      rw [Bool.and_eq_true] at hc
      simp only [List.mem_append]
      constructor
      · rintro (h | h)
        · exact ⟨i, d, s, List.mem_cons_self .., hc.1, hc.2, h⟩
        · obtain ⟨i', d', s', h1, h2⟩ := mem_ens.1 h
          exact ⟨i', d', s', List.mem_cons_of_mem _ h1, h2⟩
      · rintro ⟨i', d', s', h1, h2, h3, h4⟩
        rcases List.mem_cons.1 h1 with h1 | h1
        · cases h1; exact .inl h4
        · exact .inr (mem_ens.2 ⟨i', d', s', h1, h2, h3, h4⟩)
    | false =>
      simp only
      constructor
      · intro h
        obtain ⟨i', d', s', h1, h2⟩ := mem_ens.1 h
        exact ⟨i', d', s', List.mem_cons_of_mem _ h1, h2⟩
      · rintro ⟨i', d', s', h1, h2, h3, h4⟩
        rcases List.mem_cons.1 h1 with h1 | h1
        · cases h1; rw [h2, h3] at hc; cases hc
        · exact mem_ens.2 ⟨i', d', s', h1, h2, h3, h4⟩

theorem ens_apart {eats : List (Nat × Nat)} {D : List Nat} {j : Nat} {e : Env} : ∀ {prev : Prev}, (prev.map (·.1)).Nodup → (∀ x, x ∈ prev → D.contains x.1 = true → vis eats x.1 j = true → (x.2.2.ent e (e x.1)).Pairwise Apart) →
    (∀ x y, x ∈ prev → y ∈ prev → x.1 ≠ y.1 → D.contains x.1 = true → vis eats x.1 j = true → D.contains y.1 = true → vis eats y.1 j = true → ∀ A, A ∈ x.2.2.ent e (e x.1) → ∀ B, B ∈ y.2.2.ent e (e y.1) → Apart A B) → (ens eats D j e prev).Pairwise Apart
  | [], _, _, _ => .nil
  | (i, d, s) :: prev, hn, h1, h2 => by
    rw [List.map_cons, List.nodup_cons] at hn
    have ih := ens_apart (eats := eats) (D := D) (j := j) (e := e) hn.2 (fun x hx => h1 x (List.mem_cons_of_mem _ hx)) fun x y hx hy => h2 x y (List.mem_cons_of_mem _ hx) (List.mem_cons_of_mem _ hy)
    unfold ens
    cases hc : D.contains i && vis eats i j with
    | false => exact ih
    | true =>
      rw [Bool.and_eq_true] at hc
      refine List.pairwise_append.2 ⟨h1 _ (List.mem_cons_self ..) hc.1 hc.2, ih, fun A hA B hB => ?_⟩
      obtain ⟨i', d', s', g1, g2, g3, g4⟩ := mem_ens.1 hB
      refine h2 (i, d, s) (i', d', s') (List.mem_cons_self ..) (List.mem_cons_of_mem _ g1) ?_ hc.1 hc.2 g2 g3 A hA B g4
      rintro rfl
      exact hn.1 (List.mem_map.2 ⟨_, g1, rfl⟩)

theorem oks_of {D : List Nat} {e : Env} : ∀ {prev : Prev}, (∀ x, x ∈ prev → D.contains x.1 = true → x.2.2.ok e (e x.1)) → oks D e prev
  | [], _ => trivial
  | (i, d, s) :: prev, h => by
    have ih := oks_of (D := D) (e := e) (prev := prev) fun x hx => h x (List.mem_cons_of_mem _ hx)
    unfold oks
    cases hc : D.contains i with
    | true => exact ⟨h (i, d, s) (List.mem_cons_self ..) hc, ih⟩
    | false => exact ih

theorem mem_eaten1 {eats : List (Nat × Nat)} {j : Nat} {e : Env} : ∀ {prev : Prev} {A : Asn}, A ∈ eaten1 eats j e prev → ∃ i d s, (i, d, s) ∈ prev ∧ eater eats i = some j ∧ A ∈ s.ent e (e i)
  | [], A, h => by simp [eaten1] at h
  | (i, d, s) :: prev, A, h => by
    unfold eaten1 at h
    split at h
    · obtain ⟨i', d', s', h1, h2⟩ := mem_eaten1 h
      exact ⟨i', d', s', List.mem_cons_of_mem _ h1, h2⟩
    · rename_i k hk
      split at h
      · rename_i hb
        rcases List.mem_append.1 h with h | h
        · exact ⟨i, d, s, List.mem_cons_self .., by rw [hk, beq_true hb], h⟩
        · obtain ⟨i', d', s', h1, h2⟩ := mem_eaten1 h
          exact ⟨i', d', s', List.mem_cons_of_mem _ h1, h2⟩
      · obtain ⟨i', d', s', h1, h2⟩ := mem_eaten1 h
        exact ⟨i', d', s', List.mem_cons_of_mem _ h1, h2⟩

theorem eater_mem {eats : List (Nat × Nat)} {i j : Nat} (h : eater eats i = some j) : (i, j) ∈ eats := by
  induction eats with
  | nil => cases h
  | cons x es ih =>
    obtain ⟨a, b⟩ := x
    unfold eater at h
    split at h
    · rename_i hb; cases h; rw [hb]; exact List.mem_cons_self ..
    · exact List.mem_cons_of_mem _ (ih h)

theorem mk_nodup {l : List Oper} {sp : Nat → RS} {Γx : List Asn} : ∀ {j : Nat}, j ≤ l.length → ((mk l sp (prev0 l.length Γx) j).map (·.1)).Nodup
  | 0, _ => by
    have : ∀ (Γx : List Asn) (k : Nat), ((prev0 k Γx).map (·.1)).Nodup ∧ ∀ i, i ∈ (prev0 k Γx).map (·.1) → k ≤ i := by
      intro Γx
      induction Γx with
      | nil => intro k; simp [prev0]
      | cons A Γx ih =>
        intro k
        obtain ⟨h1, h2⟩ := ih (k + 1)
        rw [prev0, List.map_cons, List.nodup_cons]
        refine ⟨⟨fun h => by have := h2 k h; omega, h1⟩, fun i hi => ?_⟩
        rcases List.mem_cons.1 hi with rfl | hi
        · exact Nat.le_refl _
        · have := h2 i hi; omega
    exact (this Γx l.length).1
  | j + 1, hj => by
    rw [mk, List.map_cons, List.nodup_cons]
    refine ⟨fun h => ?_, mk_nodup (by omega)⟩
    obtain ⟨x, hx, hxe⟩ := List.mem_map.1 h
    rcases mem_mk.1 hx with ⟨i, hi, rfl⟩ | hx
    · simp only at hxe; omega
    · obtain ⟨i, d, s⟩ := x
      have := (mem_prev0.1 hx).1
      simp only at hxe; omega


section
variable {P : Program} {n : Nat} {W : World} {S : Nat → Prop} {Γ : List Asn} {F : List (Nat × Value)} {Q : Exit → Act → World → Prop}

/-- Where a run of the region stands. -/
structure InvR (n : Nat) (Γx Γ : List Asn) (l : List Oper) (Ds : List (List Nat × List Nat)) (eats : List (Nat × Nat)) (sp : Nat → RS) (a0 : Act) (w0 : World) (listed : Array Bool) (e : Env) (a : Act) (w : World) : Prop where
  defers : a.defers = []
  size : a.tmps.size = n
  out : ∀ t, (∀ i o, l[i]? = some o → o.dst = some t → listed.getD i false = false) → a.tmps.getD t undef = a0.tmps.getD t undef
  slot : ∀ i o d, l[i]? = some o → o.dst = some d → listed.getD i false = true → a.tmps.getD d undef = (e i).1
  fact : ∀ i, i < l.length → listed.getD i false = true → (sp i).Fact e (e i)
  pse : ∀ k A, Γx[k]? = some A → e (l.length + k) = (undef, [A])
  mod : Mod (ownFp Γx) w0 w
  live : ∀ i, (i < l.length → listed.getD i false = true) → i < l.length + Γx.length → (∀ j, eater eats i = some j → listed.getD j false = false) →
    Holds (e i).2 w ∧ (e i).2.Pairwise Apart ∧ (∀ A, A ∈ (e i).2 → (∀ g, A.fp g → w0.heap.size ≤ g ∨ ownFp Γx g) ∧ ∀ B, B ∈ Γ → Apart A B) ∧
    ∀ k, k ≠ i → (k < l.length → listed.getD k false = true) → k < l.length + Γx.length → (∀ j, eater eats k = some j → listed.getD j false = false) → ∀ A, A ∈ (e i).2 → ∀ B, B ∈ (e k).2 → Apart A B
  holdG : Holds Γ w
  clos : ∀ k i, k < l.length → listed.getD k false = true → (Ds.getD k ([], [])).1.contains i = true → i < l.length → listed.getD i false = true

theorem WPc.drawn {id : Nat} {l : List Oper} (Ds : List (List Nat × List Nat)) (eats : List (Nat × Nat)) {Γx Γr : List Asn} (hx : Takes Γ Γx Γr) (hox : ∀ A, A ∈ Γx → A.own = true) (hm : P.follows .mixedOrders = true) (hok : regOk n Γx.length l Ds eats = true)
    (h : RGl P n Γr F l.toArray eats (fun prev => ∀ e, oksA e prev → WPq n W S (ensA eats e prev ++ Γr) (bndA e prev ++ F) Q .normal) 0 l Ds (prev0 l.length Γx)) :
    WPc P n W S Γ F (.region id l.toArray true) Q := by
  intro a0 w00 hf hgood
  have hgx := hgood.perm hx
  obtain ⟨ga1, ga2, ga3⟩ := List.pairwise_append.1 hgx.apart
  simp only [regOk, Bool.and_eq_true, decide_eq_true_eq] at hok
  obtain ⟨⟨⟨⟨⟨⟨hrel, hDl⟩, hedgeD⟩, hclo⟩, hbad⟩, heat⟩, hreach⟩ := hok
  simp only [relOk, Bool.and_eq_true, decide_eq_true_eq] at hrel
  obtain ⟨⟨hedge, hnd⟩, hlt⟩ := hrel
  have hedge' : ∀ (i : Nat) (o : Oper), l[i]? = some o → ∀ g ∈ o.after, Region.binds .any g = true → g.on < i := by
    intro i o hi g hg hb
    rw [List.all_eq_true] at hedge
    have := hedge (o, i) (by rw [List.mem_zipIdx_iff_getElem?]; simpa using hi)
    rw [List.all_eq_true] at this
    have := this g (by simpa using hg)
    simpa [hb] using this
  have hlt' : ∀ (i : Nat) (o : Oper) (d : Tmp), l[i]? = some o → o.dst = some d → d < n := by
    intro i o d hi hd
    rw [List.all_eq_true] at hlt
    simpa using hlt d (dst_mem (ops := l.toArray) (by simpa using hi) hd)
  have hinj : ∀ {i j : Nat} {x y : Oper} {d : Tmp}, l[i]? = some x → l[j]? = some y → x.dst = some d → y.dst = some d → i = j := by
    intro i j x y d hi hj hx hy
    exact nodup_filterMap_inj (l := l) hnd hi hj hx hy
  obtain ⟨sp, -, hK, hob⟩ := RGl.get (l := l) (p0 := prev0 l.length Γx) l 0 Ds (fun _ => psp ⟨false, fun _ => False, fun _ => True, fun _ _ _ h => h.elim, fun _ _ h _ => h⟩) (by simp) h
  rw [Nat.zero_add] at hK
  have hob' : ∀ j o, l[j]? = some o → Ob P n Γr F l.toArray eats (Ds.getD j ([], [])).1 (Ds.getD j ([], [])).2 j o (mk l sp (prev0 l.length Γx) j) (sp j) := by
    intro j o ho
    obtain ⟨D, hD, hO⟩ := hob j o ho
    rw [Nat.zero_add] at hO
    rw [List.getD_eq_getElem?_getD, hD]
    exact hO
  have hlen : ∀ {j : Nat} {o : Oper}, l[j]? = some o → j < l.length := fun h => (List.getElem?_eq_some_iff.1 h).1
  -- what stands ahead
  have hD1 : ∀ j i, j < l.length → (Ds.getD j ([], [])).1.contains i = true → (i < j ∧ ∀ k, (Ds.getD i ([], [])).1.contains k = true → (Ds.getD j ([], [])).1.contains k = true) ∨ (l.length ≤ i ∧ i < l.length + Γx.length) := by
    intro j i hj hi
    rw [List.all_eq_true] at hclo
    have h1 : Ds[j]? = some Ds[j] := List.getElem?_eq_getElem (by omega)
    have hg : Ds.getD j ([], []) = Ds[j] := by rw [List.getD_eq_getElem?_getD, h1]; rfl
    have := hclo (Ds[j], j) (by rw [List.mem_zipIdx_iff_getElem?]; exact h1)
    rw [List.all_eq_true] at this
    rw [hg] at hi ⊢
    have := this i (by simpa using hi)
    simp only [Bool.or_eq_true, Bool.and_eq_true, decide_eq_true_eq] at this
    rcases this with ⟨h1, h2⟩ | h3
    · refine .inl ⟨h1, fun k hk => ?_⟩
      rw [List.all_eq_true] at h2
      exact h2 k (by simpa using hk)
    · exact .inr h3
  have hE : ∀ j o, l[j]? = some o → ∀ g ∈ o.after, Region.binds .any g = true → (Ds.getD j ([], [])).1.contains g.on = true := by
    intro j o hj g hg hb
    rw [List.all_eq_true] at hedgeD
    have := hedgeD (o, j) (by rw [List.mem_zipIdx_iff_getElem?]; exact hj)
    rw [List.all_eq_true] at this
    have := this g (by simpa using hg)
    simpa [hb] using this
  have hB : ∀ j k o t, j < l.length → l[k]? = some o → o.dst = some t → j ≠ k → (Ds.getD k ([], [])).1.contains j = false → (Ds.getD j ([], [])).2.contains t = true := by
    intro j k o t hj hk hd hne hn
    rw [List.all_eq_true] at hbad
    have := hbad (o, k) (by rw [List.mem_zipIdx_iff_getElem?]; exact hk)
    rw [hd] at this
    simp only at this
    rw [List.all_eq_true] at this
    have h1 : Ds[j]? = some Ds[j] := List.getElem?_eq_getElem (by omega)
    have := this (Ds[j], j) (by rw [List.mem_zipIdx_iff_getElem?]; exact h1)
    rw [List.getD_eq_getElem?_getD, h1]
    simp only [hn, Bool.or_eq_true, beq_iff_eq] at this
    rcases this with (h | h) | h
    · exact absurd h hne
    · cases h
    · exact h
  have hEatM : ∀ i j, (i, j) ∈ eats → j < l.length ∧ (Ds.getD j ([], [])).1.contains i = true ∧ ∀ k, eater eats i = some k → k = j ∨ (Ds.getD k ([], [])).1.contains j = true := by
    intro i j h
    rw [List.all_eq_true] at heat
    have := heat _ h
    simp only [Bool.and_eq_true, decide_eq_true_eq] at this
    refine ⟨this.1.1, this.1.2, fun k hk => ?_⟩
    have h3 := this.2
    rw [hk] at h3
    simpa only [Bool.or_eq_true, beq_iff_eq] using h3
  have hEat : ∀ i j, eater eats i = some j → j < l.length ∧ (Ds.getD j ([], [])).1.contains i = true := fun i j h => ⟨(hEatM i j (eater_mem h)).1, (hEatM i j (eater_mem h)).2.1⟩
  have hvl : ∀ i, vis eats i l.length = true → eater eats i = none := by
    intro i h
    unfold vis at h
    cases he : eater eats i with
    | none => rfl
    | some k =>
      exfalso
      rw [he] at h
      simp only [Bool.or_eq_true] at h
      rcases h with h | h
      · have := beq_true h; have := (hEat i k he).1; omega
      · have := (hEatM _ _ (sees_mem h)).1; omega
  have hR : ∀ j o i, l[j]? = some o → (Ds.getD j ([], [])).1.contains i = true → i < l.length → ∃ g ∈ o.after, Region.binds .any g = true ∧ (g.on = i ∨ (Ds.getD g.on ([], [])).1.contains i = true) := by
    intro j o i hj hi hil
    rw [List.all_eq_true] at hreach
    have := hreach (o, j) (by rw [List.mem_zipIdx_iff_getElem?]; exact hj)
    rw [List.all_eq_true] at this
    have := this i (by simpa using hi)
    rw [Bool.or_eq_true, decide_eq_true_eq] at this
    rcases this with h | h
    · omega
    · rw [List.any_eq_true] at h
      obtain ⟨g, hg, hb⟩ := h
      simp only [Bool.and_eq_true, Bool.or_eq_true, beq_iff_eq] at hb
      exact ⟨g, by simpa using hg, hb.1, hb.2⟩
  have hfact0 : ∀ {j i : Nat} {d : Option Tmp} {s : RS}, (i, d, s) ∈ mk l sp (prev0 l.length Γx) j → (i < j ∧ d = (l[i]?).bind (·.dst) ∧ s = sp i) ∨ (l.length ≤ i ∧ d = none ∧ ∃ A, Γx[i - l.length]? = some A ∧ s = psp A) := by
    intro j i d s hm
    rcases mem_mk.1 hm with ⟨i', hi', he⟩ | hm
    · cases he; exact .inl ⟨hi', rfl, rfl⟩
    · exact .inr (mem_prev0.1 hm)
  refine wp_region_any hm ?_
  have hdrew : ({ w00 with drawn := w00.drawn + 1 } : World) = w00.drew := rfl
  rw [hdrew]
  have hg0 : Good W S (Γx ++ Γr) w00.drew := ⟨⟨hgx.mod.os, hgx.mod.tape, hgx.mod.output, hgx.mod.size, hgx.mod.drawn, hgx.mod.block⟩, fun A hA => A.loc w00 w00.drew (hgx.all A hA) fun _ _ => rfl, hgx.apart, hgx.mine⟩
  generalize w00.drew = w0 at hg0 ⊢
  -- the end
  have hQ : ∀ listed e a w, (∀ i, i < l.length → listed.getD i false = true) → InvR n Γx Γr l Ds eats sp a0 w0 listed e a w → Q .normal a w := by
    intro listed e a w hall inv
    have hrange : ∀ i, i < l.length + Γx.length → (List.range (l.length + Γx.length)).contains i = true := fun i hi => by simpa using hi
    have hin : ∀ x, x ∈ mk l sp (prev0 l.length Γx) l.length → x.1 < l.length + Γx.length := by
      rintro ⟨i, d, s⟩ hx
      rcases hfact0 hx with ⟨g1, _⟩ | ⟨g1, _, B, g2, _⟩
      · show i < _; omega
      · have := (List.getElem?_eq_some_iff.1 g2).1
        show i < _; omega
    have eb : ∀ p : Prev, (∀ x, x ∈ p → x.1 < l.length + Γx.length) → bndA e p = bnd (List.range (l.length + Γx.length)) e p := by
      intro p
      induction p with
      | nil => intro _; rfl
      | cons x p ih =>
        intro hp
        obtain ⟨i, d, s⟩ := x
        have hc := hrange i (hp _ (List.mem_cons_self ..))
        have := ih fun y hy => hp y (List.mem_cons_of_mem _ hy)
        cases d <;> simp only [bndA, bnd, hc, this]
    have ee : ∀ p : Prev, (∀ x, x ∈ p → x.1 < l.length + Γx.length) → ensA eats e p = ens eats (List.range (l.length + Γx.length)) l.length e p := by
      intro p
      induction p with
      | nil => intro _; rfl
      | cons x p ih =>
        intro hp
        obtain ⟨i, d, s⟩ := x
        have hc := hrange i (hp _ (List.mem_cons_self ..))
        have := ih fun y hy => hp y (List.mem_cons_of_mem _ hy)
        have hv : vis eats i l.length = (eater eats i).isNone := by
          cases he : eater eats i with
          | none => unfold vis; rw [he]; rfl
          | some k =>
            show vis eats i l.length = false
            rw [← Bool.not_eq_true]; intro hb; rw [hvl i hb] at he; cases he
        cases he : eater eats i <;> simp only [ensA, ens, hc, hv, he, this, Option.isNone_none, Option.isNone_some, Bool.and_true, Bool.and_false]
    have eo : ∀ p : Prev, (∀ x, x ∈ p → x.2.2.ok e (e x.1)) → oksA e p := by
      intro p
      induction p with
      | nil => intro _; trivial
      | cons x p ih => exact fun hp => ⟨hp _ (List.mem_cons_self ..), ih fun y hy => hp y (List.mem_cons_of_mem _ hy)⟩
    have hK' := hK e (eo _ fun x hx => ?_)
    rw [eb _ hin, ee _ hin] at hK'
    refine hK' a w ⟨inv.size, inv.defers, fun t v hv => ?_⟩ (Good.step hg0 ⟨inv.mod, fun A hA => ?_, ens_apart (mk_nodup (Nat.le_refl _)) ?_ ?_, fun A hA g hg => ?_⟩)
    · rw [lkT_append] at hv
      cases hb : lkT (bnd (List.range (l.length + Γx.length)) e (mk l sp (prev0 l.length Γx) l.length)) t with
      | some v' =>
        rw [hb] at hv
        simp only [Option.some.injEq] at hv
        subst hv
        obtain ⟨i, s, h1, h2, h3⟩ := lkT_bnd hb
        rcases hfact0 h1 with ⟨g1, g2, rfl⟩ | ⟨_, g2, _⟩
        · have ho : l[i]? = some l[i] := List.getElem?_eq_getElem g1
          rw [ho] at g2
          rw [inv.slot i l[i] t ho (by simpa using g2.symm) (hall i g1), h3]
          exact (inv.fact i g1 (hall i g1)).1
        · cases g2
      | none =>
        rw [hb] at hv
        simp only at hv
        rw [inv.out t fun i o ho hd => ?_]
        · exact hf.get t v hv
        · exfalso
          have hi := hlen ho
          have := lkT_bnd_none hb (i := i) (s := sp i) (mem_mk.2 (.inl ⟨i, hi, by rw [ho]; simp [hd]⟩))
          rw [hrange i (by omega)] at this
          cases this
    · obtain ⟨i, d, s, h1, h2, h3, h4⟩ := mem_ens.1 hA
      have hne : ∀ j, eater eats i = some j → listed.getD j false = false := fun j hj => by
        rw [hvl i h3] at hj; cases hj
      rcases hfact0 h1 with ⟨g1, rfl, rfl⟩ | ⟨g1, rfl, B, g2, rfl⟩
      · rw [← (inv.fact i g1 (hall i g1)).2.1] at h4
        exact (inv.live i (fun _ => hall i g1) (by omega) hne).1 A h4
      · have hp := inv.pse _ _ g2
        have hil : i - l.length < Γx.length := (List.getElem?_eq_some_iff.1 g2).1
        rw [show l.length + (i - l.length) = i by omega] at hp
        have hl := (inv.live i (fun h => by omega) (by omega) hne).1
        rw [hp] at hl
        exact hl A h4
    · intro x hx h1 h2
      obtain ⟨i, d, s⟩ := x
      have hne : ∀ j, eater eats i = some j → listed.getD j false = false := fun j hj => by
        rw [hvl i h2] at hj; cases hj
      rcases hfact0 hx with ⟨g1, rfl, rfl⟩ | ⟨g1, rfl, B, g2, rfl⟩
      · rw [← (inv.fact i g1 (hall i g1)).2.1]
        exact (inv.live i (fun _ => hall i g1) (by omega) hne).2.1
      · exact List.pairwise_singleton _ _
    · intro x y hx hy hxy h1 h2 h3 h4
      have key : ∀ z : Nat × Option Tmp × RS, z ∈ mk l sp (prev0 l.length Γx) l.length → vis eats z.1 l.length = true → z.2.2.ent e (e z.1) = (e z.1).2 ∧ (z.1 < l.length → listed.getD z.1 false = true) ∧ z.1 < l.length + Γx.length ∧ ∀ j, eater eats z.1 = some j → listed.getD j false = false := by
        intro z hz hv
        obtain ⟨i, d, s⟩ := z
        refine ⟨?_, fun h => hall i h, ?_, fun j hj => ?_⟩
        · rcases hfact0 hz with ⟨g1, rfl, rfl⟩ | ⟨g1, rfl, B, g2, rfl⟩
          · exact (inv.fact i g1 (hall i g1)).2.1.symm
          · have hp := inv.pse _ _ g2
            rw [show l.length + (i - l.length) = i by omega] at hp
            show [B] = (e i).2
            rw [hp]
        · rcases hfact0 hz with ⟨g1, _⟩ | ⟨g1, _, B, g2, _⟩
          · show i < _; omega
          · have := (List.getElem?_eq_some_iff.1 g2).1
            show i < _; omega
        · rw [hvl i hv] at hj; cases hj
      obtain ⟨x1, x2, x3, x4⟩ := key x hx h2
      obtain ⟨y1, y2, y3, y4⟩ := key y hy h4
      rw [x1, y1]
      exact (inv.live x.1 x2 x3 x4).2.2.2 y.1 (fun h => hxy h.symm) y2 y3 y4
    · obtain ⟨i, d, s, h1, h2, h3, h4⟩ := mem_ens.1 hA
      have hne : ∀ j, eater eats i = some j → listed.getD j false = false := fun j hj => by
        rw [hvl i h3] at hj; cases hj
      rcases hfact0 h1 with ⟨g1, rfl, rfl⟩ | ⟨g1, rfl, B, g2, rfl⟩
      · rw [← (inv.fact i g1 (hall i g1)).2.1] at h4
        exact ((inv.live i (fun _ => hall i g1) (by omega) hne).2.2.1 A h4).1 g hg
      · have hp := inv.pse _ _ g2
        have hil : i - l.length < Γx.length := (List.getElem?_eq_some_iff.1 g2).1
        rw [show l.length + (i - l.length) = i by omega] at hp
        have hl := (inv.live i (fun h => by omega) (by omega) hne).2.2.1
        rw [hp] at hl
        exact (hl A h4).1 g hg
    · obtain ⟨i, d, s⟩ := x
      rcases hfact0 hx with ⟨h1, rfl, rfl⟩ | ⟨h1, rfl, A, h2, rfl⟩
      · exact (inv.fact i h1 (hall i h1)).2.2
      · trivial
  -- where nothing is ready all is listed
  have hready : ∀ listed : Array Bool, listed.size = l.toArray.size → Region.ready .any l.toArray listed = [] → ∀ i, i < l.length → listed.getD i false = true := by
    intro listed hsz hr i
    induction i using Nat.strongRecOn with
    | ind i ih =>
      intro hi
      cases hg : listed.getD i false with
      | true => rfl
      | false =>
        exfalso
        have ho : l.toArray[i]? = some l[i] := by simp [hi]
        have : i ∈ Region.ready .any l.toArray listed := by
          rw [mem_ready]
          refine ⟨?_, l[i], ho, fun g hgm hb => ih g.on (hedge' i _ (List.getElem?_eq_getElem hi) g hgm hb) (by have := hedge' i _ (List.getElem?_eq_getElem hi) g hgm hb; omega)⟩
          have : i < listed.size := by simp at hsz; omega
          simpa [this] using hg
        rw [hr] at this
        cases this
  have main : ∀ fuel (listed : Array Bool) (e : Env) (a : Act) (w : World), listed.size = l.toArray.size → listed.toList.countP (!·) = fuel → InvR n Γx Γr l Ds eats sp a0 w0 listed e a w → wpAny P .any l.toArray Q fuel listed a w := by
    intro fuel
    induction fuel with
    | zero =>
      intro listed e a w hsz hc inv
      have hall : ∀ i, i < l.length → listed.getD i false = true := by
        intro i hi
        rw [List.countP_eq_zero] at hc
        have hil : i < listed.size := by simp at hsz; omega
        have := hc listed[i] (by simp)
        simpa [hil] using this
      refine ⟨?_, hQ listed e a w hall inv⟩
      cases hr : Region.ready .any l.toArray listed with
      | nil => rfl
      | cons j js =>
        exfalso
        have hj : j ∈ Region.ready .any l.toArray listed := by rw [hr]; exact List.mem_cons_self ..
        rw [mem_ready] at hj
        obtain ⟨g0, o2, go2, _⟩ := hj
        have hlt2 : j < l.length := by have := (Array.getElem?_eq_some_iff.1 go2).1; simpa using this
        exact getD_conf (hall j hlt2) g0
    | succ fuel ih =>
      intro listed e a w hsz hc inv
      refine ⟨fun hr => hQ listed e a w (hready listed hsz hr) inv, fun j hj => ?_⟩
      rw [mem_ready] at hj
      obtain ⟨h0, o, ho', hallE⟩ := hj
      have ho : l[j]? = some o := by simpa using ho'
      have hjl : j < l.length := hlen ho
      have hil : j < listed.size := by simp at hsz; omega
      have hun : listed.getD j false = false := by
        have h0' : listed[j]? = some false := by
          rw [Array.getElem?_eq_getElem hil]
          simpa [hil] using h0
        rw [Array.getD_eq_getD_getElem?, h0']; rfl
      have hfalse : listed.toList[j]? = some false := by
        have h0' : listed[j]? = some false := by
          rw [Array.getElem?_eq_getElem hil]
          simpa [hil] using h0
        simpa using h0'
      have hcnt : (listed.setIfInBounds j true).toList.countP (!·) = fuel := by
        have := countP_set_lt hfalse
        rw [Array.toList_setIfInBounds]
        omega
      -- what stands with j is listed
      have hDj : ∀ i, (Ds.getD j ([], [])).1.contains i = true → i < l.length → listed.getD i false = true := by
        intro i hi hil'
        obtain ⟨g, hg, hb, hor⟩ := hR j o i ho hi hil'
        have hl := hallE g hg hb
        rcases hor with rfl | hor
        · exact hl
        · exact inv.clos g.on i (by have := hedge' j o ho g hg hb; omega) hl hor hil'
      have hjD : (Ds.getD j ([], [])).1.contains j = false := by
        cases hc : (Ds.getD j ([], [])).1.contains j with
        | false => rfl
        | true => rcases hD1 j j hjl hc with ⟨h1, _⟩ | ⟨h1, _⟩ <;> omega
      have hObj := hob' j o ho
      -- the entries that j sees live
      have hlive : ∀ {i : Nat} {d : Option Tmp} {s : RS}, (i, d, s) ∈ mk l sp (prev0 l.length Γx) j → (Ds.getD j ([], [])).1.contains i = true → vis eats i j = true →
          s.ent e (e i) = (e i).2 ∧ (i < l.length → listed.getD i false = true) ∧ i < l.length + Γx.length ∧ ∀ k, eater eats i = some k → listed.getD k false = false := by
        intro i d s hm hD hv
        have hk : ∀ k, eater eats i = some k → listed.getD k false = false := fun k hk => by
          unfold vis at hv
          rw [hk] at hv
          simp only [Bool.or_eq_true] at hv
          rcases hv with hv | hv
          · have := beq_true hv; subst this; exact hun
          · rcases (hEatM _ _ (sees_mem hv)).2.2 k hk with h | h
            · subst h; exact hun
            · cases hlk : listed.getD k false with
              | false => rfl
              | true =>
                have := inv.clos k j (hEat i k hk).1 hlk h hjl
                rw [hun] at this; cases this
        rcases hfact0 hm with ⟨g1, rfl, rfl⟩ | ⟨g1, rfl, B, g2, rfl⟩
        · have hli := hDj i hD (by omega)
          exact ⟨(inv.fact i (by omega) hli).2.1.symm, fun _ => hli, by omega, hk⟩
        · have hp := inv.pse _ _ g2
          have := (List.getElem?_eq_some_iff.1 g2).1
          rw [show l.length + (i - l.length) = i by omega] at hp
          refine ⟨?_, fun h => by omega, by omega, hk⟩
          show [B] = (e i).2
          rw [hp]
      have hFr : Fr n (bnd (Ds.getD j ([], [])).1 e (mk l sp (prev0 l.length Γx) j) ++ fcut (Ds.getD j ([], [])).2 F) a := by
        refine ⟨inv.size, inv.defers, fun t v hv => ?_⟩
        rw [lkT_append] at hv
        cases hb : lkT (bnd (Ds.getD j ([], [])).1 e (mk l sp (prev0 l.length Γx) j)) t with
        | some v' =>
          rw [hb] at hv
          simp only [Option.some.injEq] at hv
          subst hv
          obtain ⟨i, s, h1, h2, h3⟩ := lkT_bnd hb
          rcases hfact0 h1 with ⟨g1, g2, rfl⟩ | ⟨_, g2, _⟩
          · have hoi : l[i]? = some l[i] := List.getElem?_eq_getElem (by omega)
            rw [hoi] at g2
            have hli := hDj i h2 (by omega)
            rw [inv.slot i l[i] t hoi (by simpa using g2.symm) hli, h3]
            exact (inv.fact i (by omega) hli).1
          · cases g2
        | none =>
          rw [hb] at hv
          simp only at hv
          obtain ⟨hc1, hc2⟩ := lkT_fcut hv
          rw [inv.out t fun k o2 hk hd => ?_]
          · exact hf.get t v hc2
          · cases hlk : listed.getD k false with
            | false => rfl
            | true =>
              exfalso
              have hkj : j ≠ k := by rintro rfl; rw [hun] at hlk; cases hlk
              cases hDk : (Ds.getD k ([], [])).1.contains j with
              | true =>
                have := inv.clos k j (hlen hk) hlk hDk hjl
                rw [hun] at this; cases this
              | false =>
                have := hB j k o2 t hjl hk hd hkj hDk
                rw [hc1] at this; cases this
      have hoks : oks (Ds.getD j ([], [])).1 e (mk l sp (prev0 l.length Γx) j) := oks_of fun x hx hD => by
        obtain ⟨i, d, s⟩ := x
        rcases hfact0 hx with ⟨g1, rfl, rfl⟩ | ⟨g1, rfl, B, g2, rfl⟩
        · exact (inv.fact i (by omega) (hDj i hD (by omega))).2.2
        · trivial
      have hHolds : Holds (ens eats (Ds.getD j ([], [])).1 j e (mk l sp (prev0 l.length Γx) j) ++ Γr) w := by
        intro A hA
        rcases List.mem_append.1 hA with hA | hA
        · obtain ⟨i, d, s, h1, h2, h3, h4⟩ := mem_ens.1 hA
          obtain ⟨l1, l2, l3, l4⟩ := hlive h1 h2 h3
          rw [l1] at h4
          exact (inv.live i l2 l3 l4).1 A h4
        · exact inv.holdG A hA
      have hApart : (ens eats (Ds.getD j ([], [])).1 j e (mk l sp (prev0 l.length Γx) j) ++ Γr).Pairwise Apart := by
        refine List.pairwise_append.2 ⟨ens_apart (mk_nodup (by omega)) (fun x hx h1 h2 => ?_) (fun x y hx hy hne h1 h2 h3 h4 => ?_), ga2, fun A hA B hB => ?_⟩
        · obtain ⟨l1, l2, l3, l4⟩ := hlive hx h1 h2
          rw [l1]
          exact (inv.live x.1 l2 l3 l4).2.1
        · obtain ⟨l1, l2, l3, l4⟩ := hlive hx h1 h2
          obtain ⟨m1, m2, m3, m4⟩ := hlive hy h3 h4
          rw [l1, m1]
          exact (inv.live x.1 l2 l3 l4).2.2.2 y.1 (fun h => hne h.symm) m2 m3 m4
        · obtain ⟨i, d, s, h1, h2, h3, h4⟩ := mem_ens.1 hA
          obtain ⟨l1, l2, l3, l4⟩ := hlive h1 h2 h3
          rw [l1] at h4
          exact ((inv.live i l2 l3 l4).2.2.1 A h4).2 B hB
      -- a step
      have next : ∀ (v : Value) (Γ' : List Asn) (w' : World), (sp j).Fact e (v, Γ') → Post (ownFp (eaten1 eats j e (mk l sp (prev0 l.length Γx) j))) w Γ' w' →
          InvR n Γx Γr l Ds eats sp a0 w0 (listed.setIfInBounds j true) (fun k => if k = j then (v, Γ') else e k) (a.put o.dst v) w' := by
        intro v Γ' w' hfa hpost
        -- what is eaten
        have heaten : ∀ g, ownFp (eaten1 eats j e (mk l sp (prev0 l.length Γx) j)) g → ∃ i A, eater eats i = some j ∧ i ≠ j ∧ (i < l.length → listed.getD i false = true) ∧ i < l.length + Γx.length ∧ (∀ k, eater eats i = some k → listed.getD k false = false) ∧ A ∈ (e i).2 ∧ A.own = true ∧ A.fp g := by
          rintro g ⟨A, hA, hown, hg⟩
          obtain ⟨i, d, s, h1, h2, h3⟩ := mem_eaten1 hA
          have hD := (hEat i j h2).2
          obtain ⟨l1, l2, l3, l4⟩ := hlive h1 hD (by unfold vis; rw [h2]; simp)
          rw [l1] at h3
          refine ⟨i, A, h2, ?_, l2, l3, l4, h3, hown, hg⟩
          rintro rfl
          rw [hjD] at hD; cases hD
        have hlist : ∀ k, k ≠ j → (listed.setIfInBounds j true).getD k false = listed.getD k false := fun k hk => getD_set_ne false (Ne.symm hk)
        have hlistj : (listed.setIfInBounds j true).getD j false = true := by simp [hil]
        -- what lives behind, and is not new, lived and stays
        have hold : ∀ i, i ≠ j → (i < l.length → (listed.setIfInBounds j true).getD i false = true) → i < l.length + Γx.length → (∀ k, eater eats i = some k → (listed.setIfInBounds j true).getD k false = false) →
            (i < l.length → listed.getD i false = true) ∧ (∀ k, eater eats i = some k → listed.getD k false = false) ∧ (∀ A, A ∈ (e i).2 → A.holds w' ∧ ∀ g, A.fp g → ¬ ownFp (eaten1 eats j e (mk l sp (prev0 l.length Γx) j)) g ∧ g < w.heap.size) := by
          intro i hij h1 h2 h3
          have h1' : i < l.length → listed.getD i false = true := fun h => by rw [← hlist i hij]; exact h1 h
          have hnj : eater eats i ≠ some j := fun h => by have := h3 j h; rw [hlistj] at this; cases this
          have h3' : ∀ k, eater eats i = some k → listed.getD k false = false := fun k hk => by
            rw [← hlist k (by rintro rfl; exact hnj hk)]; exact h3 k hk
          refine ⟨h1', h3', fun A hA => ?_⟩
          have hl := inv.live i h1' h2 h3'
          have hAw := hl.1 A hA
          have hfree : ∀ g, A.fp g → ¬ ownFp (eaten1 eats j e (mk l sp (prev0 l.length Γx) j)) g := by
            intro g hg hx
            obtain ⟨i', B, e1, e2, e3, e4, e5, e6, e7, e8⟩ := heaten g hx
            have hne : i' ≠ i := by rintro rfl; exact hnj e1
            exact (hl.2.2.2 i' hne e3 e4 e5 A hA B e6) (.inr e7) g hg e8
          exact ⟨A.loc w w' hAw fun g hg => hpost.mod.block g (A.lt w hAw g hg) (hfree g hg), fun g hg => ⟨hfree g hg, A.lt w hAw g hg⟩⟩
        have hnewG : ∀ g, ownFp (eaten1 eats j e (mk l sp (prev0 l.length Γx) j)) g → w0.heap.size ≤ g ∨ ownFp Γx g := by
          intro g hx
          obtain ⟨i', B, e1, e2, e3, e4, e5, e6, e7, e8⟩ := heaten g hx
          exact ((inv.live i' e3 e4 e5).2.2.1 B e6).1 g e8
        refine ⟨by rw [put_defers]; exact inv.defers, by rw [put_size]; exact inv.size, ?_, ?_, ?_, ?_, ?_, ?_, ?_, ?_⟩
        · -- out
          intro t ht
          have hoj := ht j o ho
          rw [put_getD_ne _ _ _ _ (fun hd => by have := hoj hd; rw [hlistj] at this; cases this)]
          refine inv.out t fun i o2 hi hd => ?_
          by_cases hij : i = j
          · subst hij; exact hun
          · rw [← hlist i hij]; exact ht i o2 hi hd
        · -- slot
          intro i o2 d hi hd hli
          by_cases hij : i = j
          · subst hij
            have : o2 = o := by rw [ho] at hi; exact (Option.some.inj hi).symm
            subst this
            rw [hd, put_getD_eq _ _ _ (by rw [inv.size]; exact hlt' i o2 d hi hd)]
            simp
          · rw [hlist i hij] at hli
            rw [put_getD_ne _ _ _ _ (fun hd' => hij (hinj hi ho hd hd'))]
            simp only [hij, if_false]
            exact inv.slot i o2 d hi hd hli
        · -- fact
          intro i hi hli
          have hmaskeq : ∀ k, k < l.length → (Ds.getD k ([], [])).1.contains j = false → mask (Ds.getD k ([], [])).1 (fun k => if k = j then (v, Γ') else e k) = mask (Ds.getD k ([], [])).1 e := by
            intro k _ hc
            funext q
            unfold mask
            cases hq : (Ds.getD k ([], [])).1.contains q with
            | false => rfl
            | true =>
              have : q ≠ j := by rintro rfl; rw [hc] at hq; cases hq
              simp [this]
          by_cases hij : i = j
          · subst hij
            simp only [if_true]
            have hins := hObj.ins
            have em := hmaskeq i hi hjD
            obtain ⟨f1, f2, f3⟩ := hfa
            have i1 := hins e (v, Γ')
            have i2 := hins (fun k => if k = i then (v, Γ') else e k) (v, Γ')
            rw [em] at i2
            exact ⟨by rw [← i2.1, i1.1]; exact f1, by rw [← i2.2.1, i1.2.1]; exact f2, by rw [← i2.2.2, i1.2.2]; exact f3⟩
          · rw [hlist i hij] at hli
            simp only [hij, if_false]
            have hins := (hob' i l[i] (List.getElem?_eq_getElem hi)).ins
            have hci : (Ds.getD i ([], [])).1.contains j = false := by
              cases hc : (Ds.getD i ([], [])).1.contains j with
              | false => rfl
              | true => have := inv.clos i j hi hli hc hjl; rw [hun] at this; cases this
            have em := hmaskeq i hi hci
            obtain ⟨f1, f2, f3⟩ := inv.fact i hi hli
            have i1 := hins e (e i)
            have i2 := hins (fun k => if k = j then (v, Γ') else e k) (e i)
            rw [em] at i2
            exact ⟨by rw [← i2.1, i1.1]; exact f1, by rw [← i2.2.1, i1.2.1]; exact f2, by rw [← i2.2.2, i1.2.2]; exact f3⟩
        · -- pse
          intro k A hk
          rw [if_neg (by omega)]
          exact inv.pse k A hk
        · exact inv.mod.after hpost.mod fun g hg hx => (hnewG g hx).resolve_left (by omega)
        · -- live
          intro i h1 h2 h3
          by_cases hij : i = j
          · subst hij
            simp only [if_true]
            refine ⟨hpost.all, hpost.apart, fun A hA => ⟨fun g hg => ?_, fun B hB hor g hg hg' => ?_⟩, fun k hk g1 g2 g3 A hA B hB hor g hg hg' => ?_⟩
            · rcases hpost.new A hA g hg with h | h
              · exact .inl (Nat.le_trans inv.mod.size h)
              · exact hnewG g h
            · rcases hpost.new A hA g hg with h | h
              · have := B.lt w (inv.holdG B hB) g hg'; omega
              · obtain ⟨i', C, e1, e2, e3, e4, e5, e6, e7, e8⟩ := heaten g h
                exact ((inv.live i' e3 e4 e5).2.2.1 C e6).2 B hB (.inl e7) g e8 hg'
            · rw [if_neg hk] at hB
              obtain ⟨q1, q2, q3⟩ := hold k hk g1 g2 g3
              have hb := (q3 B hB).2 g hg'
              rcases hpost.new A hA g hg with h | h
              · omega
              · exact hb.1 h
          · obtain ⟨q1, q2, q3⟩ := hold i hij h1 h2 h3
            have hl := inv.live i q1 h2 q2
            simp only [hij, if_false]
            refine ⟨fun A hA => (q3 A hA).1, hl.2.1, hl.2.2.1, fun k hk g1 g2 g3 A hA B hB => ?_⟩
            by_cases hkj : k = j
            · subst hkj
              rw [if_pos rfl] at hB
              intro hor g hg hg'
              have hb := (q3 A hA).2 g hg
              rcases hpost.new B hB g hg' with h | h
              · omega
              · exact hb.1 h
            · rw [if_neg hkj] at hB
              obtain ⟨p1, p2, p3⟩ := hold k hkj g1 g2 g3
              exact hl.2.2.2 k hk p1 g2 p2 A hA B hB
        · -- holdG
          intro B hB
          refine B.loc w w' (inv.holdG B hB) fun g hg => hpost.mod.block g (B.lt w (inv.holdG B hB) g hg) fun hx => ?_
          obtain ⟨i', C, e1, e2, e3, e4, e5, e6, e7, e8⟩ := heaten g hx
          exact ((inv.live i' e3 e4 e5).2.2.1 C e6).2 B hB (.inl e7) g e8 hg
        · -- clos
          intro k i hk hlk hc hi
          by_cases hij : i = j
          · subst hij; exact hlistj
          · rw [hlist i hij]
            by_cases hkj : k = j
            · subst hkj; exact hDj i hc hi
            · rw [hlist k hkj] at hlk
              exact inv.clos k i hk hlk hc hi
      have goal : ∀ v w', (∃ Γ', (sp j).Fact e (v, Γ') ∧ Post (ownFp (eaten1 eats j e (mk l sp (prev0 l.length Γx) j))) w Γ' w') → wpAny P .any l.toArray Q fuel (listed.setIfInBounds j true) (a.put o.dst v) w' := by
        rintro v w' ⟨Γ', hfa, hpost⟩
        exact ih _ _ _ _ (by simpa using hsz) hcnt (next v Γ' w' hfa hpost)
      unfold wpOp
      simp only [ho']
      rcases hObj.does e a w hFr hHolds hApart hoks with ⟨hw, hd⟩ | ⟨hw, hfa⟩
      · rw [if_pos hw]
        refine .inl ?_
        unfold DoesW at hd
        unfold Oper.wp
        generalize (execOp a.eval o).run P w = r at hd
        cases r with
        | ok m w' =>
          cases m with
          | value v => exact goal _ _ hd
          | skip => exact goal _ _ hd
          | enter f args =>
            refine Calls.mono hd ?_
            rintro e' w'' ⟨v, rfl, hR'⟩
            exact goal _ _ hR'
          | row row args => exact Rows.mono hd fun v w'' hR' => goal _ _ hR'
          | _ => exact hd.elim
        | halt x w' => exact hd.elim
      · rw [if_neg (by rw [hw]; decide)]
        exact goal _ _ ⟨[], hfa, Post.nil (Mod.refl _ _)⟩
  have e0 : ∃ e0 : Env, ∀ k A, Γx[k]? = some A → e0 (l.length + k) = (undef, [A]) := ⟨fun i => match Γx[i - l.length]? with | some A => (undef, [A]) | none => (undef, []), fun k A hk => by simp [hk]⟩
  obtain ⟨e0, he0⟩ := e0
  have hno : ∀ i, (Array.replicate l.toArray.size false).getD i false = false := fun i => by
    rw [Array.getD_eq_getD_getElem?, Array.getElem?_replicate]; split <;> rfl
  obtain ⟨gb1, gb2, gb3⟩ := List.pairwise_append.1 hg0.apart
  refine main l.toArray.size _ e0 a0 w0 (by simp) (by simp [List.countP_replicate]) ⟨hf.defers, hf.size, fun _ _ => rfl, fun i o d _ _ h => ?_, fun i _ h => ?_, he0, Mod.refl _ _, fun i h1 h2 _ => ?_, fun B hB => hg0.all B (List.mem_append_right _ hB), fun k i _ h => ?_⟩
  · rw [hno] at h; cases h
  · rw [hno] at h; cases h
  · have hge : l.length ≤ i := by
      rcases Nat.lt_or_ge i l.length with h | h
      · have := h1 h; rw [hno] at this; cases this
      · exact h
    have hi : Γx[i - l.length]? = some Γx[i - l.length] := List.getElem?_eq_getElem (by omega)
    have hp := he0 _ _ hi
    rw [show l.length + (i - l.length) = i by omega] at hp
    rw [hp]
    have hmem : Γx[i - l.length] ∈ Γx := List.getElem_mem (by omega)
    refine ⟨fun A hA => ?_, List.pairwise_singleton _ _, fun A hA => ⟨fun g hg => ?_, fun B hB => ?_⟩, fun k hk g1 g2 _ A hA B hB => ?_⟩
    · rw [List.mem_singleton.1 hA]; exact hg0.all _ (List.mem_append_left _ hmem)
    · rw [List.mem_singleton.1 hA] at hg; exact .inr ⟨_, hmem, hox _ hmem, hg⟩
    · rw [List.mem_singleton.1 hA]; exact gb3 _ hmem B hB
    · have hge' : l.length ≤ k := by
        rcases Nat.lt_or_ge k l.length with h | h
        · have := g1 h; rw [hno] at this; cases this
        · exact h
      have hk' : Γx[k - l.length]? = some Γx[k - l.length] := List.getElem?_eq_getElem (by omega)
      have hp' := he0 _ _ hk'
      rw [show l.length + (k - l.length) = k by omega] at hp'
      rw [hp'] at hB
      rw [List.mem_singleton.1 hA, List.mem_singleton.1 hB]
      rw [List.pairwise_iff_getElem] at gb1
      rcases Nat.lt_or_ge (i - l.length) (k - l.length) with h | h
      · exact gb1 _ _ (by omega) (by omega) h
      · exact (gb1 _ _ (by omega) (by omega) (show k - l.length < i - l.length by omega)).symm
  · rw [hno] at h; cases h

/-! ### The operations of such a region -/

def StepOb (P : Program) (n : Nat) (Γ : List Asn) (F : List (Nat × Value)) (ops : Array Oper) (o : Oper) (Γo : List Asn) (va : Value × List Asn → Value) (en : Value × List Asn → List Asn) (ok : Value × List Asn → Prop) : Prop :=
  ∀ ρ w, Fr n F ρ → Holds Γ w → Γ.Pairwise Apart →
    (Region.wanted o (yielded ops ρ.tmps) = true ∧ DoesW P o ρ w fun v w' => ∃ Γ', (v = va (v, Γ') ∧ Γ' = en (v, Γ') ∧ ok (v, Γ')) ∧ Post (ownFp Γo) w Γ' w') ∨
    (Region.wanted o (yielded ops ρ.tmps) = false ∧ undef = va (undef, []) ∧ [] = en (undef, []) ∧ ok (undef, []))

theorem RGl.nil {ops : Array Oper} {eats : List (Nat × Nat)} {K : Prev → Prop} {j : Nat} {prev : Prev} (k : K prev) : RGl P n Γ F ops eats K j [] [] prev := k
theorem RGl.step {ops : Array Oper} {eats : List (Nat × Nat)} {K : Prev → Prop} {j : Nat} {o : Oper} {os : List Oper} {D bad : List Nat} {Ds : List (List Nat × List Nat)} {prev : Prev} {va : Env → Value × List Asn → Value} {en : Env → Value × List Asn → List Asn} {ok : Env → Value × List Asn → Prop}
    (h : ∀ e, oks D e prev → StepOb P n (ens eats D j e prev ++ Γ) (bnd D e prev ++ fcut bad F) ops o (eaten1 eats j e prev) (va e) (en e) (ok e)) (hi : ∀ e r, va (mask D e) r = va e r ∧ en (mask D e) r = en e r ∧ ok (mask D e) r = ok e r)
    (k : RGl P n Γ F ops eats K (j + 1) os Ds ((j, o.dst, ⟨va, en, ok⟩) :: prev)) : RGl P n Γ F ops eats K j (o :: os) ((D, bad) :: Ds) prev :=
  ⟨⟨va, en, ok⟩, ⟨hi, fun e ρ w hf hw ha ho => h e ho ρ w hf hw ha⟩, k⟩

variable {ops : Array Oper} {o : Oper} {Γo : List Asn}
theorem StepOb.op {va : Value × List Asn → Value} {en : Value × List Asn → List Asn} {ok : Value × List Asn → Prop} {Γ1 : List Asn} {R : Value → List Asn → Prop} (hw : wantG F ops o.guard = some true) (h : OpT P n Γ F o Γ1 R) (hs : ∀ A, A ∈ Γ1 → A ∈ Γo) (hR : ∀ v Γ', R v Γ' → v = va (v, Γ') ∧ Γ' = en (v, Γ') ∧ ok (v, Γ')) : StepOb P n Γ F ops o Γo va en ok := by
  intro ρ w hf hh ha
  refine .inl ⟨wanted_of hf hw, (h ρ w hf hh ha).mono ?_⟩
  rintro v w' ⟨Γ', hr, hp⟩
  refine ⟨Γ', hR v Γ' hr, ⟨hp.mod.weaken ?_, hp.all, hp.apart, fun A hA g hg => ?_⟩⟩
  · rintro g _ ⟨A, hA, ho, hg⟩; exact ⟨A, hs A hA, ho, hg⟩
  · rcases hp.new A hA g hg with h | ⟨B, hB, ho, hg⟩
    · exact .inl h
    · exact .inr ⟨B, hs B hB, ho, hg⟩
theorem StepOb.rd {c : Value} (h : ReadR P n Γ F o c) (hw : wantG F ops o.guard = some true) : StepOb P n Γ F ops o Γo (fun _ => c) (fun _ => []) (fun _ => True) :=
  .op hw h.opT (fun A hA => by cases hA) fun v Γ' ⟨h1, h2⟩ => ⟨h1, h2, trivial⟩
theorem StepOb.sk (hw : wantG F ops o.guard = some false) : StepOb P n Γ F ops o Γo (fun _ => undef) (fun _ => []) (fun _ => True) := fun ρ w hf _ _ => .inr ⟨wanted_of hf hw, rfl, rfl, trivial⟩
/-- The block of a pointer. -/
def blk : Value → Nat
  | .pointer (some a) => a.block
  | _ => 0
theorem StepOb.nw {T : TypeId} {cs : Ch} (h : OpT P n Γ F o [] (RNew T cs)) (hw : wantG F ops o.guard = some true) : StepOb P n Γ F ops o Γo (fun r => .pointer (some ⟨blk r.1, 0, none⟩)) (fun r => [bx (blk r.1) T cs]) (fun _ => True) :=
  .op hw h (fun A hA => by cases hA) (by rintro v Γ' ⟨g, rfl, rfl⟩; exact ⟨rfl, rfl, trivial⟩)
theorem StepOb.row {e : TypeId} {sz m : Nat} {xs : List Value} {Γ1 : List Asn} (h : OpT P n Γ F o Γ1 (RRow e sz m xs)) (hs : ∀ A, A ∈ Γ1 → A ∈ Γo) (hw : wantG F ops o.guard = some true) : StepOb P n Γ F ops o Γo (fun r => r.1) (fun r => [rowN e sz r.1 m xs]) (fun r => r.1.oneCell' = true) :=
  .op hw h hs (by rintro v Γ' ⟨h1, rfl⟩; exact ⟨rfl, rfl, h1⟩)
theorem StepOb.turn {A B : Asn} (h : OpT P n Γ F o [A] (RLeave [B])) (hs : A ∈ Γo) (hw : wantG F ops o.guard = some true) : StepOb P n Γ F ops o Γo (fun r => r.1) (fun _ => [B]) (fun _ => True) :=
  .op hw h (fun C hC => by rw [List.mem_singleton.1 hC]; exact hs) (by rintro v Γ' rfl; exact ⟨rfl, rfl, trivial⟩)

/-- A call, as what an operation does. -/
theorem OpT.call {d : Option Tmp} {f : FuncId} {xs : List Operand} {ts : Array TypeId} {ty : TypeId} {pos : String} {af : Array Edge} {gd : Option (Nat × Bool)} {vs : List Value} {Δ : List Asn} {R : Value → List Asn → Prop}
    (h : Triple P f vs.toArray Δ R) (hx : evFs F xs vs) (hΔ : Provs Γ Δ) (hc : isCode P f = true) : OpT P n Γ F ⟨d, .call { callee := .value (.func f), args := xs.toArray, argTypes := ts }, ty, pos, af, gd⟩ [] R := by
  intro ρ w hf hw ha
  unfold DoesW
  rw [run_call hc, hx.map hf]
  refine (Triple.frame (Γo := []) (Γf := Γ) (by rw [List.append_nil]; exact h) hw ha hΔ (fun A _ g _ => ?_)).mono ?_
  · rintro ⟨B, hB, _⟩; cases hB
  · rintro e w' ⟨v, Γ', he, hR, hp⟩
    exact ⟨v, he, Γ', hR, hp⟩


/-! ### The same, in words that the walk can read at once -/

@[reducible] def memN : List Nat → Nat → Bool
  | [], _ => false
  | a :: l, i => match Nat.beq a i with | true => true | false => memN l i
@[reducible] def eatN : List (Nat × Nat) → Nat → Option Nat
  | [], _ => none
  | (a, b) :: l, i => match Nat.beq a i with | true => some b | false => eatN l i
@[reducible] def seesN : List (Nat × Nat) → Nat → Nat → Bool
  | [], _, _ => false
  | (a, b) :: es, i, j => match Nat.beq a i with | true => (match Nat.beq b j with | true => true | false => seesN es i j) | false => seesN es i j
@[reducible] def visN (eats : List (Nat × Nat)) (i j : Nat) : Bool := match eatN eats i with | none => true | some k => match Nat.beq k j with | true => true | false => seesN eats i j
def bndR (D : List Nat) (e : Env) : Prev → List (Nat × Value)
  | [] => []
  | (i, some d, s) :: ps => match memN D i with | true => (d, s.val e (e i)) :: bndR D e ps | false => bndR D e ps
  | (_, none, _) :: ps => bndR D e ps
def ensR (eats : List (Nat × Nat)) (D : List Nat) (j : Nat) (e : Env) : Prev → List Asn
  | [] => []
  | (i, _, s) :: ps => match memN D i with
    | true => match visN eats i j with
      | true => s.ent e (e i) ++ ensR eats D j e ps
      | false => ensR eats D j e ps
    | false => ensR eats D j e ps
def ensAR (eats : List (Nat × Nat)) (e : Env) : Prev → List Asn
  | [] => []
  | (i, _, s) :: ps => match eatN eats i with
    | none => s.ent e (e i) ++ ensAR eats e ps
    | some _ => ensAR eats e ps
def oksR (D : List Nat) (e : Env) : Prev → Prop
  | [] => True
  | (i, _, s) :: ps => match memN D i with
    | true => s.ok e (e i) ∧ oksR D e ps
    | false => oksR D e ps
def eaten1R (eats : List (Nat × Nat)) (j : Nat) (e : Env) : Prev → List Asn
  | [] => []
  | (i, _, s) :: ps => match eatN eats i with
    | none => eaten1R eats j e ps
    | some k => match Nat.beq k j with
      | true => s.ent e (e i) ++ eaten1R eats j e ps
      | false => eaten1R eats j e ps
def fcutR (bad : List Nat) : List (Nat × Value) → List (Nat × Value)
  | [] => []
  | (t, v) :: F => match memN bad t with
    | true => fcutR bad F
    | false => (t, v) :: fcutR bad F

theorem memN_eq : ∀ (D : List Nat) (i : Nat), D.contains i = memN D i
  | [], _ => rfl
  | a :: D, i => by
    rw [List.contains_cons, memN_eq D i]
    show _ = match Nat.beq a i with | true => true | false => memN D i
    by_cases h : a = i
    · subst h; simp
    · have h1 : Nat.beq a i = false := by rw [← Bool.not_eq_true]; intro hh; exact h (beq_true hh)
      have h2 : (i == a) = false := by simp; exact fun hh => h hh.symm
      rw [h1, h2]; rfl
theorem eatN_eq : ∀ (es : List (Nat × Nat)) (i : Nat), eater es i = eatN es i
  | [], _ => rfl
  | (a, b) :: es, i => by
    unfold eater eatN
    by_cases h : a = i
    · subst h; simp
    · have h1 : Nat.beq a i = false := by rw [← Bool.not_eq_true]; intro hh; exact h (beq_true hh)
      rw [if_neg h, h1, eatN_eq es i]
theorem seesN_eq : ∀ (es : List (Nat × Nat)) (i j : Nat), sees es i j = seesN es i j
  | [], _, _ => rfl
  | (a, b) :: es, i, j => by
    unfold sees
    rw [seesN_eq es i j]
    show _ = match Nat.beq a i with | true => (match Nat.beq b j with | true => true | false => seesN es i j) | false => seesN es i j
    cases Nat.beq a i <;> cases Nat.beq b j <;> rfl
theorem visN_eq (es : List (Nat × Nat)) (i j : Nat) : vis es i j = visN es i j := by
  unfold vis visN; rw [eatN_eq]
  cases eatN es i with
  | none => rfl
  | some k => simp only [seesN_eq]; cases Nat.beq k j <;> rfl
theorem bndR_eq (D : List Nat) (e : Env) : ∀ ps : Prev, bnd D e ps = bndR D e ps
  | [] => rfl
  | (i, some d, s) :: ps => by unfold bnd bndR; rw [memN_eq, bndR_eq D e ps]; cases memN D i <;> rfl
  | (i, none, s) :: ps => by unfold bnd bndR; rw [bndR_eq D e ps]; cases D.contains i <;> rfl
theorem ensR_eq (eats : List (Nat × Nat)) (D : List Nat) (j : Nat) (e : Env) : ∀ ps : Prev, ens eats D j e ps = ensR eats D j e ps
  | [] => rfl
  | (i, _, s) :: ps => by unfold ens ensR; rw [memN_eq, visN_eq, ensR_eq eats D j e ps]; cases memN D i <;> cases visN eats i j <;> rfl
theorem ensAR_eq (eats : List (Nat × Nat)) (e : Env) : ∀ ps : Prev, ensA eats e ps = ensAR eats e ps
  | [] => rfl
  | (i, _, s) :: ps => by unfold ensA ensAR; rw [eatN_eq, ensAR_eq eats e ps]
theorem oksR_eq (D : List Nat) (e : Env) : ∀ ps : Prev, oks D e ps = oksR D e ps
  | [] => rfl
  | (i, _, s) :: ps => by unfold oks oksR; rw [memN_eq, oksR_eq D e ps]
theorem eaten1R_eq (eats : List (Nat × Nat)) (j : Nat) (e : Env) : ∀ ps : Prev, eaten1 eats j e ps = eaten1R eats j e ps
  | [] => rfl
  | (i, _, s) :: ps => by
    unfold eaten1 eaten1R; rw [eatN_eq, eaten1R_eq eats j e ps]
theorem fcutR_eq (bad : List Nat) : ∀ F : List (Nat × Value), fcut bad F = fcutR bad F
  | [] => rfl
  | (t, v) :: F => by unfold fcut fcutR; rw [memN_eq, fcutR_eq bad F]

section
variable {eats : List (Nat × Nat)} {K : Prev → Prop} {j : Nat} {os : List Oper} {D bad : List Nat} {Ds : List (List Nat × List Nat)} {prev : Prev}
theorem RGl.stepR {va : Env → Value × List Asn → Value} {en : Env → Value × List Asn → List Asn} {ok : Env → Value × List Asn → Prop}
    (h : ∀ e, oksR D e prev → StepOb P n (ensR eats D j e prev ++ Γ) (bndR D e prev ++ fcutR bad F) ops o (eaten1R eats j e prev) (va e) (en e) (ok e)) (hi : ∀ e r, va (mask D e) r = va e r ∧ en (mask D e) r = en e r ∧ ok (mask D e) r = ok e r)
    (k : RGl P n Γ F ops eats K (j + 1) os Ds ((j, o.dst, ⟨va, en, ok⟩) :: prev)) : RGl P n Γ F ops eats K j (o :: os) ((D, bad) :: Ds) prev :=
  RGl.step (fun e he => by rw [ensR_eq, bndR_eq, fcutR_eq, eaten1R_eq]; exact h e (oksR_eq D e prev ▸ he)) hi k

theorem RGl.vl {c : Env → Value} (h : ∀ e, oksR D e prev → OpT P n (ensR eats D j e prev ++ Γ) (bndR D e prev ++ fcutR bad F) o [] (RVal (c e)))
    (k : RGl P n Γ F ops eats K (j + 1) os Ds ((j, o.dst, ⟨fun e _ => c e, fun _ _ => [], fun _ _ => True⟩) :: prev)) (hw : ∀ e, wantG (bndR D e prev ++ fcutR bad F) ops o.guard = some true := by intro e; first | rfl | fail) (hi : ∀ e, c (mask D e) = c e := by intro e; first | rfl | fail) :
    RGl P n Γ F ops eats K j (o :: os) ((D, bad) :: Ds) prev :=
  RGl.stepR (fun e he => .op (hw e) (h e he) (fun A hA => by cases hA) fun v Γ' ⟨h1, h2⟩ => ⟨h1, h2, trivial⟩) (fun e _ => ⟨hi e, rfl, rfl⟩) k
theorem RGl.skp (k : RGl P n Γ F ops eats K (j + 1) os Ds ((j, o.dst, ⟨fun _ _ => undef, fun _ _ => [], fun _ _ => True⟩) :: prev)) (hw : ∀ e, wantG (bndR D e prev ++ fcutR bad F) ops o.guard = some false := by intro e; first | rfl | fail) : RGl P n Γ F ops eats K j (o :: os) ((D, bad) :: Ds) prev :=
  RGl.stepR (fun e he => .sk (hw e)) (fun e _ => ⟨rfl, rfl, rfl⟩) k
theorem RGl.new {T : Env → TypeId} {cs : Env → Ch} (h : ∀ e, oksR D e prev → OpT P n (ensR eats D j e prev ++ Γ) (bndR D e prev ++ fcutR bad F) o [] (RNew (T e) (cs e)))
    (k : RGl P n Γ F ops eats K (j + 1) os Ds ((j, o.dst, ⟨fun _ r => .pointer (some ⟨blk r.1, 0, none⟩), fun e r => [bx (blk r.1) (T e) (cs e)], fun _ _ => True⟩) :: prev)) (hw : ∀ e, wantG (bndR D e prev ++ fcutR bad F) ops o.guard = some true := by intro e; first | rfl | fail) (hi : ∀ e, T (mask D e) = T e ∧ cs (mask D e) = cs e := by intro e; first | exact ⟨rfl, rfl⟩ | fail) :
    RGl P n Γ F ops eats K j (o :: os) ((D, bad) :: Ds) prev :=
  RGl.stepR (fun e he => .nw (h e he) (hw e)) (fun e _ => ⟨rfl, by show [_] = [_]; rw [(hi e).1, (hi e).2], rfl⟩) k
theorem RGl.row {ety : Env → TypeId} {sz : Env → Nat} {m : Env → Nat} {xs : Env → List Value} {Γ1 : Env → List Asn} (h : ∀ e, oksR D e prev → OpT P n (ensR eats D j e prev ++ Γ) (bndR D e prev ++ fcutR bad F) o (Γ1 e) (RRow (ety e) (sz e) (m e) (xs e)))
    (k : RGl P n Γ F ops eats K (j + 1) os Ds ((j, o.dst, ⟨fun _ r => r.1, fun e r => [rowN (ety e) (sz e) r.1 (m e) (xs e)], fun _ r => r.1.oneCell' = true⟩) :: prev)) (hs : ∀ e, Γ1 e = eaten1R eats j e prev := by intro e; first | rfl | fail) (hw : ∀ e, wantG (bndR D e prev ++ fcutR bad F) ops o.guard = some true := by intro e; first | rfl | fail) (hi : ∀ e, ety (mask D e) = ety e ∧ sz (mask D e) = sz e ∧ m (mask D e) = m e ∧ xs (mask D e) = xs e := by intro e; first | exact ⟨rfl, rfl, rfl, rfl⟩ | fail) :
    RGl P n Γ F ops eats K j (o :: os) ((D, bad) :: Ds) prev :=
  RGl.stepR (fun e he => .row (h e he) (fun A hA => by rw [← hs e]; exact hA) (hw e)) (fun e _ => ⟨rfl, by show [_] = [_]; rw [(hi e).1, (hi e).2.1, (hi e).2.2.1, (hi e).2.2.2], rfl⟩) k
/-- What is said of two values. -/
theorem RGl.turn {A B : Env → Asn} (h : ∀ e, oksR D e prev → OpT P n (ensR eats D j e prev ++ Γ) (bndR D e prev ++ fcutR bad F) o [A e] (RLeave [B e]))
    (k : RGl P n Γ F ops eats K (j + 1) os Ds ((j, o.dst, ⟨fun _ r => r.1, fun e r => [B e], fun _ _ => True⟩) :: prev)) (hs : ∀ e, [A e] = eaten1R eats j e prev := by intro e; first | rfl | fail) (hw : ∀ e, wantG (bndR D e prev ++ fcutR bad F) ops o.guard = some true := by intro e; first | rfl | fail) (hi : ∀ e, B (mask D e) = B e := by intro e; first | rfl | fail) :
    RGl P n Γ F ops eats K j (o :: os) ((D, bad) :: Ds) prev :=
  RGl.stepR (fun e he => .turn (h e he) (by rw [← hs e]; exact List.mem_cons_self ..) (hw e)) (fun e _ => ⟨rfl, by show [_] = [_]; rw [hi e], rfl⟩) k
theorem RGl.fin {W : World} {S : Nat → Prop} {Q : Exit → Act → World → Prop} (k : ∀ e, oksA e prev → WPq n W S (ensAR eats e prev ++ Γ) (bndA e prev ++ F) Q .normal) :
    RGl P n Γ F ops eats (fun prev => ∀ e, oksA e prev → WPq n W S (ensA eats e prev ++ Γ) (bndA e prev ++ F) Q .normal) j [] [] prev := by
  intro e he
  rw [ensAR_eq]
  exact k e he
end

end
end Go.Proofs.Ytpjfkomicehinaa
