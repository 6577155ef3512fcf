/- Separation: the rules of operations that make or turn memory. -/
import Derived.Test.YtpjfkomicehinaaSP
import Derived.Deep.AppendLies
namespace Go.Proofs.Ytpjfkomicehinaa
open Go.RowKit
set_option linter.unusedSimpArgs false
set_option linter.unusedVariables false

/-- It gives this value, and nothing turns. -/
def RVal (c : Value) : Value → List Asn → Prop := fun v Γ => v = c ∧ Γ = []
/-- It gives a pointer to a new block. -/
def RNew (T : TypeId) (cs : Ch) : Value → List Asn → Prop := fun v Γ => ∃ g, v = .pointer (some ⟨g, 0, none⟩) ∧ Γ = [bx g T cs]
/-- It gives a slice of one's own. -/
def RRow (e : TypeId) (sz m : Nat) (xs : List Value) : Value → List Asn → Prop := fun v Γ => v.oneCell' = true ∧ Γ = [rowN e sz v m xs]
abbrev ROb (l : List UInt8) : Value → List Asn → Prop := RRow 5 1 l.length (u8s l)
/-- It leaves these. -/
def RLeave (Γ0 : List Asn) : Value → List Asn → Prop := fun v Γ => Γ = Γ0

/-- What an operation does that takes Γo. -/
def OpT (P : Program) (n : Nat) (Γ : List Asn) (F : List (Nat × Value)) (o : Oper) (Γo : List Asn) (R : Value → List Asn → Prop) : Prop :=
  ∀ ρ w, Fr n F ρ → Holds Γ w → Γ.Pairwise Apart → DoesW P o ρ w fun v w' => ∃ Γ', R v Γ' ∧ Post (ownFp Γo) w Γ' w'

section
variable {P : Program} {n : Nat} {W : World} {S : Nat → Prop} {Γ : List Asn} {F : List (Nat × Value)} {Q : Exit → Act → World → Prop}

theorem ReadR.opT {o : Oper} {c : Value} (h : ReadR P n Γ F o c) : OpT P n Γ F o [] (RVal c) := fun ρ w hf hw _ => by
  unfold DoesW
  rw [h ρ w hf hw]
  exact ⟨[], ⟨rfl, rfl⟩, Post.nil (Mod.refl _ _)⟩

theorem Post.one {T : Nat → Prop} {w w' : World} {A : Asn} (h : Mod T w w') (ha : A.holds w') (hn : ∀ g, A.fp g → w.heap.size ≤ g ∨ T g) : Post T w [A] w' :=
  ⟨h, fun B hB => by rw [List.mem_singleton.1 hB]; exact ha, List.pairwise_singleton _ _, fun B hB => by rw [List.mem_singleton.1 hB]; exact hn⟩

theorem Mod.alloc (T : Nat → Prop) (w : World) (o : Obj) : Mod T w (w.alloc o) :=
  ⟨rfl, rfl, rfl, by simp, by simp, fun g hg _ => by
    show (w.heap.push o)[g]? = _
    rw [Array.getElem?_push_lt hg, Array.getElem?_eq_getElem hg]⟩
theorem alloc_new (w : World) (o : Obj) : (w.alloc o).heap[w.heap.size]? = some o := by
  show (w.heap.push o)[w.heap.size]? = _
  simp

theorem Post.bx {T : Nat → Prop} {w : World} {t : TypeId} {cs : Ch} (hk : FOk cs) : Post T w [bx w.heap.size t cs] (w.alloc (.cells (flat cs).toArray t)) :=
  .one (Mod.alloc _ _ _) ⟨alloc_new _ _, hk⟩ fun g hg => .inl (Nat.le_of_eq hg.symm)

variable {d : Option Tmp} {ty : TypeId} {pos : String} {af : Array Edge} {gd : Option (Nat × Bool)}

theorem OpT.alloc {T : TypeId} {cs : Ch} [hz : ZeroI P T cs] : OpT P n Γ F ⟨d, .alloc T, ty, pos, af, gd⟩ [] (RNew T cs) := fun ρ w hf hw _ => by
  obtain ⟨z, h1, h2⟩ := hz.run w
  have : (execOp ρ.eval ⟨d, .alloc T, ty, pos, af, gd⟩).run P w = .ok (.value (.pointer (some ⟨w.heap.size, 0, none⟩))) (w.alloc (.cells (flat cs).toArray T)) := by
    simp [execOp, Instr.alloc, Sem.run_bind, h1, newVar, newRow, newObj, h2, Sem.run]
  unfold DoesW
  rw [this]
  exact ⟨_, ⟨_, rfl, rfl⟩, Post.bx hz.ok⟩

theorem OpT.boxA {T : TypeId} {x : Operand} {cs : Ch} (hx : evF F x = some (ag cs)) (hk : FOk cs) : OpT P n Γ F ⟨d, .box T x, ty, pos, af, gd⟩ [] (RNew T cs) := fun ρ w hf hw _ => by
  have : (execOp ρ.eval ⟨d, .box T x, ty, pos, af, gd⟩).run P w = .ok (.value (.pointer (some ⟨w.heap.size, 0, none⟩))) (w.alloc (.cells (flat cs).toArray T)) := by
    simp [execOp, hf.eval hx, Instr.box, Sem.run_bind, newVar, newRow, newObj, ag, Value.cells, Sem.run]
  unfold DoesW
  rw [this]
  exact ⟨_, ⟨_, rfl, rfl⟩, Post.bx hk⟩
theorem cells_one {v : Value} (h : v.oneCell' = true) : v.cells = #[v] := by cases v <;> first | rfl | simp [Value.oneCell'] at h
theorem OpT.box1 {T : TypeId} {x : Operand} {v : Value} (hx : evF F x = some v) (h1 : v.oneCell' = true) : OpT P n Γ F ⟨d, .box T x, ty, pos, af, gd⟩ [] (RNew T [(1, [v])]) := fun ρ w hf hw _ => by
  have : (execOp ρ.eval ⟨d, .box T x, ty, pos, af, gd⟩).run P w = .ok (.value (.pointer (some ⟨w.heap.size, 0, none⟩))) (w.alloc (.cells (flat [(1, [v])]).toArray T)) := by
    simp [execOp, hf.eval hx, Instr.box, Sem.run_bind, newVar, newRow, newObj, cells_one h1, Sem.run, flat]
  unfold DoesW
  rw [this]
  exact ⟨_, ⟨_, rfl, rfl⟩, Post.bx (.one1 h1 .nil)⟩

/-! ### Stores -/

theorem Mod.setRow {T : Nat → Prop} {g : Nat} (hg : T g) (w : World) (c : Array Value) : Mod T w (w.setRow g c) :=
  ⟨rfl, rfl, rfl, by simp, by simp, fun k _ hk => setRow_other w g k c (fun e => hk (e ▸ hg))⟩

theorem upd_flat {new cs cs' : Ch} {off sz : Nat} (h : upd new cs off sz = some cs') (hk : chOk cs) (hn : FOk new) (ht : total new = sz) :
    (flat cs).take off ++ flat new ++ (flat cs).drop (off + sz) = flat cs' ∧ off + sz ≤ (flat cs).length ∧ (flat new).length = sz := by
  obtain ⟨pre, bs, es, rfl, rfl, h1, h2⟩ := upd_spec h
  have k1 := chOk_append.1 hk
  have k2 := chOk_append.1 k1.2
  have l1 := flat_length k1.1
  have l2 := flat_length k2.1
  have l3 := flat_length hn.len
  simp only [flat_append]
  refine ⟨?_, ?_, by omega⟩
  · rw [List.take_append_of_le_length (by omega), List.take_of_length_le (by omega), List.drop_append, List.drop_of_length_le (by omega), List.nil_append, List.drop_append, List.drop_of_length_le (by omega), show off + sz - (flat pre).length - (flat bs).length = 0 by omega]
    simp
  · simp only [List.length_append]; omega

theorem upd_fok {new cs cs' : Ch} {off sz : Nat} (h : upd new cs off sz = some cs') (hk : FOk cs) (hn : FOk new) : FOk cs' := by
  obtain ⟨pre, bs, es, rfl, rfl, h1, h2⟩ := upd_spec h
  have k1 := chOk_append.1 hk.len
  have k2 := chOk_append.1 k1.2
  refine ⟨chOk_append.2 ⟨k1.1, chOk_append.2 ⟨hn.len, k2.2⟩⟩, fun v hv => ?_⟩
  have ho := hk.one
  simp only [flat_append] at hv ho
  rcases List.mem_append.1 hv with hv | hv
  · exact ho v (List.mem_append_left _ hv)
  · rcases List.mem_append.1 hv with hv | hv
    · exact hn.one v hv
    · exact ho v (List.mem_append_right _ (List.mem_append_right _ hv))

theorem run_store_bx {T T' : TypeId} {ag : Bool} {sz g off : Nat} {cs cs' new : Ch} {v : Value} {w : World} [hT : TyI P T ag sz] (hb : (bx g T' cs).holds w) (hv : v.cells = (flat new).toArray) (hn : FOk new) (ht : total new = sz) (hu : upd new cs off sz = some cs') :
    (storeVar T ⟨g, off, none⟩ v).run P w = .ok () (w.setRow g (flat cs').toArray) ∧ (bx g T' cs').holds (w.setRow g (flat cs').toArray) := by
  obtain ⟨h1, h2, h3⟩ := upd_flat hu hb.2.len hn ht
  have hst := run_storeCells_at P g off T' (flat new) 0 (flat cs).toArray w hb.1 (by simp; omega) hn.one
  simp only [Nat.add_zero, List.toList_toArray, h3, h1] at hst
  refine ⟨?_, setRow_heap w g _ _ T' (0, 0) hb.1, upd_fok hu hb.2 hn⟩
  have hs : ¬ (flat new).length ≠ sz := by omega
  simp [storeVar, Sem.run_bind, hT.run_sizeOf, hv, h3, hst]

theorem OpT.store {T T' : TypeId} {ag : Bool} {sz g off : Nat} {cs cs' new : Ch} {a x : Operand} {v : Value} {Γf : List Asn} [hT : TyI P T ag sz] (ha : evF F a = some (.pointer (some ⟨g, off, none⟩))) (hx : evF F x = some v) (hp : Takes Γ [bx g T' cs] Γf) (hv : v.cells = (flat new).toArray) (hn : FOk new) (ht : total new = sz) (hu : upd new cs off sz = some cs') :
    OpT P n Γ F ⟨d, .store T a x, ty, pos, af, gd⟩ [bx g T' cs] (RLeave [bx g T' cs']) := fun ρ w hf hw _ => by
  have hb : (bx g T' cs).holds w := hw _ (hp.mem_iff.2 (List.mem_cons_self ..))
  obtain ⟨h1, h2⟩ := run_store_bx (P := P) (T := T) hb hv hn ht hu
  have : (execOp ρ.eval ⟨d, .store T a x, ty, pos, af, gd⟩).run P w = .ok .skip (w.setRow g (flat cs').toArray) := by
    simp [execOp, hf.eval ha, hf.eval hx, Instr.storeAt, Instr.sureAddr, Sem.run_bind, h1]
  unfold DoesW
  rw [this]
  have hg : ownFp [bx g T' cs] g := ⟨_, List.mem_singleton.2 rfl, rfl, rfl⟩
  exact ⟨_, rfl, .one (Mod.setRow hg _ _) h2 fun g' hg' => .inr (by rw [show g' = g from hg']; exact hg)⟩
theorem OpT.storeA {T T' : TypeId} {sz g off : Nat} {cs cs' new : Ch} {a x : Operand} {Γf : List Asn} [hT : TyI P T true sz] (ha : evF F a = some (.pointer (some ⟨g, off, none⟩))) (hx : evF F x = some (Go.Proofs.Ytpjfkomicehinaa.ag new)) (hp : Takes Γ [bx g T' cs] Γf) (hn : FOk new) (ht : total new = sz) (hu : upd new cs off sz = some cs') :
    OpT P n Γ F ⟨d, .store T a x, ty, pos, af, gd⟩ [bx g T' cs] (RLeave [bx g T' cs']) := OpT.store ha hx hp rfl hn ht hu
theorem OpT.store1 {T T' : TypeId} {g off : Nat} {cs cs' : Ch} {a x : Operand} {v : Value} {Γf : List Asn} [hT : TyI P T false 1] (ha : evF F a = some (.pointer (some ⟨g, off, none⟩))) (hx : evF F x = some v) (hp : Takes Γ [bx g T' cs] Γf) (h1 : v.oneCell' = true) (hu : upd [(1, [v])] cs off 1 = some cs') :
    OpT P n Γ F ⟨d, .store T a x, ty, pos, af, gd⟩ [bx g T' cs] (RLeave [bx g T' cs']) := OpT.store (new := [(1, [v])]) ha hx hp (by rw [cells_one h1]; rfl) (.one1 h1 .nil) rfl hu

/-- Another chunk at a place. -/
def setAt (xs : List Value) : Ch → Nat → Option Ch
  | [], _ => none
  | c :: cs, off => match Nat.beq off 0 with
    | true => some ((c.1, xs) :: cs)
    | false => match Nat.ble c.1 off with
      | true => (setAt xs cs (off - c.1)).map (c :: ·)
      | false => none
theorem setAt_spec {xs : List Value} : ∀ {cs cs' : Ch} {off : Nat}, setAt xs cs off = some cs' → ∃ pre c es, cs = pre ++ (c :: es) ∧ cs' = pre ++ ((c.1, xs) :: es) ∧ total pre = off
  | [], _, _, h => by cases h
  | c :: cs, cs', off, h => by
    unfold setAt at h
    split at h
    · rename_i hb; cases h; exact ⟨[], c, cs, rfl, rfl, (beq_true hb).symm⟩
    · split at h
      · rename_i hle
        rw [Option.map_eq_some_iff] at h
        obtain ⟨ds, h1, rfl⟩ := h
        obtain ⟨pre, c', es, rfl, rfl, ht⟩ := setAt_spec h1
        refine ⟨c :: pre, c', es, rfl, rfl, ?_⟩
        have := Nat.le_of_ble_eq_true hle
        simp only [total, ht]; omega
      · cases h

/-- A store into an array of a block. -/
theorem OpT.storeR {T T' : TypeId} {g off i m : Nat} {cs cs' : Ch} {xs : List Value} {a x : Operand} {v : Value} {Γf : List Asn} [hT : TyI P T false 1] (ha : evF F a = some (.pointer (some ⟨g, off + i, none⟩))) (hx : evF F x = some v) (hp : Takes Γ [bx g T' cs] Γf) (h1 : v.oneCell' = true) (hc : chAt cs off = some (m, xs)) (hi : i < xs.length) (hu : setAt (xs.set i v) cs off = some cs') :
    OpT P n Γ F ⟨d, .store T a x, ty, pos, af, gd⟩ [bx g T' cs] (RLeave [bx g T' cs']) := fun ρ w hf hw _ => by
  have hb : (bx g T' cs).holds w := hw _ (hp.mem_iff.2 (List.mem_cons_self ..))
  obtain ⟨pre, es, he, ht⟩ := chAt_spec hc
  obtain ⟨pre2, c2, es2, he2, rfl, ht2⟩ := setAt_spec hu
  have hpre : pre = pre2 ∧ (m, xs) = c2 ∧ es = es2 := by
    have key : ∀ (p q : Ch) (a b : Nat × List Value) (r s : Ch), total p = total q → chOk (p ++ a :: r) → 0 < a.1 → 0 < b.1 → p ++ a :: r = q ++ b :: s → p = q ∧ a = b ∧ r = s := by
      intro p
      induction p with
      | nil =>
        intro q a b r s h0 _ ha _ h
        cases q with
        | nil => simpa using h
        | cons c q => simp only [List.nil_append, List.cons_append, List.cons.injEq] at h; simp only [total] at h0; obtain ⟨rfl, _⟩ := h; omega
      | cons c p ih =>
        intro q a b r s h0 hk ha hb h
        cases q with
        | nil => simp only [List.nil_append, List.cons_append, List.cons.injEq] at h; simp only [total] at h0; obtain ⟨rfl, _⟩ := h; omega
        | cons c' q =>
          simp only [List.cons_append, List.cons.injEq] at h
          obtain ⟨rfl, h⟩ := h
          simp only [total] at h0
          obtain ⟨rfl, rfl, rfl⟩ := ih q a b r s (by omega) (fun c hc => hk c (List.mem_cons_of_mem _ hc)) ha hb h
          exact ⟨rfl, rfl, rfl⟩
    have hk := hb.2.len
    have hm : xs.length = m := by rw [he] at hk; exact hk _ (List.mem_append_right _ (List.mem_cons_self ..))
    have hm2 : c2.2.length = c2.1 := by rw [he2] at hk; exact hk _ (List.mem_append_right _ (List.mem_cons_self ..))
    by_cases hc0 : 0 < c2.1
    · exact key _ _ _ _ _ _ (by omega) (he ▸ hk) (by show 0 < m; omega) hc0 (he ▸ he2)
    · exfalso
      have : ∀ (p q : Ch) (a b : Nat × List Value) (r s : Ch), total p = total q → 0 < a.1 → b.1 = 0 → setAt (xs.set i v) (p ++ a :: r) (total p) = some (q ++ (b.1, xs.set i v) :: s) → p ++ a :: r = q ++ b :: s → chAt (p ++ a :: r) (total p) = some a → False := by
        intro p
        induction p with
        | nil =>
          intro q a b r s h0 ha hb hs h _
          simp only [total, List.nil_append, setAt, Nat.beq_refl] at hs
          cases q with
          | nil => simp only [List.nil_append, List.cons.injEq] at h; obtain ⟨rfl, _⟩ := h; omega
          | cons c q => simp only [List.nil_append, List.cons_append, List.cons.injEq] at h; simp only [total] at h0; obtain ⟨rfl, _⟩ := h; omega
        | cons c p ih =>
          intro q a b r s h0 ha hb hs h hca
          by_cases hz : c.1 + total p = 0
          · simp only [total, hz, List.cons_append, chAt, Nat.beq_refl] at hca
            cases hca; omega
          · have hbq : Nat.beq (c.1 + total p) 0 = false := by rw [← Bool.not_eq_true]; intro hh; exact hz (beq_true hh)
            have hle : Nat.ble c.1 (c.1 + total p) = true := by simp
            simp only [total, List.cons_append, setAt, chAt, hbq, hle] at hs hca
            rw [show c.1 + total p - c.1 = total p by omega] at hs hca
            rw [Option.map_eq_some_iff] at hs
            obtain ⟨ds, hs, hd⟩ := hs
            cases q with
            | nil =>
              simp only [List.nil_append, List.cons_append, List.cons.injEq] at h
              obtain ⟨rfl, _⟩ := h
              simp only [total] at h0
              omega
            | cons c' q =>
              simp only [List.cons_append, List.cons.injEq] at h hd
              obtain ⟨rfl, h⟩ := h
              simp only [total] at h0
              exact ih q a b r s (by omega) ha hb (by rw [hs, hd.2]) h hca
      refine this pre pre2 (m, xs) c2 es es2 (by omega) (by show 0 < m; omega) (by omega) ?_ (he ▸ he2) ?_
      · rw [← he, ht]; exact hu
      · rw [← he, ht]; exact hc
  obtain ⟨rfl, rfl, rfl⟩ := hpre
  subst he
  have hk := hb.2.len
  have hl := flat_length (chOk_append.1 hk).1
  have hfl : flat (pre ++ (m, xs) :: es) = flat pre ++ (xs ++ flat es) := by rw [flat_append, flat_eq ((m, xs) :: es), List.map_cons, List.flatten_cons, ← flat_eq]
  have hfl' : flat (pre ++ (m, xs.set i v) :: es) = (flat (pre ++ (m, xs) :: es)).set (off + i) v := by
    rw [hfl, flat_append, flat_eq ((m, xs.set i v) :: es), List.map_cons, List.flatten_cons, ← flat_eq, List.set_append_right _ _ (by omega), List.set_append_left _ _ (by omega), show off + i - (flat pre).length = i by omega]
  have hlen : off + i < (flat (pre ++ (m, xs) :: es)).length := by rw [hfl]; simp only [List.length_append]; omega
  have hst := run_storeCells_at P g (off + i) T' [v] 0 (flat (pre ++ (m, xs) :: es)).toArray w hb.1 (by simp; omega) (fun u hu => by rw [List.mem_singleton.1 hu]; exact h1)
  simp only [Nat.add_zero, List.toList_toArray, List.length_singleton] at hst
  have e := List.set_eq_take_append_cons_drop (l := flat (pre ++ (m, xs) :: es)) (i := off + i) (a := v)
  rw [if_pos hlen] at e
  rw [List.append_assoc, List.singleton_append, ← e, ← hfl'] at hst
  have : (execOp ρ.eval ⟨d, .store T a x, ty, pos, af, gd⟩).run P w = .ok .skip (w.setRow g (flat (pre ++ (m, xs.set i v) :: es)).toArray) := by
    simp [execOp, hf.eval ha, hf.eval hx, Instr.storeAt, Instr.sureAddr, Sem.run_bind, storeVar, hT.run_sizeOf, cells_one h1, hst]
  unfold DoesW
  rw [this]
  have hg : ownFp [bx g T' (pre ++ (m, xs) :: es)] g := ⟨_, List.mem_singleton.2 rfl, rfl, rfl⟩
  refine ⟨_, rfl, .one (Mod.setRow hg _ _) ⟨setRow_heap w g _ _ T' (0, 0) hb.1, ?_, ?_⟩ fun g' hg' => .inr (by rw [show g' = g from hg']; exact hg)⟩
  · refine chOk_append.2 ⟨(chOk_append.1 hk).1, fun c hc => ?_⟩
    rcases List.mem_cons.1 hc with rfl | hc
    · have := hk _ (List.mem_append_right _ (List.mem_cons_self ..)); simpa using this
    · exact hk _ (List.mem_append_right _ (List.mem_cons_of_mem _ hc))
  · intro u hu
    rw [hfl'] at hu
    rcases List.mem_or_eq_of_mem_set hu with hu | rfl
    · exact hb.2.one u hu
    · exact h1

/-- A store into a row of one's own. -/
theorem OpT.storeE {T e : TypeId} {i m : Nat} {xs : List Value} {a x : Operand} {s v : Value} {Γf : List Asn} [hT : TyI P T false 1] (ha : evF F a = some (.pointer (some (ela s i)))) (hx : evF F x = some v) (hp : Takes Γ [rowN e 1 s m xs] Γf) (h1 : v.oneCell' = true) (hi : i < xs.length) :
    OpT P n Γ F ⟨d, .store T a x, ty, pos, af, gd⟩ [rowN e 1 s m xs] (RLeave [rowN e 1 s m (xs.set i v)]) := fun ρ w hf hw _ => by
  have hb : (rowN e 1 s m xs).holds w := hw _ (hp.mem_iff.2 (List.mem_cons_self ..))
  obtain ⟨h2, h3⟩ := hb
  have hm : m ≠ 0 := by rintro rfl; simp at h2; subst h2; simp at hi
  rcases h3 with ⟨_, h0⟩ | ⟨g, cap, cur, rfl, hB, hg, hnc, hcm, hcs, ht⟩
  · exact absurd h0 hm
  have hlt : i < cur.size := by rw [hcs]; have : xs.length = m * 1 := h2; omega
  have hst := run_storeCells_at P g i e [v] 0 cur w hg (by simp; omega) (fun u hu => by rw [List.mem_singleton.1 hu]; exact h1)
  simp only [Nat.add_zero, List.length_singleton] at hst
  have e1 := List.set_eq_take_append_cons_drop (l := cur.toList) (i := i) (a := v)
  rw [if_pos (by simpa using hlt)] at e1
  rw [List.append_assoc, List.singleton_append, ← e1] at hst
  have : (execOp ρ.eval ⟨d, .store T a x, ty, pos, af, gd⟩).run P w = .ok .skip (w.setRow g (cur.toList.set i v).toArray) := by
    simp [execOp, hf.eval ha, hf.eval hx, Instr.storeAt, Instr.sureAddr, Sem.run_bind, storeVar, hT.run_sizeOf, cells_one h1, ela, add_mk, hst]
  unfold DoesW
  rw [this]
  have hg' : ownFp [rowN e 1 (.slice (some ⟨g, 0, none⟩) m cap) m xs] g := ⟨_, List.mem_singleton.2 rfl, rfl, rfl⟩
  refine ⟨_, rfl, .one (Mod.setRow hg' _ _) ⟨by simpa using h2, .inr ⟨g, cap, _, rfl, hB, setRow_heap w g _ _ e (0, 0) hg, hnc, hcm, by simpa using hcs, ?_⟩⟩ fun k hk => .inr (by cases hk; exact hg')⟩
  rw [← ht]
  simp [List.take_set]
theorem OpT.storeEB {T : TypeId} {i : Nat} {l : List UInt8} {a x : Operand} {s : Value} {c : Int} {b : UInt8} {Γf : List Asn} [hT : TyI P T false 1] (ha : evF F a = some (.pointer (some (ela s i)))) (hx : evF F x = some (.int .u8 c)) (hp : Takes Γ [ob s l] Γf) (hi : i < l.length) (hc : c = ((b.toNat : Nat) : Int)) :
    OpT P n Γ F ⟨d, .store T a x, ty, pos, af, gd⟩ [ob s l] (RLeave [ob s (l.set i b)]) := by
  subst hc
  have := OpT.storeE (P := P) (n := n) (d := d) (ty := ty) (pos := pos) (af := af) (gd := gd) (T := T) ha hx hp rfl (by rw [u8s_length]; exact hi)
  rw [u8s_set] at this
  unfold ob
  rw [List.length_set]
  exact this

/-! ### Rows that are made -/

/-- Values of single cells, as the state tells. -/
def OneL (Γ : List Asn) : List Value → Prop
  | [] => True
  | v :: vs => (∀ w, Holds Γ w → v.oneCell' = true) ∧ OneL Γ vs
theorem OneL.nil : OneL Γ [] := trivial
theorem OneL.lit {v : Value} {vs : List Value} (h : v.oneCell' = true) (k : OneL Γ vs) : OneL Γ (v :: vs) := ⟨fun _ _ => h, k⟩
theorem OneL.has {v : Value} {m : Nat} {xs vs : List Value} (h : HasS Γ v m xs) (k : OneL Γ vs) : OneL Γ (v :: vs) := ⟨h.one, k⟩
theorem OneL.all : ∀ {vs : List Value}, OneL Γ vs → ∀ {w : World}, Holds Γ w → ∀ v, v ∈ vs → v.oneCell' = true
  | u :: vs, h, w, hw, v, hv => by
    rcases List.mem_cons.1 hv with rfl | hv
    · exact h.1 w hw
    · exact h.2.all hw v hv
theorem OneL.lits : ∀ {vs : List Value}, (∀ v, v ∈ vs → v.oneCell' = true) → OneL Γ vs
  | [], _ => trivial
  | v :: vs, h => ⟨fun _ _ => h v (List.mem_cons_self ..), OneL.lits fun u hu => h u (List.mem_cons_of_mem _ hu)⟩

def evPs (F : List (Nat × Value)) : Nat → List (Nat × Operand) → List Value → Prop
  | _, [], [] => True
  | i, (j, x) :: ps, v :: vs => Nat.beq i j = true ∧ evF F x = some v ∧ evPs F (i + 1) ps vs
  | _, _, _ => False

theorem evPs.nil {F : List (Nat × Value)} {i : Nat} : evPs F i [] [] := trivial
theorem evPs.cons {F : List (Nat × Value)} {i j : Nat} {x : Operand} {ps : List (Nat × Operand)} {v : Value} {vs : List Value} (h1 : Nat.beq i j = true) (h2 : evF F x = some v) (k : evPs F (i + 1) ps vs) : evPs F i ((j, x) :: ps) (v :: vs) := ⟨h1, h2, k⟩
theorem fill_row {a : Act} (hf : Fr n F a) : ∀ (ps : List (Nat × Operand)) (vs : List Value) (i : Nat) (pre : List Value) (rest : List Value), evPs F i ps vs → (∀ v, v ∈ vs → v.oneCell' = true) → pre.length = i → rest.length = vs.length →
    Instr.fill (fun i => some (i, 1)) (pre ++ rest).toArray (ps.map fun q => (q.1, a.eval q.2)) = some (pre ++ vs).toArray
  | [], [], i, pre, rest, _, _, _, hr => by
    have : rest = [] := List.length_eq_zero_iff.1 hr
    subst this
    simp [Instr.fill]
  | (j, x) :: ps, v :: vs, i, pre, rest, h, hone, hp, hr => by
    obtain ⟨h1, h2, h4⟩ := h
    have hj := beq_true h1
    subst hj
    cases rest with
    | nil => simp at hr
    | cons r rest =>
      have hc := cells_one (hone v (List.mem_cons_self ..))
      simp only [List.map_cons, hf.eval h2, Instr.fill, hc]
      have : ¬ ((#[v] : Array Value).size ≠ 1 || decide (i + (#[v] : Array Value).size > (pre ++ r :: rest).toArray.size)) = true := by simp; omega
      rw [if_neg this]
      have e : ((#[v] : Array Value).zipIdx.foldl (fun cs (c, j) => cs.setIfInBounds (i + j) c) (pre ++ r :: rest).toArray) = ((pre ++ [v]) ++ rest).toArray := by
        simp [← hp, List.set_append_right]
      rw [e, fill_row hf ps vs (i + 1) (pre ++ [v]) rest h4 (fun u hu => hone u (List.mem_cons_of_mem _ hu)) (by simp [hp]) (by simpa using hr)]
      simp
  | [], _ :: _, _, _, _, h, _, _, _ => h.elim
  | _ :: _, [], _, _, _, h, _, _, _ => h.elim

class EltI (P : Program) (e : TypeId) (z : outParam Value) (bytes : outParam Nat) : Prop where
  info : (P.info? e).map (fun i => (i.zero, i.size, i.bytes)) = some (some z, 1, bytes)
  one : z.cells.size = 1

theorem OpT.buildSlice {T e : TypeId} {z : Value} {bytes : Nat} [hT : SliI P T e] [he : EltI P e z bytes] {ps : List (Nat × Operand)} {vs : List Value} {m : Nat} (h : evPs F 0 ps vs) (h1 : OneL Γ vs) (hm : vs.length = m) (hsm : Nat.ble m 16777216 = true) :
    OpT P n Γ F ⟨d, .buildSlice T m ps.toArray, ty, pos, af, gd⟩ [] (RRow e 1 m vs) := fun ρ w hf hw _ => by
  obtain ⟨i0, hi, hz0, hz1, hz2⟩ := info_parts he.info
  have hsm' : m ≤ 16777216 := by simpa using hsm
  have hsz : (sizeOf e).run P w = .ok 1 w := by simp [sizeOf, typeInfo, hi, hz1]
  have hz : (zeroValue e).run P w = .ok z w := by simp [zeroValue, typeInfo, hi, hz0]
  have hrun : (Instr.buildSlice T m (ps.toArray.map fun (i, x) => (i, ρ.eval x))).run P w = .ok (.slice (some ⟨w.heap.size, 0, none⟩) m m) (w.alloc (.cells vs.toArray e)) := by
    have hfill : ∀ c : Array Value, c.size = m → Instr.fill (fun i => some (i, 1)) c (ps.map fun x => (x.1, ρ.eval x.2)) = some vs.toArray := by
      intro c hc
      have := fill_row hf ps vs 0 [] c.toList h (h1.all hw) rfl (by simp [hc, hm])
      simpa using this
    unfold Instr.buildSlice
    simp only [Sem.run_bind, run_underlying hT.und, Result.andThen_ok, hsz, Nat.mul_one, Sem.run_ite]
    rw [if_neg (by omega)]
    have hlist : (ps.toArray.map fun (i, x) => (i, ρ.eval x)).toList = ps.map fun x => (x.1, ρ.eval x.2) := by simp
    by_cases h0 : m = 0
    · subst h0
      simp only [if_true, Sem.run_pure, Result.andThen_ok, hlist]
      rw [hfill _ (by simp)]
      simp [newRow, newObj, Sem.run]
    · simp only [h0, if_false, Sem.run_bind, hz, Result.andThen_ok, Sem.run_pure, hlist]
      rw [hfill _ (by simp)]
      simp [newRow, newObj, Sem.run]
  have : (execOp ρ.eval ⟨d, .buildSlice T m ps.toArray, ty, pos, af, gd⟩).run P w = .ok (.value (.slice (some ⟨w.heap.size, 0, none⟩) m m)) (w.alloc (.cells vs.toArray e)) := by
    simp only [execOp, Sem.run_bind, hrun, Result.andThen_ok, Sem.run_pure]
  unfold DoesW
  rw [this]
  refine ⟨_, ⟨rfl, rfl⟩, .one (Mod.alloc _ _ _) ⟨by simp [hm], .inr ⟨w.heap.size, m, vs.toArray, rfl, Nat.zero_le _, alloc_new _ _, Nat.le_refl _, by unfold maxLen; omega, by simp [hm], ?_⟩⟩ fun g hg => .inl ?_⟩
  · simp [List.take_of_length_le, hm]
  · cases hg; exact Nat.le_refl _

/-! ### append -/

theorem OpT.append {T e : TypeId} {z : Value} {bytes : Nat} [hT : SliI P T e] [he : EltI P e z bytes] {s x : Operand} {v v2 : Value} {m m2 : Nat} {xs ys : List Value} {Γf : List Asn} (hs : evF F s = some v) (hx : evF F x = some v2) (hp : Takes Γ [rowN e 1 v m xs] Γf) (h2 : HasS Γ v2 m2 ys) (hm2 : ys.length = m2) (h1 : ∀ u, u ∈ ys → u.oneCell' = true) (h63 : m + m2 ≤ 1099511627776) (hby : bytes ≤ 128) :
    OpT P n Γ F ⟨d, .call { callee := .builtin .append, args := #[s, x], argTypes := #[T, T] }, ty, pos, af, gd⟩ [rowN e 1 v m xs] (RRow e 1 (m + m2) (xs ++ ys)) := fun ρ w hf hw _ => by
  have hb : (rowN e 1 v m xs).holds w := hw _ (hp.mem_iff.2 (List.mem_cons_self ..))
  obtain ⟨i0, hi, hz0, hz1, hz2⟩ := info_parts he.info
  obtain ⟨a, cap, hv2, g1, g2, g3, g4⟩ := (h2 w hw).at
  have key : ∃ v' w', (Builtin.append_ #[T, T] ty #[v, v2]).run P w = .ok v' w' ∧ w'.ownsRow 0 e 1 v' (m + m2) (xs ++ ys) ∧ w.grownBy w' v.ownBlock ∧ (v'.ownBlock = v.ownBlock ∨ ∀ g, v'.ownBlock = some g → w.heap.size ≤ g) := by
    cases a with
    | none =>
      have hc0 := g3 rfl
      have hm0 : m2 = 0 := by omega
      subst hm0 hc0 hv2
      have hy : ys = [] := List.length_eq_zero_iff.1 hm2
      subst hy
      have := run_append_owned_none (P := P) (w := w) 0 T ty e i0 1 hT.und hi v m xs hb
      exact ⟨v, w, this, by have h := hb; unfold rowN at h; simpa using h, ⟨rfl, rfl, rfl, Nat.le_refl _, fun _ _ _ => rfl⟩, .inl rfl⟩
    | some q =>
      subst hv2
      have hq : ∀ j u, ys[j]? = some u → w.cell? (q.add j) = some u := fun j u hj => by
        obtain ⟨ad, h, hc⟩ := g4 j u hj
        cases h; exact hc
      have hbig : (m + m2) * bytes ≤ 140737488355328 := by
        have : (m + m2) * bytes ≤ 1099511627776 * 128 := Nat.mul_le_mul h63 hby
        omega
      by_cases hm0 : m2 = 0
      · subst hm0
        have hy : ys = [] := List.length_eq_zero_iff.1 hm2
        subst hy
        rcases hb.2 with ⟨hv, h0⟩ | ⟨g, cap', cur, hv, hB, hg, hnc, hcm, hcs, ht⟩
        · obtain ⟨v', w', hrun, h3, h4, h5⟩ := run_append_own (P := P) w 0 T ty e i0 z 1 bytes hT.und hi hz0 hz1 hz2 he.one (by decide) v m xs hb q 0 cap [] rfl hq (by simp) (by unfold maxLen; omega) hbig (Nat.zero_le _)
          exact ⟨v', w', hrun, h3, h4, .inl (by rw [h5.2 ⟨hv, rfl⟩, hv])⟩
        · subst hv
          have hl : xs.length = m * 1 := hb.1
          have hfit : m * i0.size + ([] : List Value).length ≤ cur.size := by rw [hz1, hcs]; simp; omega
          have hrun := run_append_room (P := P) w T ty e i0 hT.und hi g m cap' cur hg q 0 cap [] (by simp) hq (by simp) hnc hfit
          refine ⟨_, _, hrun, ⟨by simp at hl ⊢; omega, .inr ⟨g, cap', _, rfl, Nat.zero_le _, setRow_heap w g cur _ e _ hg, hnc, hcm, ?_, ?_⟩⟩, ⟨rfl, rfl, rfl, by simp, fun k _ hk => setRow_other w g k _ (fun e => hk (by simp [Value.ownBlock, e]))⟩, .inl rfl⟩
          · simp only [List.size_toArray, List.length_append, List.length_take, List.length_drop, Array.length_toList, List.length_nil, hz1]
            omega
          · rw [hz1, ht]
            have : (m + 0) * 1 = (xs ++ []).length := by simp at hl ⊢; omega
            rw [this]
            exact List.take_left
      · obtain ⟨g, cap', w', hrun, h3, h4, h5, _⟩ := run_append_lies (P := P) w T ty 0 e i0 z 1 bytes hT.und hi hz0 hz1 hz2 he.one (by decide) v m xs hb q m2 cap ys (by omega) hq h1 (by omega) (by unfold maxLen; omega) hbig (Nat.zero_le _) w.heap.size rfl
        refine ⟨_, w', hrun, h3, h4, ?_⟩
        rcases h5 with h5 | h5
        · exact .inl h5.symm
        · exact .inr fun g' hg' => by cases hg'; exact Nat.le_of_eq h5.symm
  obtain ⟨v', w', hrun, h3, h4, h5⟩ := key
  have : (execOp ρ.eval ⟨d, .call { callee := .builtin .append, args := #[s, x], argTypes := #[T, T] }, ty, pos, af, gd⟩).run P w = .ok (.value v') w' := by
    simp only [execOp, resolve, invoke, builtin, Sem.run_bind, Sem.run_pure, Result.andThen_ok, List.map_toArray, List.map_cons, List.map_nil, hf.eval hs, hf.eval hx, hrun]
  unfold DoesW
  rw [this]
  have hone : v'.oneCell' = true := by
    rcases h3.2 with ⟨rfl, _⟩ | ⟨g, c, cu, rfl, _⟩ <;> rfl
  refine ⟨_, ⟨hone, rfl⟩, .one ⟨h4.os, h4.tape, h4.output, h4.size, h4.size, fun g hg hn => h4.block g hg fun hh => hn ⟨_, List.mem_singleton.2 rfl, rfl, hh.symm⟩⟩ h3 fun g hg => ?_⟩
  rcases h5 with h5 | h5
  · exact .inr ⟨_, List.mem_singleton.2 rfl, rfl, h5.symm.trans hg⟩
  · exact .inl (h5 g hg)

/-! ### Structs that are built -/

theorem fold_fill (cells : Array Value) (off : Nat) : ∀ (vs : List Value) (i : Nat), off + i + vs.length ≤ cells.size →
    ((vs.zipIdx i).foldl (fun cs (c, j) => cs.setIfInBounds (off + j) c) cells).toList = cells.toList.take (off + i) ++ vs ++ cells.toList.drop (off + i + vs.length)
  | [], i, h => by simp
  | v :: vs, i, h => by
    simp only [List.length_cons] at h
    rw [List.zipIdx_cons, List.foldl_cons]
    have := fold_fill (cells.setIfInBounds (off + i) v) off vs (i + 1) (by simp; omega)
    rw [this]
    have hl : off + i < cells.toList.length := by simp; omega
    apply List.ext_getElem?
    intro j
    simp only [Array.toList_setIfInBounds, List.length_cons]
    simp only [List.getElem?_append, List.length_append, List.length_take, List.length_set, Array.length_toList, List.getElem?_take, List.getElem?_drop, List.getElem?_set, List.length_cons, List.getElem?_cons]
    by_cases h1 : j < off + i
    · rw [if_pos (by omega), if_pos (by omega), if_pos (by omega), if_neg (by omega), if_pos (by omega), if_pos (by omega), if_pos (by omega)]
    · by_cases h2 : j = off + i
      · subst h2
        rw [if_pos (by omega), if_pos (by omega), if_pos (by omega), if_pos rfl, if_pos (by simpa using hl), if_pos (by omega), if_neg (by omega)]
        simp [show off + i - min (off + i) cells.size = 0 by omega]
      · by_cases h3 : j < off + i + 1 + vs.length
        · rw [if_pos (by omega), if_neg (by omega), if_pos (by omega), if_neg (by omega), if_neg (by omega)]
          congr 1
          omega
        · rw [if_neg (by omega), if_neg (by omega), if_neg (by omega)]
          congr 1
          omega

/-- The chunks of a struct that is built of parts. -/
def BuildP (places : List (Nat × Nat)) (F : List (Nat × Value)) : List (Nat × Operand) → Ch → Ch → Prop
  | [], cs, cs' => cs = cs'
  | (i, x) :: ps, cs, cs' => ∃ (off sz : Nat) (new cs1 : Ch) (v : Value), places[i]? = some (off, sz) ∧ evF F x = some v ∧ v.cells = (flat new).toArray ∧ FOk new ∧ total new = sz ∧ upd new cs off sz = some cs1 ∧ BuildP places F ps cs1 cs'
theorem BuildP.nil {places : List (Nat × Nat)} {cs : Ch} : BuildP places F [] cs cs := rfl
/-- A part's cells. -/
def PartV (v : Value) (new : Ch) : Prop := v.cells = (flat new).toArray ∧ FOk new
theorem PartV.agg {new : Ch} (hn : FOk new) : PartV (ag new) new := ⟨rfl, hn⟩
theorem PartV.one {v : Value} (h : v.oneCell' = true) : PartV v [(1, [v])] := ⟨by rw [cells_one h]; rfl, .one1 h .nil⟩
theorem BuildP.cons {places : List (Nat × Nat)} {i off sz : Nat} {x : Operand} {ps : List (Nat × Operand)} {v : Value} {new cs cs1 cs' : Ch} (h1 : places[i]? = some (off, sz)) (hx : evF F x = some v) (hv : PartV v new) (ht : total new = sz) (hu : upd new cs off sz = some cs1) (k : BuildP places F ps cs1 cs') : BuildP places F ((i, x) :: ps) cs cs' :=
  ⟨off, sz, new, cs1, v, h1, hx, hv.1, hv.2, ht, hu, k⟩

theorem fill_build {places : List (Nat × Nat)} {a : Act} (hf : Fr n F a) : ∀ (ps : List (Nat × Operand)) (cs cs' : Ch), BuildP places F ps cs cs' → FOk cs →
    Instr.fill (places.toArray[·]?) (flat cs).toArray (ps.map fun q => (q.1, a.eval q.2)) = some (flat cs').toArray
  | [], cs, cs', h, _ => by cases h; simp [Instr.fill]
  | (i, x) :: ps, cs, cs', h, hk => by
    obtain ⟨off, sz, new, cs1, v, h1, h2, h3, h4, h5, h6, h7⟩ := h
    obtain ⟨u1, u2, u3⟩ := upd_flat h6 hk.len h4 h5
    have hp : places.toArray[i]? = some (off, sz) := by simpa using h1
    have ih := fill_build hf ps cs1 cs' h7 (upd_fok h6 hk h4)
    simp only [List.map_cons, hf.eval h2, Instr.fill, hp, h3]
    have hno : ¬ ((flat new).toArray.size ≠ sz || decide (off + (flat new).toArray.size > (flat cs).toArray.size)) = true := by simp; omega
    rw [if_neg hno]
    have := fold_fill (flat cs).toArray off (flat new) 0 (by simp; omega)
    simp only [Nat.add_zero, u3, List.toList_toArray, u1] at this
    have e : ((flat new).toArray.zipIdx.foldl (fun cs (c, j) => cs.setIfInBounds (off + j) c) (flat cs).toArray) = (flat cs1).toArray := by
      rw [← this]
      simp
    rw [e]
    exact ih

theorem ReadR.build {T : TypeId} {places : List (Nat × Nat)} {ps : List (Nat × Operand)} {cs cs' : Ch} [hT : StrI P T places] [hz : ZeroI P T cs] (h : BuildP places F ps cs cs') :
    ReadR P n Γ F ⟨d, .build T ps.toArray, ty, pos, af, gd⟩ (ag cs') := fun ρ w hf hw => by
  have hb : P.built T (ps.toArray.map fun (i, x) => (i, ρ.eval x)).toList = some (flat cs').toArray := by
    have h1 := hT.str
    have h2 := hz.zero
    unfold Program.built
    cases hi : P.info? T with
    | none => rw [hi] at h2; cases h2
    | some it =>
      cases hu : P.underlying T with
      | none => rw [hu] at h1; cases h1
      | some D =>
        rw [hu] at h1
        rw [hi] at h2
        cases D with
        | struct fs =>
          simp only at h1
          simp only [Option.bind_some] at h2
          cases hzz : it.zero with
          | none => rw [hzz] at h2; cases h2
          | some z =>
            rw [hzz] at h2
            have h3 : z.cells = (flat cs).toArray := by
              have : z.cells.toList = flat cs := by simpa using h2
              rw [← this]
            simp only [hzz, h1, h3]
            have hl : (ps.toArray.map fun (i, x) => (i, ρ.eval x)).toList = ps.map fun x => (x.1, ρ.eval x.2) := by simp
            rw [hl]
            exact fill_build hf ps cs cs' h hz.ok
        | _ => cases h1
  have := run_build (P := P) w T (ps.toArray.map fun (i, x) => (i, ρ.eval x)) _ hb
  simp only [execOp, Sem.run_bind, this, Result.andThen_ok, Sem.run_pure, ag]

/-! ### One operation behind the other -/

/-- The bytes of numbers. -/
def nbs (l : List Int) : List UInt8 := l.map fun e => UInt8.ofNat e.toNat
def evBs (F : List (Nat × Value)) : Nat → List (Nat × Operand) → List Int → Prop
  | _, [], [] => True
  | i, (j, x) :: ps, e :: es => Nat.beq i j = true ∧ evF F x = some (.int .u8 e) ∧ 0 ≤ e ∧ e < 256 ∧ evBs F (i + 1) ps es
  | _, _, _ => False
theorem evBs.nil {i : Nat} : evBs F i [] [] := trivial
theorem evBs.cons {i j : Nat} {x : Operand} {ps : List (Nat × Operand)} {e : Int} {es : List Int} (h1 : Nat.beq i j = true) (h2 : evF F x = some (.int .u8 e)) (h3 : 0 ≤ e) (h4 : e < 256) (k : evBs F (i + 1) ps es) : evBs F i ((j, x) :: ps) (e :: es) := ⟨h1, h2, h3, h4, k⟩
theorem evBs.ps : ∀ {ps : List (Nat × Operand)} {es : List Int} {i : Nat}, evBs F i ps es → evPs F i ps (u8s (nbs es)) ∧ (nbs es).length = ps.length
  | [], [], _, _ => ⟨trivial, rfl⟩
  | (j, x) :: ps, e :: es, i, h => by
    obtain ⟨h1, h2, h3, h4, h5⟩ := h
    have ih := evBs.ps h5
    have e1 : ((UInt8.ofNat e.toNat).toNat : Int) = e := by
      rw [UInt8.toNat_ofNat']; omega
    refine ⟨⟨h1, ?_, ih.1⟩, by have := ih.2; simp only [nbs, List.map_cons, List.length_cons] at this ⊢; omega⟩
    show evF F x = some (.int .u8 ((UInt8.ofNat e.toNat).toNat : Int))
    rw [e1]
    exact h2
  | [], _ :: _, _, h => h.elim
  | _ :: _, [], _, h => h.elim
theorem OpT.buildB {T : TypeId} {bytes : Nat} {z : Value} [hT : SliI P T 5] [he : EltI P 5 z bytes] {ps : List (Nat × Operand)} {es : List Int} {m : Nat} (h : evBs F 0 ps es) (hm : es.length = m) (hsm : Nat.ble m 16777216 = true) :
    OpT P n Γ F ⟨d, .buildSlice T m ps.toArray, ty, pos, af, gd⟩ [] (ROb (nbs es)) := by
  have hl : (nbs es).length = m := by simp [nbs, hm]
  unfold ROb
  rw [hl]
  exact OpT.buildSlice h.ps.1 (OneL.lits (u8s_one _)) (by rw [u8s_length]; exact hl) hsm

/-- append of bytes. -/
theorem OpT.appendB {T : TypeId} {z : Value} {bytes : Nat} [hT : SliI P T 5] [he : EltI P 5 z bytes] {s x : Operand} {v v2 : Value} {l k : List UInt8} {Γf : List Asn} (hs : evF F s = some v) (hx : evF F x = some v2) (hp : Takes Γ [ob v l] Γf) (h2 : HasS Γ v2 k.length (u8s k)) (h63 : l.length + k.length ≤ 1099511627776) (hby : Nat.ble bytes 128 = true) :
    OpT P n Γ F ⟨d, .call { callee := .builtin .append, args := #[s, x], argTypes := #[T, T] }, ty, pos, af, gd⟩ [ob v l] (ROb (l ++ k)) := by
  have := OpT.append (P := P) (n := n) (d := d) (ty := ty) (pos := pos) (af := af) (gd := gd) (T := T) hs hx hp h2 (u8s_length k) (u8s_one k) h63 (Nat.le_of_ble_eq_true hby)
  unfold ROb
  rw [List.length_append, u8s_append]
  exact this

theorem WPl.opT {ops : Array Oper} {os : List Oper} {o : Oper} {Γo Γf : List Asn} {R : Value → List Asn → Prop} (hp : Takes Γ Γo Γf) (hd : dstOk n o.dst = true) (hw : wantG F ops o.guard = some true) (h : OpT P n Γ F o Γo R)
    (k : ∀ v Γ', R v Γ' → WPl P n W S (Γ' ++ Γf) (putF F o.dst v) ops os Q) : WPl P n W S Γ F ops (o :: os) Q := WPl.op hp hd hw h k

/-- It makes a block. -/
theorem WPl.new {ops : Array Oper} {os : List Oper} {o : Oper} {T : TypeId} {cs : Ch} {d : Tmp} (hd : o.dst = some d) (hlt : Nat.blt d n = true) (hw : wantG F ops o.guard = some true) (h : OpT P n Γ F o [] (RNew T cs))
    (k : ∀ g, WPl P n W S (bx g T cs :: Γ) ((d, .pointer (some ⟨g, 0, none⟩)) :: F) ops os Q) : WPl P n W S Γ F ops (o :: os) Q :=
  WPl.op .nil (by rw [hd]; exact hlt) hw h (by rintro v Γ' ⟨g, rfl, rfl⟩; rw [hd]; exact k g)
/-- It turns a block. -/
theorem WPl.turn {ops : Array Oper} {os : List Oper} {o : Oper} {A B : Asn} {Γf : List Asn} (hp : Takes Γ [A] Γf) (hd : o.dst = none) (hw : wantG F ops o.guard = some true) (h : OpT P n Γ F o [A] (RLeave [B]))
    (k : WPl P n W S (B :: Γf) F ops os Q) : WPl P n W S Γ F ops (o :: os) Q :=
  WPl.op hp (by rw [hd]; rfl) hw h (by rintro v Γ' rfl; rw [hd]; exact k)
/-- It makes a row, of some of what there is or new. -/
theorem WPl.row {ops : Array Oper} {os : List Oper} {o : Oper} {Γo Γf : List Asn} {e : TypeId} {sz m : Nat} {xs : List Value} {d : Tmp} (hp : Takes Γ Γo Γf) (hd : o.dst = some d) (hlt : Nat.blt d n = true) (hw : wantG F ops o.guard = some true) (h : OpT P n Γ F o Γo (RRow e sz m xs))
    (k : ∀ v, v.oneCell' = true → WPl P n W S (rowN e sz v m xs :: Γf) ((d, v) :: F) ops os Q) : WPl P n W S Γ F ops (o :: os) Q :=
  WPl.op hp (by rw [hd]; exact hlt) hw h (by rintro v Γ' ⟨h1, rfl⟩; rw [hd]; exact k v h1)

/-- A row of nothing. -/
theorem WPl.nilRow {ops : Array Oper} {os : List Oper} (e : TypeId) (h : WPl P n W S (rowN e 1 (.slice none 0 0) 0 [] :: Γ) F ops os Q) : WPl P n W S Γ F ops os Q := fun a w hf hg =>
  h a w hf ⟨hg.mod, fun A hA => by
      rcases List.mem_cons.1 hA with rfl | hA
      · exact World.ownsRow_nil w 0 e 1
      · exact hg.all A hA,
    List.pairwise_cons.2 ⟨fun B _ _ g hg' _ => (by cases (show (none : Option Nat) = some g from hg')), hg.apart⟩, fun A hA ho g hg' => by
      rcases List.mem_cons.1 hA with rfl | hA
      · exact (by cases (show (none : Option Nat) = some g from hg'))
      · exact hg.mine A hA ho g hg'⟩

/-- A call that gives a known value. -/
theorem WPl.callV {ops : Array Oper} {os : List Oper} {d : Tmp} {f : FuncId} {xs : List Operand} {ts : Array TypeId} {ty : TypeId} {pos : String} {af : Array Edge} {gd : Option (Nat × Bool)} {vs : List Value} {Δ : List Asn} {c : Value}
    (h : Triple P f vs.toArray Δ (RVal c)) (hx : evFs F xs vs) (hΔ : Provs Γ Δ) (hc : isCode P f = true) (hd : Nat.blt d n = true) (hw : wantG F ops gd = some true)
    (k : WPl P n W S Γ ((d, c) :: F) ops os Q) : WPl P n W S Γ F ops (⟨some d, .call { callee := .value (.func f), args := xs.toArray, argTypes := ts }, ty, pos, af, gd⟩ :: os) Q :=
  WPl.call h hx hΔ hc hd hw (by rintro v Γ' ⟨rfl, rfl⟩; exact k)
/-- A call that gives a slice of one's own. -/
theorem WPl.callR {ops : Array Oper} {os : List Oper} {d : Tmp} {f : FuncId} {xs : List Operand} {ts : Array TypeId} {ty : TypeId} {pos : String} {af : Array Edge} {gd : Option (Nat × Bool)} {vs : List Value} {Δ : List Asn} {e : TypeId} {sz m : Nat} {us : List Value}
    (h : Triple P f vs.toArray Δ (RRow e sz m us)) (hx : evFs F xs vs) (hΔ : Provs Γ Δ) (hc : isCode P f = true) (hd : Nat.blt d n = true) (hw : wantG F ops gd = some true)
    (k : ∀ v, v.oneCell' = true → WPl P n W S (rowN e sz v m us :: Γ) ((d, v) :: F) ops os Q) : WPl P n W S Γ F ops (⟨some d, .call { callee := .value (.func f), args := xs.toArray, argTypes := ts }, ty, pos, af, gd⟩ :: os) Q :=
  WPl.call h hx hΔ hc hd hw (by rintro v Γ' ⟨h1, rfl⟩; exact k v h1)

theorem WPl.splitG {ops : Array Oper} {os : List Oper} {op : Op} {e : Tmp} {j : Nat} {b c : Bool} {d : Nat} (hd : (ops[j]?).bind (·.dst) = some d) (h : lkT F d = some (.bool c)) (hlt : Nat.blt e n = true)
    (h1 : c = b → WPl P n W S Γ ((d, .bool b) :: F) ops (⟨some e, op, ty, pos, af, none⟩ :: os) Q) (h2 : c = !b → WPl P n W S Γ ((e, undef) :: (d, .bool (!b)) :: F) ops os Q) : WPl P n W S Γ F ops (⟨some e, op, ty, pos, af, some (j, b)⟩ :: os) Q := by
  intro a w hf hg
  have key : ∀ b', c = b' → Fr n ((d, .bool b') :: F) a := by
    rintro b' rfl
    refine ⟨hf.size, hf.defers, fun t v hv => ?_⟩
    by_cases e : d = t
    · subst e
      rw [lkT_cons_eq] at hv
      cases hv
      exact hf.get _ _ h
    · rw [lkT_cons_ne _ _ e] at hv
      exact hf.get _ _ hv
  by_cases hcb : c = b
  · have hx := h1 hcb a w (key b hcb) hg
    have hw : Region.wanted ⟨some e, op, ty, pos, af, some (j, b)⟩ (yielded ops a.tmps) = true := wanted_of (n := n) (F := F) hf (by simp [wantG, hd, h, hcb])
    unfold wpList at hx ⊢
    rw [if_pos hw]
    rw [if_pos (by simp [Region.wanted])] at hx
    exact hx
  · have hcn : c = !b := by cases c <;> cases b <;> simp_all
    have hx := h2 hcn _ w ((key _ hcn).put (d := some e) hlt undef) hg
    have hw : Region.wanted ⟨some e, op, ty, pos, af, some (j, b)⟩ (yielded ops a.tmps) = false := wanted_of (n := n) (F := F) hf (by simp [wantG, hd, h, hcb])
    unfold wpList
    rw [if_neg (by rw [hw]; decide)]
    exact hx

/-- Fewer slots are known. -/
theorem WPl.slots {ops : Array Oper} {os : List Oper} {F' : List (Nat × Value)} (hF : FrSub F F') (h : WPl P n W S Γ F' ops os Q) : WPl P n W S Γ F ops os Q :=
  fun a w hf hg => h a w (hf.sub hF) hg
theorem WPc.nilRow {c : Code} (e : TypeId) (h : WPc P n W S (rowN e 1 (.slice none 0 0) 0 [] :: Γ) F c Q) : WPc P n W S Γ F c Q := fun a w hf hg =>
  h a w hf ⟨hg.mod, fun A hA => by
      rcases List.mem_cons.1 hA with rfl | hA
      · exact World.ownsRow_nil w 0 e 1
      · exact hg.all A hA,
    List.pairwise_cons.2 ⟨fun B _ _ g hg' _ => (by cases (show (none : Option Nat) = some g from hg')), hg.apart⟩, fun A hA ho g hg' => by
      rcases List.mem_cons.1 hA with rfl | hA
      · exact (by cases (show (none : Option Nat) = some g from hg'))
      · exact hg.mine A hA ho g hg'⟩

/-- Of what a function hands back. -/
theorem ResF.nil : ResF P Γ F [] [] := rfl
theorem ResF.tmp {t : Nat} {v : Value} {rs : List ResultVar} {vs : List Value} (h : lkT F t = some v) (k : ResF P Γ F rs vs) : ResF P Γ F (.tmp t :: rs) (v :: vs) := ⟨h, k⟩
theorem ResF.cellA {p : Nat} {T T' : TypeId} {sz g off : Nat} {cs ds : Ch} {rs : List ResultVar} {vs : List Value} [hT : TyI P T true sz] (h : lkT F p = some (.pointer (some ⟨g, off, none⟩))) (hm : bx g T' cs ∈ Γ) (hs : sel cs off sz = some ds) (k : ResF P Γ F rs vs) : ResF P Γ F (.cell p T :: rs) (ag ds :: vs) :=
  ⟨⟨_, h, fun w hw => run_loadA hs (hw _ hm)⟩, k⟩
theorem ResF.cell1 {p : Nat} {T T' : TypeId} {g off : Nat} {cs : Ch} {v : Value} {rs : List ResultVar} {vs : List Value} [hT : TyI P T false 1] (h : lkT F p = some (.pointer (some ⟨g, off, none⟩))) (hm : bx g T' cs ∈ Γ) (hs : sel cs off 1 = some [(1, [v])]) (k : ResF P Γ F rs vs) : ResF P Γ F (.cell p T :: rs) (v :: vs) :=
  ⟨⟨_, h, fun w hw => run_load1 (by
    have hb := hw _ hm
    rw [bx_cell hb]
    exact sel_cells hs hb.2.len 0 v rfl)⟩, k⟩

theorem WPq.doneV {fn : Func} {rs : List ResultVar} {vs : List Value} {c : Value} {e : Exit} (he : e = .ret ∨ e = .normal) (hr : fn.results = rs.toArray) (h : ResF P Γ F rs vs) (hc : resV vs = c) : WPq n W S Γ F (Done P fn W S (RVal c)) e :=
  WPq.done (Γ' := []) he hr h .nil (fun A hA => by cases hA) ⟨hc, rfl⟩
theorem WPq.doneR {fn : Func} {rs : List ResultVar} {v : Value} {e : TypeId} {sz m : Nat} {us : List Value} {Γx : List Asn} {ex : Exit} (he : ex = .ret ∨ ex = .normal) (hr : fn.results = rs.toArray) (h : ResF P Γ F rs [v]) (hp : Take Γ (rowN e sz v m us) Γx) (h1 : v.oneCell' = true) : WPq n W S Γ F (Done P fn W S (RRow e sz m us)) ex :=
  WPq.done (Γ' := [rowN e sz v m us]) he hr h (.cons hp .nil) (fun A hA => by rw [List.mem_singleton.1 hA]; rfl) ⟨h1, rfl⟩
theorem WPq.doneX {fn : Func} {rs : List ResultVar} {vs : List Value} {R : Value → List Asn → Prop} {Γ' Γx : List Asn} {e : Exit} (he : e = .ret ∨ e = .normal) (hr : fn.results = rs.toArray) (h : ResF P Γ F rs vs) (hΓ : Takes Γ Γ' Γx) (hR : R (resV vs) Γ') (ho : ∀ A, A ∈ Γ' → A.own = true) : WPq n W S Γ F (Done P fn W S R) e :=
  WPq.done he hr h hΓ ho hR

/-! ### More reads -/

def isNilS : Value → Bool
  | .slice none _ _ => true
  | _ => false
theorem ReadR.eqNil {T T2 e : TypeId} [hT : SliI P T e] {x : Operand} {v : Value} {m c1 c2 : Nat} {xs : List Value} (hx : evF F x = some v) (h : HasS Γ v m xs) :
    ReadR P n Γ F ⟨d, .binOp .eql T x (.const (.slice none c1 c2)) T2, ty, pos, af, gd⟩ (.bool (isNilS v)) := fun ρ w hf hw => by
  obtain ⟨a, cap, rfl, _⟩ := (h w hw).at
  have h1 := Lib.run_eql_slice_nil (P := P) w T e a m cap c1 c2 hT.und
  have h2 : (eqGuard .eql T x (.const (.slice none c1 c2)) (.slice a m cap) (.slice none c1 c2)).run P w = .ok () w := by simp [eqGuard]
  simp only [execOp, hf.eval hx, Sem.run_bind]
  rw [show ρ.eval (.const (.slice none c1 c2)) = .slice none c1 c2 from rfl, h2, Result.andThen_ok, h1]
  cases a <;> rfl
theorem HasS.nilLen {v : Value} {m : Nat} {xs : List Value} (h : HasS Γ v m xs) (hn : isNilS v = true) : ∀ w, Holds Γ w → m = 0 := fun w hw => by
  obtain ⟨a, cap, rfl, h1, h2, h3, _⟩ := (h w hw).at
  cases a with
  | none => have := h3 rfl; omega
  | some ad => simp [isNilS] at hn

/-- The text of bytes. -/
def strU (l : List UInt8) : ByteArray := strOfNums (l.map fun b => ((b.toNat : Nat) : Int))
theorem ReadR.str {T1 T2 : TypeId} [h1 : SliI P T1 5] {x : Operand} {v : Value} {l : List UInt8} (hu : P.underlying 5 = some (.int .u8)) (h2 : P.underlying T2 = some .string) (hx : evF F x = some v) (h : HasS Γ v l.length (u8s l)) :
    ReadR P n Γ F ⟨d, .convert T1 T2 x, ty, pos, af, gd⟩ (.string (strU l)) := fun ρ w hf hw => by
  have key : (convert T1 T2 v).run P w = .ok (.string (strU l)) w := by
    rcases h w hw with ⟨rfl, h0, _⟩ | ⟨ad, cap, rfl, g1, g2, g3⟩
    · have : l = [] := List.length_eq_zero_iff.1 h0
      subst this
      rw [run_convert_bytes_nil (w := w) (P := P) T1 5 h1.und hu 0 0 T2 h2]
      rfl
    · cases l with
      | nil =>
        rw [List.length_nil, run_convert_bytes_string w T1 T2 5 (some ad) 0 cap h1.und hu h2]
        simp [Conv.bytesToString, loadCells, loadCellsFrom, strU]
        rfl
      | cons b l =>
        have hsp : ad.spot = none := by
          have := g3 0 _ (u8s_get (l := b :: l) (i := 0) (by simp))
          simp only [World.cell?, add_block] at this
          split at this
          · split at this
            · cases this
            · rename_i hs
              simpa [Addr.add] using hs
          · cases this
        obtain ⟨b0, o0, s0⟩ := ad
        cases hsp
        refine run_convert_bytes_arg (P := P) w T1 5 h1.und hu b0 o0 (b :: l).length cap ((b :: l).map fun b => ((b.toNat : Nat) : Int)) (by simp) (fun i hi => ?_) T2 h2
        have := g3 i _ (u8s_get hi)
        rw [add_mk] at this
        rw [this, List.getD_eq_getElem?_getD, List.getD_eq_getElem?_getD, List.getElem?_map, List.getElem?_eq_getElem hi]
        rfl
  simp only [execOp, hf.eval hx, Sem.run_bind, key, Result.andThen_ok, Sem.run_pure]

end
end Go.Proofs.Ytpjfkomicehinaa
