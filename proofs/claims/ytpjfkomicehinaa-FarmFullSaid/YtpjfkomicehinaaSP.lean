/- Separation: the rules of operations. -/
import Derived.Test.YtpjfkomicehinaaSO
namespace Go.Proofs.Ytpjfkomicehinaa
open Go.RowKit
set_option linter.unusedSimpArgs false
set_option linter.unusedVariables false

section
variable {P : Program} {n : Nat} {Γ : List Asn} {F : List (Nat × Value)} {d : Option Tmp} {ty : TypeId} {pos : String} {af : Array Edge} {gd : Option (Nat × Bool)}

/-! ### Operations that only read -/

theorem ReadR.move {x : Operand} {v : Value} (hx : evF F x = some v) : ReadR P n Γ F ⟨d, .move x, ty, pos, af, gd⟩ v := fun ρ w hf hw => by
  simp [execOp, hf.eval hx]
theorem ReadR.assign {x : Operand} {v : Value} (hx : evF F x = some v) : ReadR P n Γ F ⟨d, .assign x, ty, pos, af, gd⟩ v := fun ρ w hf hw => by
  simp [execOp, hf.eval hx]
theorem ReadR.pickT {c a b : Operand} {v : Value} (hc : evF F c = some (.bool true)) (ha : evF F a = some v) : ReadR P n Γ F ⟨d, .pick c a b, ty, pos, af, gd⟩ v := fun ρ w hf hw => by
  simp [execOp, hf.eval hc, hf.eval ha, asBool]
theorem ReadR.pickF {c a b : Operand} {v : Value} (hc : evF F c = some (.bool false)) (hb : evF F b = some v) : ReadR P n Γ F ⟨d, .pick c a b, ty, pos, af, gd⟩ v := fun ρ w hf hw => by
  simp [execOp, hf.eval hc, hf.eval hb, asBool]
theorem ReadR.not {x : Operand} {b : Bool} {T : TypeId} (hx : evF F x = some (.bool b)) : ReadR P n Γ F ⟨d, .unOp .not T x, ty, pos, af, gd⟩ (.bool (!b)) := fun ρ w hf hw => by
  simp [execOp, hf.eval hx, Op.unary]
theorem ReadR.extract {x : Operand} {vs : List Value} {i : Nat} {v : Value} (hx : evF F x = some (.tuple vs.toArray)) (hv : vs[i]? = some v) : ReadR P n Γ F ⟨d, .extract x i, ty, pos, af, gd⟩ v := fun ρ w hf hw => by
  simp [execOp, hf.eval hx, Instr.extract, hv]
theorem ReadR.nilCheck {x : Operand} {a : Addr} (hx : evF F x = some (.pointer (some a))) : ReadR P n Γ F ⟨d, .nilCheck x, ty, pos, af, gd⟩ (.pointer (some a)) := fun ρ w hf hw => by
  simp [execOp, hf.eval hx]

theorem ReadR.len {x : Operand} {T e : TypeId} [hT : SliI P T e] {v : Value} {m : Nat} {xs : List Value} (hx : evF F x = some v) (h : HasS Γ v m xs) :
    ReadR P n Γ F ⟨d, .call { callee := .builtin .len, args := #[x], argTypes := #[T] }, ty, pos, af, gd⟩ (.int .i64 m) := fun ρ w hf hw => by
  obtain ⟨a, cap, rfl, _⟩ := (h w hw).at
  simp [execOp, resolve, invoke, builtin, Builtin.len_, hf.eval hx, run_underlying hT.und, goInt]

theorem ReadR.loadS {T T' : TypeId} [hT : TyI P T false 1] {x : Operand} {g off : Nat} {cs : Ch} {v : Value} (hx : evF F x = some (.pointer (some ⟨g, off, none⟩))) (hm : bx g T' cs ∈ Γ) (hs : sel cs off 1 = some [(1, [v])]) :
    ReadR P n Γ F ⟨d, .load T x, ty, pos, af, gd⟩ v := fun ρ w hf hw => by
  have hb := hw _ hm
  have hc : w.cell? ⟨g, off, none⟩ = some v := by
    rw [bx_cell hb]
    exact sel_cells hs hb.2.len 0 v rfl
  simp [execOp, hf.eval hx, Instr.loadAt, Instr.sureAddr, run_load1 (T := T) hc]
theorem ReadR.loadA {T T' : TypeId} {sz : Nat} [hT : TyI P T true sz] {x : Operand} {g off : Nat} {cs ds : Ch} (hx : evF F x = some (.pointer (some ⟨g, off, none⟩))) (hm : bx g T' cs ∈ Γ) (hs : sel cs off sz = some ds) :
    ReadR P n Γ F ⟨d, .load T x, ty, pos, af, gd⟩ (ag ds) := fun ρ w hf hw => by
  simp [execOp, hf.eval hx, Instr.loadAt, Instr.sureAddr, run_loadA (T := T) hs (hw _ hm)]
/-- The chunk that begins at a place. -/
def chAt : Ch → Nat → Option (Nat × List Value)
  | [], _ => none
  | c :: cs, off => match Nat.beq off 0 with
    | true => some c
    | false => match Nat.ble c.1 off with
      | true => chAt cs (off - c.1)
      | false => none
theorem chAt_spec : ∀ {cs : Ch} {off : Nat} {c : Nat × List Value}, chAt cs off = some c → ∃ pre es, cs = pre ++ (c :: es) ∧ total pre = off
  | [], _, _, h => by cases h
  | c' :: cs, off, c, h => by
    unfold chAt at h
    split at h
    · rename_i hb; cases h; exact ⟨[], cs, rfl, (beq_true hb).symm⟩
    · split at h
      · rename_i hle
        obtain ⟨pre, es, rfl, ht⟩ := chAt_spec h
        refine ⟨c' :: pre, es, rfl, ?_⟩
        have := Nat.le_of_ble_eq_true hle
        simp only [total, ht]; omega
      · cases h
theorem chAt_cell {cs : Ch} {off : Nat} {c : Nat × List Value} (h : chAt cs off = some c) (hk : chOk cs) {i : Nat} {v : Value} (hv : c.2[i]? = some v) : (flat cs)[off + i]? = some v := by
  obtain ⟨pre, es, rfl, ht⟩ := chAt_spec h
  have ha := flat_length (chOk_append.1 hk).1
  have hl := (List.getElem?_eq_some_iff.1 hv).1
  rw [flat_append, List.getElem?_append_right (by omega), show off + i - (flat pre).length = i by omega, flat_eq, List.map_cons, List.flatten_cons, List.getElem?_append_left hl]
  exact hv
theorem ReadR.loadR {T T' : TypeId} [hT : TyI P T false 1] {x : Operand} {g off i m : Nat} {cs : Ch} {xs : List Value} {v : Value} (hx : evF F x = some (.pointer (some ⟨g, off + i, none⟩))) (hm : bx g T' cs ∈ Γ) (hs : chAt cs off = some (m, xs)) (hv : xs[i]? = some v) :
    ReadR P n Γ F ⟨d, .load T x, ty, pos, af, gd⟩ v := fun ρ w hf hw => by
  have hb := hw _ hm
  have hc : w.cell? ⟨g, off + i, none⟩ = some v := by
    rw [bx_cell hb]
    exact chAt_cell hs hb.2.len hv
  simp [execOp, hf.eval hx, Instr.loadAt, Instr.sureAddr, run_load1 (T := T) hc]
theorem ReadR.loadRB {T T' : TypeId} [hT : TyI P T false 1] {x : Operand} {g off i m : Nat} {cs : Ch} {l : List UInt8} (hx : evF F x = some (.pointer (some ⟨g, off + i, none⟩))) (hm : bx g T' cs ∈ Γ) (hs : chAt cs off = some (m, u8s l)) (hi : i < l.length) :
    ReadR P n Γ F ⟨d, .load T x, ty, pos, af, gd⟩ (.int .u8 ((l.getD i 0).toNat : Nat)) := ReadR.loadR hx hm hs (u8s_get hi)
theorem ReadR.loadE {T : TypeId} [hT : TyI P T false 1] {x : Operand} {s : Value} {i m : Nat} {xs : List Value} {v : Value} (hx : evF F x = some (.pointer (some (ela s i)))) (h : HasS Γ s m xs) (hv : xs[i]? = some v) :
    ReadR P n Γ F ⟨d, .load T x, ty, pos, af, gd⟩ v := fun ρ w hf hw => by
  simp [execOp, hf.eval hx, Instr.loadAt, Instr.sureAddr, run_load1 (T := T) (h.cell hv hw)]
theorem ReadR.loadEB {T : TypeId} [hT : TyI P T false 1] {x : Operand} {s : Value} {i : Nat} {l : List UInt8} (hx : evF F x = some (.pointer (some (ela s i)))) (h : HasS Γ s l.length (u8s l)) (hi : i < l.length) :
    ReadR P n Γ F ⟨d, .load T x, ty, pos, af, gd⟩ (.int .u8 ((l.getD i 0).toNat : Nat)) := ReadR.loadE hx h (u8s_get hi)
theorem ela_add (s : Value) (i j : Nat) (h : ∃ a n c, s = .slice (some a) n c) : (ela s i).add j = ela s (i + j) := by
  obtain ⟨a, n, c, rfl⟩ := h
  exact add_add a i j
/-- A struct or an array out of a row. -/
theorem ReadR.loadEA {T : TypeId} {sz : Nat} [hT : TyI P T true sz] {x : Operand} {s : Value} {i m : Nat} {xs : List Value} (hx : evF F x = some (.pointer (some (ela s i)))) (h : HasS Γ s m xs) (hi : i + sz ≤ xs.length) :
    ReadR P n Γ F ⟨d, .load T x, ty, pos, af, gd⟩ (ag [(sz, (xs.drop i).take sz)]) := fun ρ w hf hw => by
  have hlen : ((xs.drop i).take sz).length = sz := by simp; omega
  have hl : (loadCells (ela s i) sz).run P w = .ok ((xs.drop i).take sz).toArray w := by
    have := run_loadCells_list (P := P) w (ela s i) ((xs.drop i).take sz) fun j v hv => by
      obtain ⟨a, cap, hv', h1, h2, h3, h4⟩ := (h w hw).at
      have hj : j < sz := by have := (List.getElem?_eq_some_iff.1 hv).1; omega
      rw [List.getElem?_take, if_pos hj, List.getElem?_drop] at hv
      obtain ⟨ad, rfl, hc⟩ := h4 _ _ hv
      rw [ela_add _ _ _ ⟨_, _, _, hv'⟩, hv']
      exact hc
    rw [hlen] at this
    exact this
  simp [execOp, hf.eval hx, Instr.loadAt, Instr.sureAddr, loadVar, Sem.run_bind, hT.run_isAgg, hT.run_sizeOf, hl, ag, flat]
theorem ReadR.loadEAB {T : TypeId} {sz : Nat} [hT : TyI P T true sz] {x : Operand} {s : Value} {i : Nat} {l : List UInt8} (hx : evF F x = some (.pointer (some (ela s i)))) (h : HasS Γ s l.length (u8s l)) (hi : i + sz ≤ l.length) :
    ReadR P n Γ F ⟨d, .load T x, ty, pos, af, gd⟩ (ag [(sz, u8s ((l.drop i).take sz))]) := by
  have := ReadR.loadEA (P := P) (n := n) (d := d) (ty := ty) (pos := pos) (af := af) (gd := gd) (T := T) hx h (by rw [u8s_length]; exact hi)
  rwa [u8s_drop, u8s_take] at this

theorem ReadR.field {T : TypeId} {k o g off : Nat} [hT : FldI P T k o] {x : Operand} (hx : evF F x = some (.pointer (some ⟨g, off, none⟩))) : ReadR P n Γ F ⟨d, .fieldAddr T x k, ty, pos, af, gd⟩ (.pointer (some ⟨g, off + o, none⟩)) := fun ρ w hf hw => by
  simp [execOp, hf.eval hx, hT.run, add_mk]
theorem ReadR.fieldE {T : TypeId} {k o i : Nat} [hT : FldI P T k o] {x : Operand} {s : Value} {m : Nat} {xs : List Value} (hx : evF F x = some (.pointer (some (ela s i)))) (h : HasS Γ s m xs) (hi : i < xs.length) : ReadR P n Γ F ⟨d, .fieldAddr T x k, ty, pos, af, gd⟩ (.pointer (some (ela s (i + o)))) := fun ρ w hf hw => by
  obtain ⟨a, cap, hv', h1, h2, h3, h4⟩ := (h w hw).at
  obtain ⟨ad, rfl, _⟩ := h4 i _ (List.getElem?_eq_getElem hi)
  simp [execOp, hf.eval hx, hT.run, ela_add _ _ _ ⟨_, _, _, hv'⟩]
/-- The place of an element of a slice. -/
theorem ReadR.indexE {T e : TypeId} {ag : Bool} {sz : Nat} [hT : SliI P T e] [he : TyI P e ag sz] {x ix : Operand} {s : Value} {k : IntKind} {i m : Nat} {xs : List Value} (hx : evF F x = some s) (hi : evF F ix = some (.int k (Int.ofNat i))) (h : HasS Γ s m xs) (hlt : i < m) :
    ReadR P n Γ F ⟨d, .indexAddr T x ix, ty, pos, af, gd⟩ (.pointer (some (ela s (i * sz)))) := fun ρ w hf hw => by
  obtain ⟨a, cap, rfl, h1, h2, h3, h4⟩ := (h w hw).at
  cases a with
  | none => have := h3 rfl; omega
  | some ad =>
    have h5 : ¬ m ≤ i := by omega
    simp [execOp, hf.eval hx, hf.eval hi, Instr.indexAt, run_underlying hT.und, asIntOf, Sem.run_bind, h5, he.run_sizeOf, ela]
theorem ReadR.indexE1 {T e : TypeId} {ag : Bool} [hT : SliI P T e] [he : TyI P e ag 1] {x ix : Operand} {s : Value} {k : IntKind} {i m : Nat} {xs : List Value} (hx : evF F x = some s) (hi : evF F ix = some (.int k (Int.ofNat i))) (h : HasS Γ s m xs) (hlt : i < m) :
    ReadR P n Γ F ⟨d, .indexAddr T x ix, ty, pos, af, gd⟩ (.pointer (some (ela s i))) := by
  have := ReadR.indexE (P := P) (n := n) (d := d) (ty := ty) (pos := pos) (af := af) (gd := gd) (T := T) hx hi h hlt
  rwa [Nat.mul_one] at this
/-- The place of an element of an array. -/
theorem ReadR.indexR {T e : TypeId} {ag : Bool} {m : Nat} [hT : ArrI P T m e] [he : TyI P e ag 1] {x ix : Operand} {g off : Nat} {k : IntKind} {i : Nat} (hx : evF F x = some (.pointer (some ⟨g, off, none⟩))) (hi : evF F ix = some (.int k (Int.ofNat i))) (hlt : i < m) :
    ReadR P n Γ F ⟨d, .indexAddr T x ix, ty, pos, af, gd⟩ (.pointer (some ⟨g, off + i, none⟩)) := fun ρ w hf hw => by
  have h5 : ¬ m ≤ i := by omega
  simp [execOp, hf.eval hx, hf.eval hi, Instr.indexAt, run_underlying hT.und, asIntOf, Instr.sureAddr, Sem.run_bind, h5, he.run_sizeOf, add_mk]

/-- An array behind a slice. -/
theorem ReadR.toArr {T e : TypeId} {m : Nat} [hT : ArrI P T m e] {x : Operand} {s : Value} {k : Nat} {xs : List Value} (hx : evF F x = some s) (h : HasS Γ s k xs) (hle : m ≤ k) (h0 : 0 < k) :
    ReadR P n Γ F ⟨d, .sliceToArrayPointer T x, ty, pos, af, gd⟩ (.pointer (some (ela s 0))) := fun ρ w hf hw => by
  obtain ⟨a, cap, rfl, h1, h2, h3, h4⟩ := (h w hw).at
  cases a with
  | none => have := h3 rfl; omega
  | some ad =>
    have : ¬ k < m := by omega
    simp [execOp, hf.eval hx, Instr.arrayAt, run_underlying hT.und, Sem.run_bind, this, ela, Addr.add]

theorem run_bound {P : Program} {k : IntKind} {i y : Nat} {c : BoundsCode} {w : World} (h : i ≤ y) : (Instr.sliceBound (.int k (Int.ofNat i)) y c).run P w = .ok i w := by
  have : ((i : Nat) : Int) ≤ ((y : Nat) : Int) := by omega
  simp [Instr.sliceBound, asIntOf, Sem.run_bind, this]

theorem ReadR.sliceLH {T e : TypeId} {ag : Bool} {sz : Nat} [hT : SliI P T e] [he : TyI P e ag sz] {x lo hi : Operand} {s : Value} {k1 k2 : IntKind} {i j m : Nat} {xs : List Value} (hx : evF F x = some s) (hl : evF F lo = some (.int k1 (Int.ofNat i))) (hh : evF F hi = some (.int k2 (Int.ofNat j))) (h : HasS Γ s m xs) (h1 : i ≤ j) (h2 : j ≤ m) :
    ReadR P n Γ F ⟨d, .slice T x (some lo) (some hi) none, ty, pos, af, gd⟩ (subv sz s i (j - i)) := fun ρ w hf hw => by
  obtain ⟨a, cap, rfl, g1, g2, g3, g4⟩ := (h w hw).at
  have b1 : ∀ c, (Instr.sliceBound (.int k2 (Int.ofNat j)) cap c).run P w = .ok j w := fun c => run_bound (by omega)
  have b2 : ∀ c, (Instr.sliceBound (.int k1 (Int.ofNat i)) j c).run P w = .ok i w := fun c => run_bound h1
  simp only [execOp, hf.eval hx, hf.eval hl, hf.eval hh, Option.map_some, Option.map_none, Instr.sliceAt, Instr.slice, run_underlying hT.und, Sem.run_bind, Result.andThen_ok, Instr.sliceBounds, Sem.run_pure, if_true, b1, b2, he.run_sizeOf, Option.isSome_none, Bool.false_eq_true, if_false]
  cases a with
  | none =>
    have := g3 rfl
    have hi0 : i = 0 := by omega
    have hj0 : j = 0 := by omega
    have hm0 : m = 0 := by omega
    subst hi0 hj0 hm0
    simp [subv]
  | some ad => simp only [subv]; split <;> simp
theorem ReadR.sliceL {T e : TypeId} {ag : Bool} {sz : Nat} [hT : SliI P T e] [he : TyI P e ag sz] {x lo : Operand} {s : Value} {k1 : IntKind} {i m : Nat} {xs : List Value} (hx : evF F x = some s) (hl : evF F lo = some (.int k1 (Int.ofNat i))) (h : HasS Γ s m xs) (h1 : i ≤ m) :
    ReadR P n Γ F ⟨d, .slice T x (some lo) none none, ty, pos, af, gd⟩ (subv sz s i (m - i)) := fun ρ w hf hw => by
  obtain ⟨a, cap, rfl, g1, g2, g3, g4⟩ := (h w hw).at
  have b2 : ∀ c, (Instr.sliceBound (.int k1 (Int.ofNat i)) m c).run P w = .ok i w := fun c => run_bound h1
  simp only [execOp, hf.eval hx, hf.eval hl, Option.map_some, Option.map_none, Instr.sliceAt, Instr.slice, run_underlying hT.und, Sem.run_bind, Result.andThen_ok, Instr.sliceBounds, Sem.run_pure, if_true, b2, he.run_sizeOf, Option.isSome_none, Bool.false_eq_true, if_false]
  cases a with
  | none =>
    have := g3 rfl
    have hi0 : i = 0 := by omega
    have hm : m = 0 := by omega
    subst hi0 hm
    simp [subv]
  | some ad => simp only [subv]; split <;> simp
theorem ReadR.sliceH {T e : TypeId} {ag : Bool} {sz : Nat} [hT : SliI P T e] [he : TyI P e ag sz] {x hi : Operand} {s : Value} {k2 : IntKind} {j m : Nat} {xs : List Value} (hx : evF F x = some s) (hh : evF F hi = some (.int k2 (Int.ofNat j))) (h : HasS Γ s m xs) (h2 : j ≤ m) :
    ReadR P n Γ F ⟨d, .slice T x none (some hi) none, ty, pos, af, gd⟩ (subv sz s 0 j) := fun ρ w hf hw => by
  obtain ⟨a, cap, rfl, g1, g2, g3, g4⟩ := (h w hw).at
  have b1 : ∀ c, (Instr.sliceBound (.int k2 (Int.ofNat j)) cap c).run P w = .ok j w := fun c => run_bound (by omega)
  simp only [execOp, hf.eval hx, hf.eval hh, Option.map_some, Option.map_none, Instr.sliceAt, Instr.slice, run_underlying hT.und, Sem.run_bind, Result.andThen_ok, Instr.sliceBounds, Sem.run_pure, if_true, b1, he.run_sizeOf, Option.isSome_none, Bool.false_eq_true, if_false]
  cases a with
  | none =>
    have := g3 rfl
    have hj0 : j = 0 := by omega
    have hm0 : m = 0 := by omega
    subst hj0 hm0
    simp [subv]
  | some ad => simp only [subv]; split <;> simp [Addr.add]

/-- A slice of an array in a block, from a place on, up to one, whole. -/
theorem ReadR.arrLH {T e : TypeId} {ag : Bool} {m : Nat} [hT : ArrI P T m e] [he : TyI P e ag 1] {x lo hi : Operand} {g off : Nat} {k1 k2 : IntKind} {i j : Nat} (hx : evF F x = some (.pointer (some ⟨g, off, none⟩))) (hl : evF F lo = some (.int k1 (Int.ofNat i))) (hh : evF F hi = some (.int k2 (Int.ofNat j))) (h1 : i ≤ j) (h2 : j ≤ m) (h3 : i < m) :
    ReadR P n Γ F ⟨d, .slice T x (some lo) (some hi) none, ty, pos, af, gd⟩ (.slice (some ⟨g, off + i, none⟩) (j - i) (m - i)) := fun ρ w hf hw => by
  have b1 : ∀ c, (Instr.sliceBound (.int k2 (Int.ofNat j)) m c).run P w = .ok j w := fun c => run_bound h2
  have b2 : ∀ c, (Instr.sliceBound (.int k1 (Int.ofNat i)) j c).run P w = .ok i w := fun c => run_bound h1
  have hne : ¬ m = i := by omega
  simp only [execOp, hf.eval hx, hf.eval hl, hf.eval hh, Option.map_some, Option.map_none, Instr.sliceAt, Instr.sureAddr, run_underlying hT.und, Sem.run_bind, Result.andThen_ok, Instr.sliceBounds, Sem.run_pure, b1, b2, he.run_sizeOf, Option.isSome_none, Bool.false_eq_true, if_false, hne, Nat.mul_one, add_mk]
theorem ReadR.arrL {T e : TypeId} {ag : Bool} {m : Nat} [hT : ArrI P T m e] [he : TyI P e ag 1] {x lo : Operand} {g off : Nat} {k1 : IntKind} {i : Nat} (hx : evF F x = some (.pointer (some ⟨g, off, none⟩))) (hl : evF F lo = some (.int k1 (Int.ofNat i))) (h3 : i < m) :
    ReadR P n Γ F ⟨d, .slice T x (some lo) none none, ty, pos, af, gd⟩ (.slice (some ⟨g, off + i, none⟩) (m - i) (m - i)) := fun ρ w hf hw => by
  have b2 : ∀ c, (Instr.sliceBound (.int k1 (Int.ofNat i)) m c).run P w = .ok i w := fun c => run_bound (by omega)
  have hne : ¬ m = i := by omega
  simp only [execOp, hf.eval hx, hf.eval hl, Option.map_some, Option.map_none, Instr.sliceAt, Instr.sureAddr, run_underlying hT.und, Sem.run_bind, Result.andThen_ok, Instr.sliceBounds, Sem.run_pure, b2, he.run_sizeOf, Option.isSome_none, Bool.false_eq_true, if_false, hne, Nat.mul_one, add_mk]
theorem ReadR.arrH {T e : TypeId} {ag : Bool} {m : Nat} [hT : ArrI P T m e] [he : TyI P e ag 1] {x hi : Operand} {g off : Nat} {k2 : IntKind} {j : Nat} (hx : evF F x = some (.pointer (some ⟨g, off, none⟩))) (hh : evF F hi = some (.int k2 (Int.ofNat j))) (h2 : j ≤ m) :
    ReadR P n Γ F ⟨d, .slice T x none (some hi) none, ty, pos, af, gd⟩ (.slice (some ⟨g, off + 0, none⟩) j m) := fun ρ w hf hw => by
  have b1 : ∀ c, (Instr.sliceBound (.int k2 (Int.ofNat j)) m c).run P w = .ok j w := fun c => run_bound h2
  simp only [execOp, hf.eval hx, hf.eval hh, Option.map_some, Option.map_none, Instr.sliceAt, Instr.sureAddr, run_underlying hT.und, Sem.run_bind, Result.andThen_ok, Instr.sliceBounds, Sem.run_pure, b1, he.run_sizeOf, Option.isSome_none, Bool.false_eq_true, if_false, Nat.sub_zero, Nat.zero_mul]
  have e : (⟨g, off, none⟩ : Addr).add 0 = ⟨g, off + 0, none⟩ := add_mk g off 0
  split <;> rfl
theorem ReadR.arrAll {T e : TypeId} {ag : Bool} {m : Nat} [hT : ArrI P T m e] [he : TyI P e ag 1] {x : Operand} {g off : Nat} (hx : evF F x = some (.pointer (some ⟨g, off, none⟩))) :
    ReadR P n Γ F ⟨d, .slice T x none none none, ty, pos, af, gd⟩ (.slice (some ⟨g, off + 0, none⟩) m m) := fun ρ w hf hw => by
  simp [execOp, hf.eval hx, Instr.sliceAt, Instr.sureAddr, run_underlying hT.und, Instr.sliceBounds, he.run_sizeOf, add_mk]

/-! ### Numbers -/

def BinR (P : Program) (op : BinOp) (T : TypeId) (a b v : Value) : Prop := ∀ (X Y : Operand) (w : World), (do eqGuard op T X Y a b; binOp op T a b : Sem Value).run P w = .ok v w
theorem ReadR.bin {op : BinOp} {T T2 : TypeId} {x y : Operand} {a b v : Value} (hx : evF F x = some a) (hy : evF F y = some b) (h : BinR P op T a b v) : ReadR P n Γ F ⟨d, .binOp op T x y T2, ty, pos, af, gd⟩ v := fun ρ w hf hw => by
  have := h x y w
  rw [← hf.eval hx, ← hf.eval hy] at this
  simp only [execOp]
  rw [Sem.run_bind, this]
  rfl

variable {T : TypeId} {k : IntKind} {a b : Int}
theorem BinR.lss : BinR P .lss T (.int k a) (.int k b) (.bool (decide (a < b))) := fun X Y w => by simp [eqGuard, binOp, Op.intCmp]
theorem BinR.leq : BinR P .leq T (.int k a) (.int k b) (.bool (decide (a ≤ b))) := fun X Y w => by simp [eqGuard, binOp, Op.intCmp]
theorem BinR.gtr : BinR P .gtr T (.int k a) (.int k b) (.bool (decide (b < a))) := fun X Y w => by simp [eqGuard, binOp, Op.intCmp]
theorem BinR.geq : BinR P .geq T (.int k a) (.int k b) (.bool (decide (b ≤ a))) := fun X Y w => by simp [eqGuard, binOp, Op.intCmp]
theorem BinR.eql : BinR P .eql T (.int k a) (.int k b) (.bool (decide (a = b))) := fun X Y w => by
  simp [eqGuard, binOp, Op.intCmp]; rfl
theorem BinR.neq : BinR P .neq T (.int k a) (.int k b) (.bool (!decide (a = b))) := fun X Y w => by
  simp [eqGuard, binOp, Op.intCmp, bne]; rfl
theorem BinR.addW : BinR P .add T (.int k a) (.int k b) (.int k (k.wrap (a + b))) := fun X Y w => by simp [eqGuard, binOp, Op.intArith]
theorem BinR.subW : BinR P .sub T (.int k a) (.int k b) (.int k (k.wrap (a - b))) := fun X Y w => by simp [eqGuard, binOp, Op.intArith]
theorem BinR.mulW : BinR P .mul T (.int k a) (.int k b) (.int k (k.wrap (a * b))) := fun X Y w => by simp [eqGuard, binOp, Op.intArith]
theorem BinR.of {op : BinOp} {a b v v' : Value} (h : BinR P op T a b v) (e : v = v') : BinR P op T a b v' := e ▸ h
theorem BinR.addI (h1 : -9223372036854775808 ≤ a + b) (h2 : a + b ≤ 9223372036854775807) : BinR P .add T (.int .i64 a) (.int .i64 b) (.int .i64 (a + b)) := BinR.addW.of (by rw [IntKind.wrap_i64, show (a + b + 9223372036854775808) % 18446744073709551616 - 9223372036854775808 = a + b by omega])
theorem BinR.subI (h1 : -9223372036854775808 ≤ a - b) (h2 : a - b ≤ 9223372036854775807) : BinR P .sub T (.int .i64 a) (.int .i64 b) (.int .i64 (a - b)) := BinR.subW.of (by rw [IntKind.wrap_i64, show (a - b + 9223372036854775808) % 18446744073709551616 - 9223372036854775808 = a - b by omega])
theorem BinR.mulI (h1 : -9223372036854775808 ≤ a * b) (h2 : a * b ≤ 9223372036854775807) : BinR P .mul T (.int .i64 a) (.int .i64 b) (.int .i64 (a * b)) := BinR.mulW.of (by
  rw [IntKind.wrap_i64]; generalize a * b = c at *
  rw [show (c + 9223372036854775808) % 18446744073709551616 - 9223372036854775808 = c by omega])
theorem BinR.addU (h1 : 0 ≤ a + b) (h2 : a + b ≤ 18446744073709551615) : BinR P .add T (.int .u64 a) (.int .u64 b) (.int .u64 (a + b)) := BinR.addW.of (by rw [IntKind.wrap_u64, show (a + b) % 18446744073709551616 = a + b by omega])
theorem BinR.subU (h1 : 0 ≤ a - b) (h2 : a - b ≤ 18446744073709551615) : BinR P .sub T (.int .u64 a) (.int .u64 b) (.int .u64 (a - b)) := BinR.subW.of (by rw [IntKind.wrap_u64, show (a - b) % 18446744073709551616 = a - b by omega])

theorem BinR.eqlB {a b : Bool} (hT : P.underlying T = some .bool) : BinR P .eql T (.bool a) (.bool b) (.bool (a == b)) := fun X Y w => by
  rw [Sem.run_bind, show (eqGuard .eql T X Y (.bool a) (.bool b)).run P w = .ok () w by simp [eqGuard], Result.andThen_ok, run_eql_bool w T a b hT]
theorem BinR.neqB {a b : Bool} (hT : P.underlying T = some .bool) : BinR P .neq T (.bool a) (.bool b) (.bool (!(a == b))) := fun X Y w => by
  rw [Sem.run_bind, show (eqGuard .neq T X Y (.bool a) (.bool b)).run P w = .ok () w by simp [eqGuard], Result.andThen_ok, run_neq_bool w T a b hT]
theorem BinR.strE {a b : ByteArray} : BinR P .eql T (.string a) (.string b) (.bool (a.toList == b.toList)) := fun X Y w => by simp [eqGuard, binOp, Op.stringOp]
theorem BinR.strN {a b : ByteArray} : BinR P .neq T (.string a) (.string b) (.bool (!(a.toList == b.toList))) := fun X Y w => by simp [eqGuard, binOp, Op.stringOp, bne]

theorem ReadR.convW {T1 T2 : TypeId} {k1 k2 : IntKind} {x : Operand} {a : Int} [h2 : IntI P T2 k2] (h1 : (P.underlying T1).isSome = true) (hx : evF F x = some (.int k1 a)) : ReadR P n Γ F ⟨d, .convert T1 T2 x, ty, pos, af, gd⟩ (.int k2 (k2.wrap a)) := fun ρ w hf hw => by
  obtain ⟨d1, hd1⟩ := Option.isSome_iff_exists.1 h1
  simp [execOp, hf.eval hx, convert, run_underlying hd1, run_underlying h2.und, Conv.intToInt]
theorem ReadR.conv {T1 T2 : TypeId} {k1 k2 : IntKind} {x : Operand} {a : Int} [h2 : IntI P T2 k2] [h1 : IntI P T1 k1] (hx : evF F x = some (.int k1 a)) (hw : k2.wrap a = a) : ReadR P n Γ F ⟨d, .convert T1 T2 x, ty, pos, af, gd⟩ (.int k2 a) := by
  have := ReadR.convW (P := P) (n := n) (Γ := Γ) (F := F) (d := d) (ty := ty) (pos := pos) (af := af) (gd := gd) (T1 := T1) (T2 := T2) (by rw [h1.und]; rfl) hx
  rwa [hw] at this

end
end Go.Proofs.Ytpjfkomicehinaa
