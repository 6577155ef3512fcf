/- Separation: equality of structs and arrays of integers and bools. -/
import Derived.Test.YtpjfkomicehinaaSR
import Derived.Laws.StructEq
namespace Go.Proofs.Ytpjfkomicehinaa
open Go.RowKit
set_option linter.unusedSimpArgs false
set_option linter.unusedVariables false

/-- Cells of given kinds (none: a bool). -/
def Shp : List (Option IntKind) → List Value → Prop
  | [], [] => True
  | none :: ks, v :: vs => (∃ b, v = .bool b) ∧ Shp ks vs
  | some k :: ks, v :: vs => (∃ n, v = .int k n) ∧ Shp ks vs
  | _, _ => False

theorem Shp.append : ∀ {ks ks' : List (Option IntKind)} {vs vs' : List Value}, Shp ks vs → Shp ks' vs' → Shp (ks ++ ks') (vs ++ vs')
  | [], _, [], _, _, h => h
  | none :: _, _, _ :: _, _, h, h' => ⟨h.1, Shp.append h.2 h'⟩
  | some _ :: _, _, _ :: _, _, h, h' => ⟨h.1, Shp.append h.2 h'⟩
  | [], _, _ :: _, _, h, _ => h.elim
  | none :: _, _, [], _, h, _ => h.elim
  | some _ :: _, _, [], _, h, _ => h.elim
theorem Shp.length : ∀ {ks : List (Option IntKind)} {vs : List Value}, Shp ks vs → vs.length = ks.length
  | [], [], _ => rfl
  | none :: _, _ :: _, h => by simp [Shp.length h.2]
  | some _ :: _, _ :: _, h => by simp [Shp.length h.2]
  | [], _ :: _, h => h.elim
  | none :: _, [], h => h.elim
  | some _ :: _, [], h => h.elim
theorem Shp.split : ∀ {ks ks' : List (Option IntKind)} {vs : List Value}, Shp (ks ++ ks') vs → ∃ v1 v2, vs = v1 ++ v2 ∧ Shp ks v1 ∧ Shp ks' v2
  | [], _, vs, h => ⟨[], vs, rfl, trivial, h⟩
  | none :: ks, ks', v :: vs, h => by
    obtain ⟨v1, v2, rfl, h1, h2⟩ := Shp.split h.2
    exact ⟨v :: v1, v2, rfl, ⟨h.1, h1⟩, h2⟩
  | some k :: ks, ks', v :: vs, h => by
    obtain ⟨v1, v2, rfl, h1, h2⟩ := Shp.split h.2
    exact ⟨v :: v1, v2, rfl, ⟨h.1, h1⟩, h2⟩
  | none :: _, _, [], h => h.elim
  | some _ :: _, _, [], h => h.elim

/-- The kinds of a type's cells, where it holds integers and bools alone. -/
def flatT (P : Program) : Nat → TypeId → Option (List (Option IntKind))
  | 0, _ => none
  | fuel + 1, t =>
    match P.underlying t with
    | some .bool => some [none]
    | some (.int k) => some [some k]
    | some (.struct fs) => (fs.toList.foldr (fun f acc => fun off => if f.offset = off then (flatT P fuel f.type).bind fun ks => if P.cellsOf f.type = ks.length then (acc (off + ks.length)).map (ks ++ ·) else none else none) (fun off => if P.cellsOf t = off then some [] else none)) 0
    | some (.array n e) => (flatT P fuel e).bind fun ks => if P.cellsOf e = ks.length ∧ P.cellsOf t = n * ks.length then some (List.replicate n ks).flatten else none
    | _ => none

def veq : Value → Value → Bool
  | .int _ a, .int _ b => a == b
  | .bool a, .bool b => a == b
  | _, _ => false
def eqs : List Value → List Value → Bool
  | [], [] => true
  | a :: L, b :: M => veq a b && eqs L M
  | _, _ => false

theorem eqs_iff : ∀ {ks : List (Option IntKind)} {L M : List Value}, Shp ks L → Shp ks M → (eqs L M = true ↔ L = M)
  | [], [], [], _, _ => by simp [eqs]
  | none :: ks, a :: L, b :: M, h, h' => by
    obtain ⟨⟨x, rfl⟩, h2⟩ := h
    obtain ⟨⟨y, rfl⟩, h2'⟩ := h'
    simp [eqs, veq, eqs_iff h2 h2']
  | some k :: ks, a :: L, b :: M, h, h' => by
    obtain ⟨⟨x, rfl⟩, h2⟩ := h
    obtain ⟨⟨y, rfl⟩, h2'⟩ := h'
    simp [eqs, veq, eqs_iff h2 h2']
  | [], _ :: _, _, h, _ => h.elim
  | [], [], _ :: _, _, h => h.elim
  | none :: _, [], _, h, _ => h.elim
  | none :: _, _ :: _, [], _, h => h.elim
  | some _ :: _, [], _, h, _ => h.elim
  | some _ :: _, _ :: _, [], _, h => h.elim

theorem eqs_append : ∀ {L M L' M' : List Value}, L.length = M.length → eqs (L ++ L') (M ++ M') = (eqs L M && eqs L' M')
  | [], [], _, _, _ => by simp [eqs]
  | a :: L, b :: M, L', M', h => by
    simp only [List.cons_append, eqs, eqs_append (L := L) (M := M) (L' := L') (M' := M') (by simpa using h), Bool.and_assoc]
  | [], _ :: _, _, _, h => by simp at h
  | _ :: _, [], _, _, h => by simp at h

/-- Equality of such a type can be told by its cells. -/
def eqFine (P : Program) : Nat → TypeId → Bool
  | 0, _ => false
  | fuel + 1, t =>
    match P.underlying t with
    | some .bool => true
    | some (.int _) => true
    | some (.struct fs) => !P.stoodInHeld t && fs.toList.all fun f => decide (f.name ≠ "_") && eqFine P fuel f.type
    | some (.array _ e) => eqFine P fuel e
    | _ => false

/-- A type's value of these cells. -/
def valOf (P : Program) (t : TypeId) (L : List Value) : Value :=
  match P.underlying t with
  | some d => if aggB d then .agg L.toArray else L.headD undef
  | none => undef

theorem flatT_desc {P : Program} : ∀ {fuel : Nat} {t : TypeId} {ks : List (Option IntKind)}, flatT P fuel t = some ks → ∃ d, P.underlying t = some d ∧ (aggB d = true ∨ ks.length = 1)
  | 0, _, _, h => (by cases h)
  | fuel + 1, t, ks, h => by
    unfold flatT at h
    cases ht : P.underlying t with
    | none => rw [ht] at h; cases h
    | some d =>
      rw [ht] at h
      refine ⟨d, rfl, ?_⟩
      cases d <;> simp_all [aggB]
      all_goals (subst h; rfl)

theorem run_isAggT {P : Program} {t : TypeId} {d : TypeDesc} (h : P.underlying t = some d) (w : World) : (isAgg t).run P w = .ok (aggB d) w := by
  unfold isAgg
  rw [Sem.run_bind, run_underlying h w]
  cases d <;> rfl

theorem run_sizeOfT {P : Program} {t : TypeId} {d : TypeDesc} (h : P.underlying t = some d) (w : World) : (sizeOf t).run P w = .ok (P.cellsOf t) w := by
  unfold Program.underlying at h
  cases hi : P.info? t with
  | none => rw [hi] at h; cases h
  | some i => simp [sizeOf, typeInfo, Program.cellsOf, hi, Sem.run_bind]

theorem run_part {P : Program} {t : TypeId} {d : TypeDesc} {L : List Value} {off n : Nat} (hu : P.underlying t = some d) (hn : P.cellsOf t = n) (h1 : aggB d = true ∨ n = 1 ∧ off + 1 ≤ L.length) (w : World) :
    (part t L.toArray off).run P w = .ok (valOf P t ((L.drop off).take n)) w := by
  unfold part valOf
  simp only [Sem.run_bind, run_isAggT hu, Result.andThen_ok, hu]
  cases ha : aggB d with
  | true =>
    simp only [if_true, Sem.run_bind, run_sizeOfT hu, Result.andThen_ok, Sem.run_pure, hn]
    simp [List.extract_eq_take_drop, List.take_drop]
  | false =>
    rw [ha] at h1
    obtain ⟨rfl, hl⟩ := h1.resolve_left (by decide)
    have e : L[off]? = some L[off] := List.getElem?_eq_getElem (by omega)
    simp [e, List.take_one, Sem.run_pure]

theorem Shp.cut {k1 k2 : List (Option IntKind)} {vs : List Value} (h : Shp (k1 ++ k2) vs) : Shp k1 (vs.take k1.length) ∧ Shp k2 (vs.drop k1.length) := by
  obtain ⟨v1, v2, rfl, h1, h2⟩ := Shp.split h
  rw [← h1.length, List.take_left, List.drop_left]
  exact ⟨h1, h2⟩

theorem run_eqFields {P : Program} {fuel d tot : Nat} {L M : List Value} (w : World)
    (ih : ∀ t ks L M, flatT P fuel t = some ks → eqFine P fuel t = true → Shp ks L → Shp ks M → (Op.equalIn d t (valOf P t L) (valOf P t M)).run P w = .ok (eqs L M) w) :
    ∀ (fs : List Field) (off : Nat) (ks : List (Option IntKind)),
      (fs.foldr (fun f acc => fun off => if f.offset = off then (flatT P fuel f.type).bind fun ks => if P.cellsOf f.type = ks.length then (acc (off + ks.length)).map (ks ++ ·) else none else none) (fun off => if tot = off then some [] else none)) off = some ks →
      (fs.all fun f => decide (f.name ≠ "_") && eqFine P fuel f.type) = true → Shp ks (L.drop off) → Shp ks (M.drop off) →
      (Op.eqFields d L.toArray M.toArray fs).run P w = .ok (eqs (L.drop off) (M.drop off)) w
  | [], off, ks, h, _, hL, hM => by
    simp only [List.foldr_nil] at h
    split at h
    · cases h
      have h1 := hL.length
      have h2 := hM.length
      rw [List.eq_nil_of_length_eq_zero h1, List.eq_nil_of_length_eq_zero h2]
      simp [Op.eqFields, eqs]
    · cases h
  | f :: fs, off, ks, h, hall, hL, hM => by
    simp only [List.foldr_cons] at h
    split at h
    · rename_i hoff
      cases hk : flatT P fuel f.type with
      | none => rw [hk] at h; cases h
      | some k1 =>
        rw [hk] at h
        simp only [Option.bind_some] at h
        split at h
        · rename_i hc
          rw [Option.map_eq_some_iff] at h
          obtain ⟨k2, h2, rfl⟩ := h
          obtain ⟨l1, l2⟩ := hL.cut
          obtain ⟨m1, m2⟩ := hM.cut
          have hl := hL.length
          have hm := hM.length
          simp only [List.length_append, List.length_drop] at hl hm
          rw [List.drop_drop] at l2 m2
          simp only [List.all_cons, Bool.and_eq_true, decide_eq_true_eq] at hall
          obtain ⟨⟨hn, hf⟩, hrest⟩ := hall
          have r := run_eqFields w ih fs (off + k1.length) k2 h2 hrest l2 m2
          obtain ⟨du, hu, hg⟩ := flatT_desc hk
          have e1 : eqs (L.drop off) (M.drop off) = (eqs ((L.drop off).take k1.length) ((M.drop off).take k1.length) && eqs (L.drop (off + k1.length)) (M.drop (off + k1.length))) := by
            rw [← eqs_append (by rw [l1.length, m1.length]), ← List.drop_drop, ← List.drop_drop, List.take_append_drop, List.take_append_drop]
          unfold Op.eqFields
          rw [if_pos hn]
          have p1 := run_part (L := L) (off := off) hu hc (hg.imp_right fun h => ⟨h, by omega⟩) w
          have p2 := run_part (L := M) (off := off) hu hc (hg.imp_right fun h => ⟨h, by omega⟩) w
          simp only [Sem.run_bind, hoff, p1, p2, Result.andThen_ok, ih _ _ _ _ hk hf l1 m1, Sem.run_ite, Sem.run_pure, r]
          rw [e1]
          cases eqs ((L.drop off).take k1.length) ((M.drop off).take k1.length) <;> simp
        · cases h
    · cases h

/-- The model's test of two arrays, by recursion. -/
def Op.eqRow (d : Nat) (e : TypeId) (n : Nat) (xs ys : Array Value) : List Nat → Sem Bool
  | [] => pure true
  | i :: is => do
    let a ← part e xs (i * n)
    let b ← part e ys (i * n)
    let r ← Go.Op.equalIn d e a b
    if (!r) = true then pure false else Op.eqRow d e n xs ys is

theorem eqs_refl_nil (L M : List Value) (hL : L.length = 0) (hM : M.length = 0) : eqs L M = true := by
  rw [List.eq_nil_of_length_eq_zero hL, List.eq_nil_of_length_eq_zero hM]; rfl

theorem run_equal {P : Program} (w : World) : ∀ (fuel d : Nat) (t : TypeId) (ks : List (Option IntKind)) (L M : List Value), fuel ≤ d → flatT P fuel t = some ks → eqFine P fuel t = true → Shp ks L → Shp ks M →
    (Op.equalIn d t (valOf P t L) (valOf P t M)).run P w = .ok (eqs L M) w
  | 0, _, _, _, _, _, _, h, _, _, _ => (by cases h)
  | fuel + 1, 0, _, _, _, _, hd, _, _, _, _ => by omega
  | fuel + 1, d + 1, t, ks, L, M, hd, h, hf, hL, hM => by
    have ih : ∀ t ks L M, flatT P fuel t = some ks → eqFine P fuel t = true → Shp ks L → Shp ks M → (Op.equalIn d t (valOf P t L) (valOf P t M)).run P w = .ok (eqs L M) w :=
      fun t ks L M h1 h2 h3 h4 => run_equal w fuel d t ks L M (by omega) h1 h2 h3 h4
    unfold flatT at h
    unfold eqFine at hf
    cases ht : P.underlying t with
    | none => rw [ht] at h; cases h
    | some D =>
      rw [ht] at h hf
      simp only [valOf, ht]
      cases D with
      | bool =>
        cases h
        match L, M, hL, hM with
        | [_], [_], hL, hM =>
          obtain ⟨⟨x, rfl⟩, _⟩ := hL
          obtain ⟨⟨y, rfl⟩, _⟩ := hM
          simp [aggB, run_equalIn_bool w d t x y ht, eqs, veq]
      | int k =>
        cases h
        match L, M, hL, hM with
        | [_], [_], hL, hM =>
          obtain ⟨⟨x, rfl⟩, _⟩ := hL
          obtain ⟨⟨y, rfl⟩, _⟩ := hM
          simp [aggB, run_equalIn_int w d t k k x y ht, eqs, veq]
      | struct fs =>
        simp only [Bool.and_eq_true, Bool.not_eq_true'] at hf
        have hfs : P.fieldsOf t = fs := by simp [Program.fieldsOf, ht]
        simp only [aggB, if_true]
        rw [run_equalIn_struct w d t _ _ (by rw [hfs]; exact ht) hf.1, hfs]
        exact run_eqFields (tot := P.cellsOf t) w ih fs.toList 0 ks h hf.2 hL hM
      | array n e =>
        simp only [aggB, if_true]
        simp only at h hf
        cases hk : flatT P fuel e with
        | none => rw [hk] at h; cases h
        | some k1 =>
          rw [hk] at h
          simp only [Option.bind_some] at h
          split at h
          · rename_i hc
            cases h
            obtain ⟨du, hu, hg⟩ := flatT_desc hk
            simp only [Op.equalIn, Sem.run_bind, run_underlying ht, Result.andThen_ok, run_sizeOfT hu, hc.1, Std.Legacy.Range.forIn_eq_forIn_range', Std.Legacy.Range.size, Nat.sub_zero, Nat.add_one_sub_one, Nat.div_one]
            have key : ∀ (m i : Nat), i + m = n → Shp (List.replicate m k1).flatten (L.drop (i * k1.length)) → Shp (List.replicate m k1).flatten (M.drop (i * k1.length)) →
                (Op.eqRow d e k1.length L.toArray M.toArray (List.range' i m)).run P w = .ok (eqs (L.drop (i * k1.length)) (M.drop (i * k1.length))) w := by
              intro m
              induction m with
              | zero =>
                intro i _ h1 h2
                simp only [List.range'_zero, Op.eqRow, Sem.run_pure]
                rw [eqs_refl_nil _ _ h1.length h2.length]
              | succ m ihm =>
                intro i hi h1 h2
                rw [List.replicate_succ, List.flatten_cons] at h1 h2
                obtain ⟨l1, l2⟩ := h1.cut
                obtain ⟨m1, m2⟩ := h2.cut
                have hl := h1.length
                have hm := h2.length
                simp only [List.length_append, List.length_drop] at hl hm
                have hi1 : i * k1.length + k1.length = (i + 1) * k1.length := (Nat.succ_mul i k1.length).symm
                rw [List.drop_drop, hi1] at l2 m2
                have r := ihm (i + 1) (by omega) l2 m2
                have p1 := run_part (L := L) (off := i * k1.length) hu hc.1 (hg.imp_right fun h => ⟨h, by omega⟩) w
                have p2 := run_part (L := M) (off := i * k1.length) hu hc.1 (hg.imp_right fun h => ⟨h, by omega⟩) w
                have e1 : eqs (L.drop (i * k1.length)) (M.drop (i * k1.length)) = (eqs ((L.drop (i * k1.length)).take k1.length) ((M.drop (i * k1.length)).take k1.length) && eqs (L.drop ((i + 1) * k1.length)) (M.drop ((i + 1) * k1.length))) := by
                  rw [← eqs_append (by rw [l1.length, m1.length]), ← hi1, ← List.drop_drop, ← List.drop_drop, List.take_append_drop, List.take_append_drop]
                simp only [List.range'_succ, Op.eqRow, Sem.run_bind, p1, p2, Result.andThen_ok, ih _ _ _ _ hk hf l1 m1, Sem.run_ite, Sem.run_pure, r]
                rw [e1]
                cases eqs ((L.drop (i * k1.length)).take k1.length) ((M.drop (i * k1.length)).take k1.length) <;> simp
            have k0 := key n 0 (by omega) (by simpa using hL) (by simpa using hM)
            simp only [Nat.zero_mul, List.drop_zero] at k0
            rw [← k0]
            clear k0 key hL hM ih
            generalize List.range' 0 n = is
            induction is generalizing w with
            | nil => simp [Op.eqRow]
            | cons i is ihi =>
              simp only [List.forIn_cons, Op.eqRow, Sem.run_bind, Sem.run_ite]
              generalize (part e L.toArray (i * k1.length)).run P w = r1
              cases r1 with
              | ok a w1 =>
                simp only [Result.andThen_ok]
                generalize (part e M.toArray (i * k1.length)).run P w1 = r2
                cases r2 with
                | ok b w2 =>
                  simp only [Result.andThen_ok]
                  generalize (Go.Op.equalIn d e a b).run P w2 = r3
                  cases r3 with
                  | ok r w3 =>
                    cases r
                    · simp only [Result.andThen_ok, Bool.not_false, if_true, Sem.run_pure]
                    · simp only [Result.andThen_ok, Bool.not_true, Bool.false_eq_true, if_false, Sem.run_pure]
                      exact ihi w3
                  | halt x w3 => simp [Result.andThen]
                | halt x w2 => simp [Result.andThen]
              | halt x w1 => simp [Result.andThen]
          · cases h
      | _ => cases h

/-- Such a type: its cells, equality, the test ahead of it. -/
structure EqTy (P : Program) (t : TypeId) (ks : List (Option IntKind)) : Prop where
  agg : ∃ d, P.underlying t = some d ∧ aggB d = true
  flat : flatT P 8 t = some ks
  fine : eqFine P 8 t = true
  guard : P.eqGuardType P.depth t = false

theorem EqTy.val {P : Program} {t : TypeId} {ks : List (Option IntKind)} (h : EqTy P t ks) (L : List Value) : valOf P t L = .agg L.toArray := by
  obtain ⟨d, h1, h2⟩ := h.agg
  simp [valOf, h1, h2]

theorem EqTy.eql {P : Program} {t : TypeId} {ks : List (Option IntKind)} (h : EqTy P t ks) {L M : List Value} (hL : Shp ks L) (hM : Shp ks M) (w : World) :
    (binOp .eql t (.agg L.toArray) (.agg M.toArray)).run P w = .ok (.bool (eqs L M)) w := by
  rw [run_eql_struct, ← h.val, ← h.val, run_equal w 8 10000 t ks L M (by decide) h.flat h.fine hL hM]
  rfl
theorem EqTy.neq {P : Program} {t : TypeId} {ks : List (Option IntKind)} (h : EqTy P t ks) {L M : List Value} (hL : Shp ks L) (hM : Shp ks M) (w : World) :
    (binOp .neq t (.agg L.toArray) (.agg M.toArray)).run P w = .ok (.bool (!eqs L M)) w := by
  rw [run_neq_struct, ← h.val, ← h.val, run_equal w 8 10000 t ks L M (by decide) h.flat h.fine hL hM]
  rfl

theorem EqTy.run {P : Program} {t : TypeId} {ks : List (Option IntKind)} (h : EqTy P t ks) (op : BinOp) (hop : op = .eql ∨ op = .neq) (x y : Operand) {L M : List Value} (hL : Shp ks L) (hM : Shp ks M) (w : World) :
    (do eqGuard op t x y (.agg L.toArray) (.agg M.toArray); binOp op t (.agg L.toArray) (.agg M.toArray) : Sem Value).run P w = .ok (.bool (if op = .eql then eqs L M else !eqs L M)) w := by
  rw [Sem.run_bind, run_eqGuard_agg w op t x y _ _ h.guard, Result.andThen_ok]
  rcases hop with rfl | rfl
  · rw [h.eql hL hM]; rfl
  · rw [h.neq hL hM]; rfl


class EqI (P : Program) (t : TypeId) (ks : outParam (List (Option IntKind))) : Prop where
  ty : EqTy P t ks

/-- The test of two values' chunks. -/
inductive EqC : List (Option IntKind) → Ch → Ch → Bool → Prop
  | nil : EqC [] [] [] true
  | bool {ks : List (Option IntKind)} {cs ds : Ch} {a c b : Bool} (h : EqC ks cs ds b) : EqC (none :: ks) ((1, [.bool a]) :: cs) ((1, [.bool c]) :: ds) ((a == c) && b)
  | int {k : IntKind} {ks : List (Option IntKind)} {cs ds : Ch} {a c : Int} {b : Bool} (h : EqC ks cs ds b) : EqC (some k :: ks) ((1, [.int k a]) :: cs) ((1, [.int k c]) :: ds) (decide (a = c) && b)
  | bytes {n : Nat} {ks ks' : List (Option IntKind)} {cs ds : Ch} {l m : List UInt8} {b : Bool} (hk : ks.take n = List.replicate n (some .u8)) (hd : ks.drop n = ks') (hl : l.length = n) (hm : m.length = n) (h : EqC ks' cs ds b) : EqC ks ((n, u8s l) :: cs) ((n, u8s m) :: ds) (decide (l = m) && b)

theorem flat_cons (c : Nat × List Value) (cs : Ch) : flat (c :: cs) = c.2 ++ flat cs := by rw [flat_eq, flat_eq, List.map_cons, List.flatten_cons]
theorem shp_u8s : ∀ (l : List UInt8), Shp (List.replicate l.length (some .u8)) (u8s l)
  | [] => trivial
  | x :: l => ⟨⟨_, rfl⟩, shp_u8s l⟩
theorem eqs_u8s {l m : List UInt8} (h : l.length = m.length) : eqs (u8s l) (u8s m) = decide (l = m) := by
  have h1 := eqs_iff (shp_u8s l) (h ▸ shp_u8s m)
  rw [u8s_inj] at h1
  rw [Bool.eq_iff_iff, h1]; simp
theorem EqC.run {ks : List (Option IntKind)} {cs ds : Ch} {b : Bool} (h : EqC ks cs ds b) : Shp ks (flat cs) ∧ Shp ks (flat ds) ∧ eqs (flat cs) (flat ds) = b := by
  induction h with
  | nil => exact ⟨trivial, trivial, rfl⟩
  | bool h ih => obtain ⟨h1, h2, h3⟩ := ih; simp only [flat_cons]; exact ⟨⟨⟨_, rfl⟩, h1⟩, ⟨⟨_, rfl⟩, h2⟩, by simp [eqs, veq, h3]⟩
  | int h ih => obtain ⟨h1, h2, h3⟩ := ih; simp only [flat_cons]; exact ⟨⟨⟨_, rfl⟩, h1⟩, ⟨⟨_, rfl⟩, h2⟩, by simp [eqs, veq, h3]; rfl⟩
  | @bytes n ks ks' cs ds l m b hk hd hl hm h ih =>
    obtain ⟨h1, h2, h3⟩ := ih
    simp only [flat_cons]
    have e : ks = List.replicate n (some .u8) ++ ks' := by rw [← hk, ← hd, List.take_append_drop]
    subst hl
    refine ⟨?_, ?_, ?_⟩
    · rw [e]; exact (shp_u8s l).append h1
    · rw [e, ← hm]; exact (shp_u8s m).append h2
    · rw [eqs_append (by simp [u8s_length, hm]), eqs_u8s hm.symm, h3]

theorem BinR.eqlA {P : Program} {T : TypeId} {ks : List (Option IntKind)} {cs ds : Ch} {b : Bool} [hT : EqI P T ks] (h : EqC ks cs ds b) : BinR P .eql T (ag cs) (ag ds) (.bool b) := fun X Y w => by
  obtain ⟨h1, h2, h3⟩ := h.run
  have := hT.ty.run .eql (.inl rfl) X Y h1 h2 w
  rw [← h3]
  simpa [ag] using this
theorem BinR.neqA {P : Program} {T : TypeId} {ks : List (Option IntKind)} {cs ds : Ch} {b : Bool} [hT : EqI P T ks] (h : EqC ks cs ds b) : BinR P .neq T (ag cs) (ag ds) (.bool (!b)) := fun X Y w => by
  obtain ⟨h1, h2, h3⟩ := h.run
  have := hT.ty.run .neq (.inr rfl) X Y h1 h2 w
  rw [← h3]
  simpa [ag] using this

theorem aggTy {P : Program} {t : TypeId} {sz : Nat} [h : TyI P t true sz] : ∃ d, P.underlying t = some d ∧ aggB d = true := by
  have := h.und
  rw [Option.map_eq_some_iff] at this
  exact this

/-- The bytes of a list, as many as told. -/
class LenI (l : List UInt8) (n : outParam Nat) : Prop where
  len : l.length = n

end Go.Proofs.Ytpjfkomicehinaa
