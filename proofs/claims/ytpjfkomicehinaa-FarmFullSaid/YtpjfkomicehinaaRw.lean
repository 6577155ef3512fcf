/- Separation: rows of structs: literals, append. -/
import Derived.Test.YtpjfkomicehinaaPo
namespace Go.Proofs.Ytpjfkomicehinaa
open Go.RowKit
set_option linter.unusedSimpArgs false
set_option linter.unusedVariables false
class EltN (P : Program) (e : TypeId) (sz : outParam Nat) : Prop where
  info : ((P.info? e).bind fun i => i.zero.map fun z => (Nat.beq z.cells.size sz && Nat.beq i.size sz && Nat.ble i.bytes 512 && Nat.blt 0 sz)) = some true
theorem EltN.parts {P : Program} {e : TypeId} {sz : Nat} (h : EltN P e sz) : ∃ i z, P.info? e = some i ∧ i.zero = some z ∧ i.size = sz ∧ z.cells.size = sz ∧ i.bytes ≤ 512 ∧ 0 < sz := by
  have h1 := h.info
  cases hi : P.info? e with
  | none => rw [hi] at h1; cases h1
  | some i =>
    rw [hi] at h1
    simp only [Option.bind_some] at h1
    cases hz : i.zero with
    | none => rw [hz] at h1; cases h1
    | some z =>
      rw [hz] at h1
      simp only [Option.map_some, Option.some.injEq, Bool.and_eq_true] at h1
      obtain ⟨⟨⟨h2, h3⟩, h4⟩, h5⟩ := h1
      exact ⟨i, z, rfl, hz, Nat.eq_of_beq_eq_true h3, Nat.eq_of_beq_eq_true h2, Nat.le_of_ble_eq_true h4, Nat.le_of_ble_eq_true h5⟩
section
variable {P : Program} {n : Nat} {W : World} {S : Nat → Prop} {Γ : List Asn} {F : List (Nat × Value)} {Q : Exit → Act → World → Prop} {ops : Array Oper} {os : List Oper}
variable {d : Option Tmp} {ty : TypeId} {pos : String} {af : Array Edge} {gd : Option (Nat × Bool)}
theorem OpT.appendN {T e : TypeId} {sz : Nat} [hT : SliI P T e] [he : EltN P e sz] {s x : Operand} {v v2 : Value} {m m2 : Nat} {xs ys : List Value} {Γf : List Asn} (hs : evF F s = some v) (hx : evF F x = some v2) (hp : Takes Γ [rowN e sz v m xs] Γf) (h2 : HasS Γ v2 m2 ys) (hm2 : ys.length = m2 * sz) (h1 : ∀ u, u ∈ ys → u.oneCell' = true) (h63 : m + m2 ≤ 68719476736) :
    OpT P n Γ F ⟨d, .call { callee := .builtin .append, args := #[s, x], argTypes := #[T, T] }, ty, pos, af, gd⟩ [rowN e sz v m xs] (RRow e sz (m + m2) (xs ++ ys)) := fun ρ w hf hw _ => by
  have hb : (rowN e sz v m xs).holds w := hw _ (hp.mem_iff.2 (List.mem_cons_self ..))
  obtain ⟨i0, z, hi, hz0, hz1, hzs, hby, hsz⟩ := he.parts
  obtain ⟨a, cap, hv2, g1, g2, g3, g4⟩ := (h2 w hw).at
  have hbig : (m + m2) * i0.bytes ≤ 140737488355328 := by
    have : (m + m2) * i0.bytes ≤ 68719476736 * 512 := Nat.mul_le_mul h63 hby
    omega
  have key : ∃ v' w', (Builtin.append_ #[T, T] ty #[v, v2]).run P w = .ok v' w' ∧ w'.ownsRow 0 e sz v' (m + m2) (xs ++ ys) ∧ w.grownBy w' v.ownBlock ∧ (v'.ownBlock = v.ownBlock ∨ ∀ g, v'.ownBlock = some g → w.heap.size ≤ g) := by
    cases a with
    | none =>
      have hc0 := g3 rfl
      have hm0 : m2 = 0 := by omega
      subst hm0 hc0 hv2
      have hy : ys = [] := List.length_eq_zero_iff.1 (by simpa using hm2)
      subst hy
      have := run_append_owned_none (P := P) (w := w) 0 T ty e i0 sz hT.und hi v m xs hb
      exact ⟨v, w, this, by have h := hb; unfold rowN at h; simpa using h, ⟨rfl, rfl, rfl, Nat.le_refl _, fun _ _ _ => rfl⟩, .inl rfl⟩
    | some q =>
      subst hv2
      have hq : ∀ j u, ys[j]? = some u → w.cell? (q.add j) = some u := fun j u hj => by
        obtain ⟨ad, h, hc⟩ := g4 j u hj
        cases h; exact hc
      by_cases hm0 : m2 = 0
      · subst hm0
        have hy : ys = [] := List.length_eq_zero_iff.1 (by simpa using hm2)
        subst hy
        rcases hb.2 with ⟨hv, h0⟩ | ⟨g, cap', cur, hv, hB, hg, hnc, hcm, hcs, ht⟩
        · obtain ⟨v', w', hrun, h3, h4, h5⟩ := run_append_own (P := P) w 0 T ty e i0 z sz i0.bytes hT.und hi hz0 hz1 rfl hzs hsz v m xs hb q 0 cap [] (by simp) hq (by simp) (by unfold maxLen; omega) hbig (Nat.zero_le _)
          exact ⟨v', w', hrun, h3, h4, .inl (by rw [h5.2 ⟨hv, rfl⟩, hv])⟩
        · subst hv
          have hl : xs.length = m * sz := hb.1
          have hle : m * sz ≤ cap' * sz := Nat.mul_le_mul_right _ hnc
          have hfit : m * i0.size + ([] : List Value).length ≤ cur.size := by rw [hz1, hcs]; simp; omega
          have hrun := run_append_room (P := P) w T ty e i0 hT.und hi g m cap' cur hg q 0 cap [] (by simp) hq (by simp) hnc hfit
          refine ⟨_, _, hrun, ⟨by simp; omega, .inr ⟨g, cap', _, rfl, Nat.zero_le _, setRow_heap w g cur _ e _ hg, hnc, hcm, ?_, ?_⟩⟩, ⟨rfl, rfl, rfl, by simp, fun k _ hk => setRow_other w g k _ (fun e => hk (by simp [Value.ownBlock, e]))⟩, .inl rfl⟩
          · simp only [List.size_toArray, List.length_append, List.length_take, List.length_drop, Array.length_toList, List.length_nil, hz1]
            omega
          · rw [hz1, ht]
            have : (m + 0) * sz = (xs ++ []).length := by simp; omega
            rw [this]
            exact List.take_left
      · obtain ⟨g, cap', w', hrun, h3, h4, h5, _⟩ := run_append_lies (P := P) w T ty 0 e i0 z sz i0.bytes hT.und hi hz0 hz1 rfl hzs hsz v m xs hb q m2 cap ys hm2 hq h1 (by omega) (by unfold maxLen; omega) hbig (Nat.zero_le _) w.heap.size rfl
        refine ⟨_, w', hrun, h3, h4, ?_⟩
        rcases h5 with h5 | h5
        · exact .inl h5.symm
        · exact .inr fun g' hg' => by cases hg'; exact Nat.le_of_eq h5.symm
  obtain ⟨v', w', hrun, h3, h4, h5⟩ := key
  have : (execOp ρ.eval ⟨d, .call { callee := .builtin .append, args := #[s, x], argTypes := #[T, T] }, ty, pos, af, gd⟩).run P w = .ok (.value v') w' := by
    simp only [execOp, resolve, invoke, builtin, Sem.run_bind, Sem.run_pure, Result.andThen_ok, List.map_toArray, List.map_cons, List.map_nil, hf.eval hs, hf.eval hx, hrun]
  unfold DoesW
  rw [this]
  have hone : v'.oneCell' = true := by
    rcases h3.2 with ⟨rfl, _⟩ | ⟨g, c, cu, rfl, _⟩ <;> rfl
  refine ⟨_, ⟨hone, rfl⟩, .one ⟨h4.os, h4.tape, h4.output, h4.size, h4.size, fun g hg hn => h4.block g hg fun hh => hn ⟨_, List.mem_singleton.2 rfl, rfl, hh.symm⟩⟩ h3 fun g hg => ?_⟩
  rcases h5 with h5 | h5
  · exact .inr ⟨_, List.mem_singleton.2 rfl, rfl, h5.symm.trans hg⟩
  · exact .inl (h5 g hg)
/-- A literal of one struct. -/
theorem OpT.buildS1 {T e : TypeId} {sz : Nat} [hT : SliI P T e] [he : EltN P e sz] {x : Operand} {ds : Ch} (hx : evF F x = some (ag ds)) (hk : FOk ds) (ht : total ds = sz) (hsm : Nat.ble sz 16777216 = true) :
    OpT P n Γ F ⟨d, .buildSlice T 1 #[(0, x)], ty, pos, af, gd⟩ [] (RRow e sz 1 (flat ds)) := fun ρ w hf hw _ => by
  obtain ⟨i0, z, hi, hz0, hz1, hzs, hby, hsz⟩ := he.parts
  have hsm' : sz ≤ 16777216 := by simpa using hsm
  have hl : (flat ds).length = sz := by rw [flat_length hk.len, ht]
  have hszr : (sizeOf e).run P w = .ok sz w := by simp [sizeOf, typeInfo, hi, hz1]
  have hz : (zeroValue e).run P w = .ok z w := by simp [zeroValue, typeInfo, hi, hz0]
  have hfill : ∀ c : Array Value, c.size = sz → Instr.fill (fun i => some (i * sz, sz)) c [(0, ag ds)] = some (flat ds).toArray := by
    intro c hc
    have hcell : (ag ds).cells = (flat ds).toArray := by unfold ag; rfl
    simp only [Instr.fill, hcell]
    have : ¬ ((flat ds).toArray.size ≠ sz || decide (0 * sz + (flat ds).toArray.size > c.size)) = true := by simp; omega
    rw [if_neg this]
    have h3 := fold_fill c (0 * sz) (flat ds) 0 (by omega)
    have h4 : ((flat ds).toArray.zipIdx.foldl (fun cs (c, j) => cs.setIfInBounds (0 * sz + j) c) c) = (flat ds).toArray := by
      have h5 : (((flat ds).zipIdx 0).foldl (fun cs (c, j) => cs.setIfInBounds (0 * sz + j) c) c).toList = flat ds := by
        rw [h3, Nat.zero_mul, List.take_zero, List.nil_append, List.drop_of_length_le (by simp; omega), List.append_nil]
      apply Array.toList_inj.1
      rw [List.toList_toArray]
      refine Eq.trans ?_ h5
      simp
    rw [h4]
  have hrun : (Instr.buildSlice T 1 ((#[(0, x)] : Array (Nat × Operand)).map fun (i, x) => (i, ρ.eval x))).run P w = .ok (.slice (some ⟨w.heap.size, 0, none⟩) 1 1) (w.alloc (.cells (flat ds).toArray e)) := by
    unfold Instr.buildSlice
    simp only [Sem.run_bind, run_underlying hT.und, Result.andThen_ok, hszr, Nat.one_mul, Sem.run_ite]
    rw [if_neg (by omega), if_neg (by omega)]
    simp only [hz, Sem.run_bind, Result.andThen_ok, Sem.run_pure]
    have hlist : ((#[(0, x)] : Array (Nat × Operand)).map fun (i, x) => (i, ρ.eval x)).toList = [(0, ag ds)] := by simp [hf.eval hx]
    rw [hlist, hfill _ (by simp)]
    simp [newRow, newObj, Sem.run]
  have : (execOp ρ.eval ⟨d, .buildSlice T 1 #[(0, x)], ty, pos, af, gd⟩).run P w = .ok (.value (.slice (some ⟨w.heap.size, 0, none⟩) 1 1)) (w.alloc (.cells (flat ds).toArray e)) := by
    simp only [execOp, Sem.run_bind, hrun, Result.andThen_ok, Sem.run_pure]
  unfold DoesW
  rw [this]
  refine ⟨_, ⟨rfl, rfl⟩, .one (Mod.alloc _ _ _) ⟨by simp [hl], .inr ⟨w.heap.size, 1, (flat ds).toArray, rfl, Nat.zero_le _, alloc_new _ _, Nat.le_refl _, by unfold maxLen; omega, by simp [hl], ?_⟩⟩ fun g hg => .inl ?_⟩
  · simp [List.take_of_length_le, hl]
  · cases hg; exact Nat.le_refl _
/-- A literal of none. -/
theorem OpT.buildS0 {T e : TypeId} {sz : Nat} [hT : SliI P T e] [he : EltN P e sz] :
    OpT P n Γ F ⟨d, .buildSlice T 0 #[], ty, pos, af, gd⟩ [] (RRow e sz 0 []) := fun ρ w hf hw _ => by
  obtain ⟨i0, z, hi, hz0, hz1, hzs, hby, hsz⟩ := he.parts
  have hszr : (sizeOf e).run P w = .ok sz w := by simp [sizeOf, typeInfo, hi, hz1]
  have hrun : (Instr.buildSlice T 0 ((#[] : Array (Nat × Operand)).map fun (i, x) => (i, ρ.eval x))).run P w = .ok (.slice (some ⟨w.heap.size, 0, none⟩) 0 0) (w.alloc (.cells #[] e)) := by
    unfold Instr.buildSlice
    simp only [Sem.run_bind, run_underlying hT.und, Result.andThen_ok, hszr, Nat.zero_mul, Sem.run_ite]
    rw [if_neg (by omega)]
    simp [newRow, newObj, Sem.run, Instr.fill, show Array.range 0 = #[] from rfl]
  have : (execOp ρ.eval ⟨d, .buildSlice T 0 #[], ty, pos, af, gd⟩).run P w = .ok (.value (.slice (some ⟨w.heap.size, 0, none⟩) 0 0)) (w.alloc (.cells #[] e)) := by
    simp only [execOp, Sem.run_bind, hrun, Result.andThen_ok, Sem.run_pure]
  unfold DoesW
  rw [this]
  refine ⟨_, ⟨rfl, rfl⟩, .one (Mod.alloc _ _ _) ⟨by simp, .inr ⟨w.heap.size, 0, #[], rfl, Nat.zero_le _, alloc_new _ _, Nat.le_refl _, by unfold maxLen; omega, by simp, by simp⟩⟩ fun g hg => .inl ?_⟩
  cases hg; exact Nat.le_refl _
theorem WPl.nilRowN (e : TypeId) (sz : Nat) (h : WPl P n W S (rowN e sz (.slice none 0 0) 0 [] :: Γ) F ops os Q) : WPl P n W S Γ F ops os Q := fun a w hf hg =>
  h a w hf ⟨hg.mod, fun A hA => by
      rcases List.mem_cons.1 hA with rfl | hA
      · exact World.ownsRow_nil w 0 e sz
      · exact hg.all A hA,
    List.pairwise_cons.2 ⟨fun B _ _ g hg' _ => (by cases (show (none : Option Nat) = some g from hg')), hg.apart⟩, fun A hA ho g hg' => by
      rcases List.mem_cons.1 hA with rfl | hA
      · exact (by cases (show (none : Option Nat) = some g from hg'))
      · exact hg.mine A hA ho g hg'⟩
theorem WPc.nilRowN {c : Code} (e : TypeId) (sz : Nat) (h : WPc P n W S (rowN e sz (.slice none 0 0) 0 [] :: Γ) F c Q) : WPc P n W S Γ F c Q := fun a w hf hg =>
  h a w hf ⟨hg.mod, fun A hA => by
      rcases List.mem_cons.1 hA with rfl | hA
      · exact World.ownsRow_nil w 0 e sz
      · exact hg.all A hA,
    List.pairwise_cons.2 ⟨fun B _ _ g hg' _ => (by cases (show (none : Option Nat) = some g from hg')), hg.apart⟩, fun A hA ho g hg' => by
      rcases List.mem_cons.1 hA with rfl | hA
      · exact (by cases (show (none : Option Nat) = some g from hg'))
      · exact hg.mine A hA ho g hg'⟩
/-- append, where what is appended may itself be a row of one's own. -/
theorem WPl.appN {d : Nat} {T e : TypeId} {sz : Nat} [hT : SliI P T e] [he : EltN P e sz] {s x : Operand} {v v2 : Value} {m m2 : Nat} {xs ys : List Value} {Γf : List Asn} (hm2 : ys.length = m2 * sz) (h1 : ∀ u, u ∈ ys → u.oneCell' = true) (h63 : m + m2 ≤ 68719476736) (k : ∀ v, v.oneCell' = true → WPl P n W S (rowN e sz v (m + m2) (xs ++ ys) :: Γf) ((d, v) :: F) ops os Q)
    (hlt : Nat.blt d n = true := by first | rfl | fail) (hw : wantG F ops gd = some true := by first | rfl | fail) (hs : evF F s = some v := by first | rfl | fail) (hx : evF F x = some v2 := by first | rfl | fail) (hp : Take Γ (rowN e sz v m xs) Γf := by first | exact takeA | fail) (h2 : HasS Γ v2 m2 ys := by first | exact hasA | fail) :
    WPl P n W S Γ F ops (⟨some d, .call { callee := .builtin .append, args := #[s, x], argTypes := #[T, T] }, ty, pos, af, gd⟩ :: os) Q := WPl.row (.cons hp .nil) rfl hlt hw (OpT.appendN hs hx (.cons hp .nil) h2 hm2 h1 h63) k
theorem WPl.litS1 {d : Nat} {T e : TypeId} {sz : Nat} [hT : SliI P T e] [he : EltN P e sz] {x : Operand} {ds : Ch} (k : ∀ v, v.oneCell' = true → WPl P n W S (rowN e sz v 1 (flat ds) :: Γ) ((d, v) :: F) ops os Q)
    (hlt : Nat.blt d n = true := by first | rfl | fail) (hw : wantG F ops gd = some true := by first | rfl | fail) (hx : evF F x = some (ag ds) := by first | rfl | fail) (hk : FOk ds := by first | exact fokA | fail) (ht : total ds = sz := by first | rfl | fail) (hsm : Nat.ble sz 16777216 = true := by first | rfl | fail) :
    WPl P n W S Γ F ops (⟨some d, .buildSlice T 1 #[(0, x)], ty, pos, af, gd⟩ :: os) Q := WPl.row .nil rfl hlt hw (OpT.buildS1 hx hk ht hsm) k
theorem WPl.litS0 {d : Nat} {T e : TypeId} {sz : Nat} [hT : SliI P T e] [he : EltN P e sz] (k : ∀ v, v.oneCell' = true → WPl P n W S (rowN e sz v 0 [] :: Γ) ((d, v) :: F) ops os Q)
    (hlt : Nat.blt d n = true := by first | rfl | fail) (hw : wantG F ops gd = some true := by first | rfl | fail) :
    WPl P n W S Γ F ops (⟨some d, .buildSlice T 0 #[], ty, pos, af, gd⟩ :: os) Q := WPl.row .nil rfl hlt hw OpT.buildS0 k
theorem ag_flat {cs ds : Ch} (h : flat cs = flat ds) : ag cs = ag ds := by unfold ag; rw [h]
/-- A struct out of a row, as it is built. -/
theorem ReadR.loadES {T : TypeId} {sz : Nat} [hT : TyI P T true sz] {x : Operand} {s : Value} {i m : Nat} {xs : List Value} {cs : Ch} (hxs : (xs.drop i).take sz = flat cs) (hi : i + sz ≤ xs.length) (hx : evF F x = some (.pointer (some (ela s i)))) (h : HasS Γ s m xs) :
    ReadR P n Γ F ⟨d, .load T x, ty, pos, af, gd⟩ (ag cs) := by
  have h1 := ReadR.loadEA (P := P) (n := n) (d := d) (ty := ty) (pos := pos) (af := af) (gd := gd) (T := T) hx h hi
  rwa [hxs, show ag [(sz, flat cs)] = ag cs from ag_flat (by simp [flat])] at h1
end
theorem rows_drop {α : Type} {c : α → Ch} {sz : Nat} : ∀ {l : List α} {i : Nat} {x : α}, (∀ x, (flat (c x)).length = sz) → l[i]? = some x → ((l.map fun x => flat (c x)).flatten.drop (i * sz)).take sz = flat (c x)
  | [], i, x, _, h => by simp at h
  | y :: l, 0, x, hc, h => by
    simp only [List.getElem?_cons_zero, Option.some.injEq] at h
    subst h
    rw [Nat.zero_mul, List.drop_zero, List.map_cons, List.flatten_cons, List.take_append_of_le_length (by rw [hc]; exact Nat.le_refl _), List.take_of_length_le (by rw [hc]; exact Nat.le_refl _)]
  | y :: l, i + 1, x, hc, h => by
    simp only [List.getElem?_cons_succ] at h
    rw [List.map_cons, List.flatten_cons, Nat.succ_mul, Nat.add_comm, ← List.drop_drop, show (flat (c y) ++ (l.map fun x => flat (c x)).flatten).drop sz = (l.map fun x => flat (c x)).flatten by rw [← hc y, List.drop_left]]
    exact rows_drop hc h
end Go.Proofs.Ytpjfkomicehinaa
