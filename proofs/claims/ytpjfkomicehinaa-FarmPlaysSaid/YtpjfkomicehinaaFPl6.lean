/- What the row of farmPlays_holds needs: part 6. -/
import Derived.Test.YtpjfkomicehinaaFPl4
import Derived.Lib.AppendZerosOnto
import Derived.Lib.Overlaps
import Derived.Laws.Externs
import Derived.Test.YtpjfkomicehinaaFPl5
/- Rows: their capacity; copy, append and growth within them. -/
namespace Go.Proofs.Ytpjfkomicehinaa
open Go.RowKit
set_option linter.unusedSimpArgs false
set_option linter.unusedVariables false
theorem run_copyN {P : Program} (w : World) (dT sT ty elem : TypeId) (i : TypeInfo) (hu : P.underlying dT = some (.slice elem)) (hi : P.info? elem = some i) (g o dLen dCap : Nat) (a : Addr) (sLen sCap : Nat) (cur : Array Value) (t : TypeId) (cs : List Value)
    (hg : w.heap[g]? = some (.cells cur t (0, 0))) (hn : cs.length = Nat.min sLen dLen * i.size) (hsrc : ∀ j v, cs[j]? = some v → w.cell? (a.add j) = some v) (hfit : o + cs.length ≤ cur.size) (h1 : ∀ v ∈ cs, v.oneCell' = true) :
    (Builtin.copy_ #[dT, sT] ty #[.slice (some ⟨g, o, none⟩) dLen dCap, .slice (some a) sLen sCap]).run P w =
      .ok (goInt (Nat.min sLen dLen)) (w.setRow g (cur.toList.take o ++ cs ++ cur.toList.drop (o + cs.length)).toArray) := by
  have hf := run_firstCells_some (P := P) w i.size (Nat.min sLen dLen) a sLen sCap cs hn hsrc
  have hst := run_storeCells_at P g o t cs 0 cur w hg (by simpa using hfit) h1
  simp only [Nat.add_zero] at hst
  simp [Builtin.copy_, run_underlying hu, Builtin.lenOf, sizeOf, typeInfo, hi, hf, hst]
/-- A row that is not empty, and its room. -/
theorem row_room {Γ : List Asn} {e : TypeId} {sz m : Nat} {v : Value} {xs : List Value} (h : rowN e sz v m xs ∈ Γ) (hm : m ≠ 0) : ∀ w, Holds Γ w → ∃ g cap, v = .slice (some ⟨g, 0, none⟩) m cap ∧ m ≤ cap := fun w hw => by
  rcases (hw _ h).2 with ⟨_, h0⟩ | ⟨g, cap, cur, rfl, hB, hg, hnc, _⟩
  · exact absurd h0 hm
  · exact ⟨g, cap, rfl, hnc⟩
section
variable {P : Program} {n : Nat} {W : World} {S : Nat → Prop} {Γ : List Asn} {F : List (Nat × Value)} {Q : Exit → Act → World → Prop} {ops : Array Oper} {os : List Oper}
variable {d : Option Tmp} {ty : TypeId} {pos : String} {af : Array Edge} {gd : Option (Nat × Bool)}
theorem Good.rowTo {A B : Asn} {Γf : List Asn} {w : World} (ho : A.own = true) (hfp : ∀ g, B.fp g → A.fp g) (hh : A.holds w → B.holds w) (h : Good W S (A :: Γf) w) : Good W S (B :: Γf) w := by
  refine h.conv (fun ha C hC => ?_) (fun ha => ?_) (fun C hC hco g hg => ?_)
  · rcases List.mem_cons.1 hC with rfl | hC
    · exact hh (ha _ (List.mem_cons_self ..))
    · exact ha _ (List.mem_cons_of_mem _ hC)
  · rw [List.pairwise_cons] at ha ⊢
    exact ⟨fun C hC hor g hg => ha.1 C hC (.inl ho) g (hfp g hg), ha.2⟩
  · rcases List.mem_cons.1 hC with rfl | hC
    · exact ⟨A, List.mem_cons_self .., ho, hfp g hg⟩
    · exact ⟨C, List.mem_cons_of_mem _ hC, hco, hg⟩
/-- A row as one that is longer, within its room. -/
theorem WPc.rowUp {e : TypeId} {sz g cap m m' : Nat} {xs : List Value} {Γf : List Asn} {c : Code} (hm : m ≤ m') (hm0 : 0 < m) (hc : m' ≤ cap) (k : ∀ ys, xs.length + ys.length = m' * sz → WPc P n W S (rowN e sz (.slice (some ⟨g, 0, none⟩) m' cap) m' (xs ++ ys) :: Γf) F c Q) (hp : Take Γ (rowN e sz (.slice (some ⟨g, 0, none⟩) m cap) m xs) Γf := by first | exact takeA | fail) : WPc P n W S Γ F c Q := fun a w hf hg => by
  have hg' := hg.perm hp
  have hb : (rowN e sz (.slice (some ⟨g, 0, none⟩) m cap) m xs).holds w := hg'.all _ (List.mem_cons_self ..)
  obtain ⟨h2, h3⟩ := hb
  have hxl : xs.length = m * sz := h2
  rcases h3 with ⟨hv, _⟩ | ⟨g2, cap2, cur, hv, hB, hgg, hnc, hcm, hcs, ht⟩
  · cases hv
  · cases hv
    have e1 : m * sz ≤ m' * sz := Nat.mul_le_mul_right sz hm
    have e2 : m' * sz ≤ cap * sz := Nat.mul_le_mul_right sz hc
    have hl : xs.length + ((cur.toList.drop (m * sz)).take (m' * sz - m * sz)).length = m' * sz := by
      have hcl : cur.toList.length = cap * sz := by rw [Array.length_toList]; exact hcs
      rw [List.length_take, List.length_drop]; omega
    have he : xs ++ (cur.toList.drop (m * sz)).take (m' * sz - m * sz) = cur.toList.take (m' * sz) := by
      conv => rhs; rw [← List.take_append_drop (m * sz) (cur.toList.take (m' * sz))]
      rw [List.take_take, Nat.min_eq_left e1, List.drop_take, ht]
    refine k _ hl a w hf (hg'.rowTo rowN_own (fun g hg => by cases hg; rfl) fun _ => ⟨by rw [List.length_append]; exact hl, .inr ⟨g, cap, cur, rfl, hB, hgg, hc, hcm, hcs, ?_⟩⟩)
    exact he.symm
/-- A row as one that is shorter. -/
theorem row_down {e : TypeId} {sz g cap m m' : Nat} {xs : List Value} {w : World} (hm : m' ≤ m) (hm0 : 0 < m) (h : (rowN e sz (.slice (some ⟨g, 0, none⟩) m cap) m xs).holds w) : (rowN e sz (.slice (some ⟨g, 0, none⟩) m' cap) m' (xs.take (m' * sz))).holds w := by
  obtain ⟨h2, h3⟩ := h
  have hxl : xs.length = m * sz := h2
  have e1 : m' * sz ≤ m * sz := Nat.mul_le_mul_right sz hm
  rcases h3 with ⟨hv, _⟩ | ⟨g2, cap2, cur, hv, hB, hgg, hnc, hcm, hcs, ht⟩
  · cases hv
  · cases hv
    refine ⟨by rw [List.length_take]; omega, .inr ⟨g, cap, cur, rfl, hB, hgg, by omega, hcm, hcs, ?_⟩⟩
    rw [← ht, List.take_take, Nat.min_eq_left e1]
theorem WPq.rowDown {e : TypeId} {sz g cap m : Nat} {xs : List Value} {Γf : List Asn} {ex : Exit} (m' : Nat) (hm : m' ≤ m) (hm0 : 0 < m) (k : WPq n W S (rowN e sz (.slice (some ⟨g, 0, none⟩) m' cap) m' (xs.take (m' * sz)) :: Γf) F Q ex) (hp : Take Γ (rowN e sz (.slice (some ⟨g, 0, none⟩) m cap) m xs) Γf := by first | exact takeA | fail) : WPq n W S Γ F Q ex := fun a w hf hg =>
  k a w hf ((hg.perm hp).rowTo rowN_own (fun g hg => by cases hg; rfl) (row_down hm hm0))
/-- A copy into a row: of what can be read, also of the row itself. -/
theorem OpT.copyN {dT sT e : TypeId} {sz : Nat} [hT : SliI P dT e] [he : EltN P e sz] {x y : Operand} {g cap m k dLen dCap m2 : Nat} {v2 : Value} {xs ys : List Value} {Γf : List Asn} (hx : evF F x = some (.slice (some ⟨g, k * sz, none⟩) dLen dCap)) (hy : evF F y = some v2) (hp : Takes Γ [rowN e sz (.slice (some ⟨g, 0, none⟩) m cap) m xs] Γf) (h2 : HasS Γ v2 m2 ys) (hm2 : ys.length = m2 * sz) (c : Nat) (h1 : ∀ u ∈ ys.take (c * sz), u.oneCell' = true) (hmin : Nat.min m2 dLen = c) (hfit : k + c ≤ m) (hpos : 0 < m2) :
    OpT P n Γ F ⟨d, .call { callee := .builtin .copy, args := #[x, y], argTypes := #[dT, sT] }, ty, pos, af, gd⟩ [rowN e sz (.slice (some ⟨g, 0, none⟩) m cap) m xs] (RLeave [rowN e sz (.slice (some ⟨g, 0, none⟩) m cap) m (xs.take (k * sz) ++ ys.take (c * sz) ++ xs.drop (k * sz + c * sz))]) := fun ρ w hf hw _ => by
  obtain ⟨i0, z, hi, hz0, hz1, hzs, hby, hsz⟩ := he.parts
  have hb : (rowN e sz (.slice (some ⟨g, 0, none⟩) m cap) m xs).holds w := hw _ (hp.mem_iff.2 (List.mem_cons_self ..))
  obtain ⟨a, cap2, hv2, g1, g2, g3, g4⟩ := (h2 w hw).at
  obtain ⟨h2', h3⟩ := hb
  have hxl : xs.length = m * sz := h2'
  have e3 : k * sz + c * sz ≤ m * sz := by rw [← Nat.add_mul]; exact Nat.mul_le_mul_right sz hfit
  rcases h3 with ⟨hv, _⟩ | ⟨g5, cap5, cur, hv, hB, hgg, hnc, hcm, hcs, ht⟩
  · cases hv
  cases hv
  have e2 : m * sz ≤ cap * sz := Nat.mul_le_mul_right sz hnc
  cases a with
  | none =>
    have := g3 rfl
    omega
  | some q =>
    subst hv2
    have hcm2 : c ≤ m2 := by rw [← hmin]; exact Nat.min_le_left _ _
    have e4 : c * sz ≤ m2 * sz := Nat.mul_le_mul_right sz hcm2
    obtain ⟨zs, hzz⟩ : ∃ zs, zs = ys.take (c * sz) := ⟨_, rfl⟩
    have hzl : zs.length = c * sz := by rw [hzz, List.length_take]; omega
    have hz1' : ∀ u ∈ zs, u.oneCell' = true := fun u hu => h1 u (by rw [hzz] at hu; exact hu)
    rw [← hzz]
    have hq : ∀ j u, zs[j]? = some u → w.cell? (q.add j) = some u := fun j u hj => by
      have hjl : j < zs.length := (List.getElem?_eq_some_iff.1 hj).1
      obtain ⟨ad, h, hc⟩ := g4 j u (by rw [hzz, List.getElem?_take_of_lt (by omega)] at hj; exact hj)
      cases h; exact hc
    have hrun := run_copyN (P := P) w dT sT ty e i0 hT.und hi g (k * sz) dLen dCap q m2 cap2 cur e zs hgg (by rw [hmin, hz1]; exact hzl) hq (by omega) hz1'
    have : (execOp ρ.eval ⟨d, .call { callee := .builtin .copy, args := #[x, y], argTypes := #[dT, sT] }, ty, pos, af, gd⟩).run P w = .ok (.value (goInt (Nat.min m2 dLen))) (w.setRow g (cur.toList.take (k * sz) ++ zs ++ cur.toList.drop (k * sz + zs.length)).toArray) := by
      simp only [execOp, resolve, invoke, builtin, Sem.run_bind, Sem.run_pure, Result.andThen_ok, List.map_toArray, List.map_cons, List.map_nil, hf.eval hx, hf.eval hy, hrun]
    unfold DoesW
    rw [this]
    have hg' : ownFp [rowN e sz (.slice (some ⟨g, 0, none⟩) m cap) m xs] g := ⟨_, List.mem_singleton.2 rfl, rfl, rfl⟩
    have hA : (cur.toList.take (k * sz)).length = k * sz := by rw [List.length_take]; simp; omega
    have hX : (xs.take (k * sz)).length = k * sz := by rw [List.length_take]; omega
    have hcl : cur.toList.length = cap * sz := by rw [Array.length_toList]; exact hcs
    rw [← hzl]
    refine ⟨_, rfl, .one (Mod.setRow hg' _ _) ⟨?_, .inr ⟨g, cap, _, rfl, hB, setRow_heap w g _ _ e (0, 0) hgg, hnc, hcm, ?_, ?_⟩⟩ fun k hk => .inr (by cases hk; exact hg')⟩
    · rw [List.length_append, List.length_append, hX, List.length_drop]; omega
    · simp only [List.size_toArray, List.length_append, hA, List.length_drop, hcl]
      omega
    · have e5 : cur.toList.take (k * sz) = xs.take (k * sz) := by rw [← ht, List.take_take]; congr 1; omega
      have e6 : (cur.toList.drop (k * sz + zs.length)).take (m * sz - (k * sz + zs.length)) = xs.drop (k * sz + zs.length) := by rw [← ht, List.drop_take]
      rw [List.toList_toArray, List.append_assoc, List.take_append, List.take_of_length_le (l := cur.toList.take (k * sz)) (by omega), List.take_append, hA, List.take_of_length_le (l := zs) (by omega), e5, List.append_assoc]
      congr 2
      rw [← e6]
      congr 1
      omega
/-- An append into what stands within the row. -/
theorem OpT.appIn {T e : TypeId} {sz : Nat} [hT : SliI P T e] [he : EltN P e sz] {x y : Operand} {g cap m k m2 : Nat} {v2 : Value} {xs ys : List Value} {Γf : List Asn} (hx : evF F x = some (.slice (some ⟨g, 0, none⟩) k cap)) (hy : evF F y = some v2) (hp : Takes Γ [rowN e sz (.slice (some ⟨g, 0, none⟩) m cap) m xs] Γf) (h2 : HasS Γ v2 m2 ys) (hm2 : ys.length = m2 * sz) (h1 : ∀ u ∈ ys, u.oneCell' = true) (hfit : k + m2 ≤ m) (hpos : 0 < m) :
    OpT P n Γ F ⟨d, .call { callee := .builtin .append, args := #[x, y], argTypes := #[T, T] }, ty, pos, af, gd⟩ [rowN e sz (.slice (some ⟨g, 0, none⟩) m cap) m xs] (RTurns (.slice (some ⟨g, 0, none⟩) (k + m2) cap) [rowN e sz (.slice (some ⟨g, 0, none⟩) m cap) m (xs.take (k * sz) ++ ys ++ xs.drop (k * sz + ys.length))]) := fun ρ w hf hw _ => by
  obtain ⟨i0, z, hi, hz0, hz1, hzs, hby, hsz⟩ := he.parts
  have hb : (rowN e sz (.slice (some ⟨g, 0, none⟩) m cap) m xs).holds w := hw _ (hp.mem_iff.2 (List.mem_cons_self ..))
  have hb0 := hb
  obtain ⟨a, cap2, hv2, g1, g2, g3, g4⟩ := (h2 w hw).at
  obtain ⟨h2', h3⟩ := hb
  have hxl : xs.length = m * sz := h2'
  have e3 : k * sz + m2 * sz ≤ m * sz := by rw [← Nat.add_mul]; exact Nat.mul_le_mul_right sz hfit
  rcases h3 with ⟨hv, _⟩ | ⟨g5, cap5, cur, hv, hB, hgg, hnc, hcm, hcs, ht⟩
  · cases hv
  cases hv
  have e2 : m * sz ≤ cap * sz := Nat.mul_le_mul_right sz hnc
  have hg' : ownFp [rowN e sz (.slice (some ⟨g, 0, none⟩) m cap) m xs] g := ⟨_, List.mem_singleton.2 rfl, rfl, rfl⟩
  cases a with
  | none =>
    have hc0 := g3 rfl
    have hm0 : m2 = 0 := by omega
    subst hm0 hc0 hv2
    have hy0 : ys = [] := List.length_eq_zero_iff.1 (by simpa using hm2)
    subst hy0
    have hk : k ≤ cap := by omega
    have hrun : (Builtin.append_ #[T, T] ty #[.slice (some ⟨g, 0, none⟩) k cap, .slice none 0 0]).run P w = .ok (.slice (some ⟨g, 0, none⟩) k cap) w := by
      simp [Builtin.append_, run_underlying hT.und, sizeOf, typeInfo, hi, Builtin.lenOf, hk, Builtin.firstCells, storeCells]
    have : (execOp ρ.eval ⟨d, .call { callee := .builtin .append, args := #[x, y], argTypes := #[T, T] }, ty, pos, af, gd⟩).run P w = .ok (.value (.slice (some ⟨g, 0, none⟩) k cap)) w := by
      simp only [execOp, resolve, invoke, builtin, Sem.run_bind, Sem.run_pure, Result.andThen_ok, List.map_toArray, List.map_cons, List.map_nil, hf.eval hx, hf.eval hy, hrun]
    unfold DoesW
    rw [this]
    have e : xs.take (k * sz) ++ [] ++ xs.drop (k * sz + ([] : List Value).length) = xs := by simp
    rw [e]
    exact ⟨_, ⟨rfl, rfl⟩, .one (Mod.refl _ _) hb0 fun g hg => .inr ⟨_, List.mem_singleton.2 rfl, rfl, hg⟩⟩
  | some q =>
    subst hv2
    have hq : ∀ j u, ys[j]? = some u → w.cell? (q.add j) = some u := fun j u hj => by
      obtain ⟨ad, h, hc⟩ := g4 j u hj
      cases h; exact hc
    have hrun := run_append_room (P := P) w T ty e i0 hT.und hi g k cap cur hgg q m2 cap2 ys (by rw [hz1]; exact hm2) hq h1 (by omega) (by rw [hz1]; omega)
    rw [hz1] at hrun
    have : (execOp ρ.eval ⟨d, .call { callee := .builtin .append, args := #[x, y], argTypes := #[T, T] }, ty, pos, af, gd⟩).run P w = .ok (.value (.slice (some ⟨g, 0, none⟩) (k + m2) cap)) (w.setRow g (cur.toList.take (k * sz) ++ ys ++ cur.toList.drop (k * sz + ys.length)).toArray) := by
      simp only [execOp, resolve, invoke, builtin, Sem.run_bind, Sem.run_pure, Result.andThen_ok, List.map_toArray, List.map_cons, List.map_nil, hf.eval hx, hf.eval hy, hrun]
    unfold DoesW
    rw [this]
    have hA : (cur.toList.take (k * sz)).length = k * sz := by rw [List.length_take]; simp; omega
    have hX : (xs.take (k * sz)).length = k * sz := by rw [List.length_take]; omega
    have hcl : cur.toList.length = cap * sz := by rw [Array.length_toList]; exact hcs
    refine ⟨_, ⟨rfl, rfl⟩, .one (Mod.setRow hg' _ _) ⟨?_, .inr ⟨g, cap, _, rfl, hB, setRow_heap w g _ _ e (0, 0) hgg, hnc, hcm, ?_, ?_⟩⟩ fun k hk => .inr (by cases hk; exact hg')⟩
    · rw [List.length_append, List.length_append, hX, List.length_drop]; omega
    · simp only [List.size_toArray, List.length_append, hA, List.length_drop, hcl]
      omega
    · have e5 : cur.toList.take (k * sz) = xs.take (k * sz) := by rw [← ht, List.take_take]; congr 1; omega
      have e6 : (cur.toList.drop (k * sz + ys.length)).take (m * sz - (k * sz + ys.length)) = xs.drop (k * sz + ys.length) := by rw [← ht, List.drop_take]
      rw [List.toList_toArray, List.append_assoc, List.take_append, List.take_of_length_le (l := cur.toList.take (k * sz)) (by omega), List.take_append, hA, List.take_of_length_le (l := ys) (by omega), e5, List.append_assoc]
      congr 2
      rw [← e6]
      congr 1
      omega
/-- Growth by so many elements of no value. -/
theorem OpT.appZ {T tn e : TypeId} {sz : Nat} [hT : SliI P T e] [he : EltN P e sz] {x y : Operand} {a : Addr} {k cap j : Nat} {ys : List Value} (htn : P.underlying tn = some (.int .i64)) (hx : evF F x = some (.slice (some a) k cap)) (hy : evF F y = some (.int .i64 (j : Int))) (h2 : HasS Γ (.slice (some a) k cap) k ys) (hm2 : ys.length = k * sz) (hj : 0 < j) (hcap : cap < k + j) (hk : k + j ≤ 1000000000) :
    OpT P n Γ F ⟨d, .call { callee := .builtin .append, args := #[x, y], argTypes := #[T, tn] }, ty, pos, af, gd⟩ [] (RRow e sz (k + j) (ys ++ clr P e j)) := fun ρ w hf hw _ => by
  obtain ⟨i0, z, hi, hz0, hz1, hzs, hby, hsz⟩ := he.parts
  have hq : ∀ i u, ys[i]? = some u → w.cell? (a.add i) = some u := fun i u hi' => by
    obtain ⟨a', cap', hv, _, _, _, g4⟩ := (h2 w hw).at
    cases hv
    obtain ⟨ad, h, hc⟩ := g4 i u hi'
    cases h; exact hc
  have hold : (Builtin.firstCells i0.size k (.slice (some a) k cap)).run P w.drew = .ok ys.toArray w.drew := run_firstCells_some (w := w.drew) (P := P) i0.size k a k cap ys (by rw [hz1]; exact hm2) hq
  have hcl : clr P e j = (Builtin.zeroCells z.cells j).toList := by unfold clr; rw [hi]; simp [hz0]
  have hlen : (clr P e j).length = j * sz := by rw [hcl]; simp [Builtin.zeroCells, hzs]
  have hb1 : j * i0.bytes ≤ 1000000000 * 512 := Nat.mul_le_mul (by omega) hby
  have hb2 : (k + j) * i0.bytes ≤ 1000000000 * 512 := Nat.mul_le_mul hk hby
  have hnx := growslice_fits (bytes := i0.bytes) hcap (by omega)
  have hrun := Lib.run_append_grow_zeros (P := P) w T tn ty e i0 z .i64 .i64 hT.und htn hi hz0 (some a) k cap ys hold j hj (by rw [hz1]; exact hsz) hcap (by omega) (by omega) hnx
  have : (execOp ρ.eval ⟨d, .call { callee := .builtin .append, args := #[x, y], argTypes := #[T, tn] }, ty, pos, af, gd⟩).run P w = .ok (.value (.slice (some ⟨w.heap.size, 0, none⟩) (k + j) (grownCap w (k + j) cap e))) (w.drew.alloc (.cells (ys.toArray ++ Builtin.zeroCells z.cells j ++ Builtin.zeroCells z.cells (grownCap w (k + j) cap e - (k + j))) e)) := by
    simp only [execOp, resolve, invoke, builtin, Sem.run_bind, Sem.run_pure, Result.andThen_ok, List.map_toArray, List.map_cons, List.map_nil, hf.eval hx, hf.eval hy, hrun]
  unfold DoesW
  rw [this]
  have hge := grownCap_ge w (k + j) cap e
  have hcm : grownCap w (k + j) cap e ≤ maxLen := grownCap_le_maxLen w (k + j) cap e (by unfold maxLen; omega)
  have h4 : w.grownBy (w.drew.alloc (.cells (ys.toArray ++ Builtin.zeroCells z.cells j ++ Builtin.zeroCells z.cells (grownCap w (k + j) cap e - (k + j))) e)) none := ⟨rfl, rfl, rfl, by simp, fun k hk _ => heap_alloc_old w.drew _ hk⟩
  refine ⟨_, ⟨rfl, rfl⟩, .one ⟨h4.os, h4.tape, h4.output, h4.size, h4.size, fun g hg hn => h4.block g hg (fun hh => by cases hh)⟩ ⟨?_, .inr ⟨w.heap.size, _, _, rfl, Nat.zero_le _, heap_alloc_new w.drew _, hge, hcm, ?_, ?_⟩⟩ fun g hg => .inl (by cases hg; exact Nat.le_refl _)⟩
  · rw [List.length_append, hm2, hlen, Nat.add_mul]
  · simp only [Array.size_append, List.size_toArray, size_zeroCells, hzs, hm2, ← Nat.add_mul]
    congr 1
    omega
  · rw [Array.toList_append, Array.toList_append, List.toList_toArray, ← hcl]
    have : (k + j) * sz = (ys ++ clr P e j).length := by rw [List.length_append, hm2, hlen, Nat.add_mul]
    rw [this]
    exact List.take_left
theorem ReadR.capV {x : Operand} {T : TypeId} {a : Option Addr} {l cap : Nat} (hT : ∃ e, P.underlying T = some (.slice e)) (hx : evF F x = some (.slice a l cap)) : ReadR P n Γ F ⟨d, .call { callee := .builtin .cap, args := #[x], argTypes := #[T] }, ty, pos, af, gd⟩ (.int .i64 (cap : Int)) := fun ρ w hf hw => by
  obtain ⟨e, hT⟩ := hT
  simp [execOp, resolve, invoke, builtin, Builtin.cap_, hf.eval hx, run_underlying hT, goInt]
theorem ReadR.sliceCap {T e : TypeId} {ag : Bool} {sz : Nat} [hT : SliI P T e] [he : TyI P e ag sz] {x hi : Operand} {a : Addr} {l cap j : Nat} {k2 : IntKind} (hx : evF F x = some (.slice (some a) l cap)) (hh : evF F hi = some (.int k2 (Int.ofNat j))) (hj : j ≤ cap) :
    ReadR P n Γ F ⟨d, .slice T x none (some hi) none, ty, pos, af, gd⟩ (.slice (some a) j cap) := fun ρ w hf hw => by
  have b1 : ∀ c, (Instr.sliceBound (.int k2 (Int.ofNat j)) cap c).run P w = .ok j w := fun c => run_bound hj
  simp only [execOp, hf.eval hx, hf.eval hh, Option.map_some, Option.map_none, Instr.sliceAt, Instr.slice, run_underlying hT.und, Sem.run_bind, Result.andThen_ok, Instr.sliceBounds, Sem.run_pure, if_true, b1, he.run_sizeOf, Option.isSome_none, Bool.false_eq_true, if_false]
  split <;> simp [Addr.add]
theorem ReadR.sliceLoV {T e : TypeId} {ag : Bool} {sz : Nat} [hT : SliI P T e] [he : TyI P e ag sz] {x lo : Operand} {g l cap i : Nat} {k1 : IntKind} (hx : evF F x = some (.slice (some ⟨g, 0, none⟩) l cap)) (hl : evF F lo = some (.int k1 (Int.ofNat i))) (hi : i ≤ l) (hc : i < cap) :
    ReadR P n Γ F ⟨d, .slice T x (some lo) none none, ty, pos, af, gd⟩ (.slice (some ⟨g, i * sz, none⟩) (l - i) (cap - i)) := fun ρ w hf hw => by
  have b2 : ∀ c, (Instr.sliceBound (.int k1 (Int.ofNat i)) l c).run P w = .ok i w := fun c => run_bound hi
  have hne : ¬ cap - i = 0 := by omega
  have hne2 : ¬ cap = i := by omega
  have ha : (⟨g, 0, none⟩ : Addr).add (i * sz) = ⟨g, i * sz, none⟩ := by
    unfold Addr.add
    split
    · rename_i h0; rw [h0]
    · simp
  simp only [execOp, hf.eval hx, hf.eval hl, Option.map_some, Option.map_none, Instr.sliceAt, Instr.slice, run_underlying hT.und, Sem.run_bind, Result.andThen_ok, Instr.sliceBounds, Sem.run_pure, if_true, b2, he.run_sizeOf, Option.isSome_none, Bool.false_eq_true, if_false]
  split <;> simp_all
theorem ReadR.sliceLHV {T e : TypeId} {ag : Bool} {sz : Nat} [hT : SliI P T e] [he : TyI P e ag sz] {x lo hi : Operand} {g l cap i j m : Nat} {k1 k2 : IntKind} (hx : evF F x = some (.slice (some ⟨g, 0, none⟩) l cap)) (hl : evF F lo = some (.int k1 (Int.ofNat i))) (hh : evF F hi = some (.int k2 (Int.ofNat j))) (hij : i ≤ j) (hj : j ≤ cap) :
    ReadR P n Γ F ⟨d, .slice T x (some lo) (some hi) none, ty, pos, af, gd⟩ (subv sz (.slice (some ⟨g, 0, none⟩) m cap) i (j - i)) := fun ρ w hf hw => by
  have b1 : ∀ c, (Instr.sliceBound (.int k2 (Int.ofNat j)) cap c).run P w = .ok j w := fun c => run_bound hj
  have b2 : ∀ c, (Instr.sliceBound (.int k1 (Int.ofNat i)) j c).run P w = .ok i w := fun c => run_bound hij
  simp only [execOp, hf.eval hx, hf.eval hl, hf.eval hh, Option.map_some, Option.map_none, Instr.sliceAt, Instr.slice, run_underlying hT.und, Sem.run_bind, Result.andThen_ok, Instr.sliceBounds, Sem.run_pure, if_true, b1, b2, he.run_sizeOf, Option.isSome_none, Bool.false_eq_true, if_false]
  simp only [subv]; split <;> simp
theorem ReadR.slice3V {T e : TypeId} {ag : Bool} {sz : Nat} [hT : SliI P T e] [he : TyI P e ag sz] {x lo hi mx : Operand} {g l cap i j m : Nat} {k1 k2 k3 : IntKind} (hx : evF F x = some (.slice (some ⟨g, 0, none⟩) l cap)) (hl : evF F lo = some (.int k1 (Int.ofNat i))) (hh : evF F hi = some (.int k2 (Int.ofNat j))) (hm : evF F mx = some (.int k3 (Int.ofNat m))) (hij : i ≤ j) (hj : j ≤ m) (hmc : m ≤ cap) :
    ReadR P n Γ F ⟨d, .slice T x (some lo) (some hi) (some mx), ty, pos, af, gd⟩ (.slice (some (if m = i then ⟨g, 0, none⟩ else (⟨g, 0, none⟩ : Addr).add (i * sz))) (j - i) (m - i)) := fun ρ w hf hw => by
  have b0 : ∀ c, (Instr.sliceBound (.int k3 (Int.ofNat m)) cap c).run P w = .ok m w := fun c => run_bound hmc
  have b1 : ∀ c, (Instr.sliceBound (.int k2 (Int.ofNat j)) m c).run P w = .ok j w := fun c => run_bound hj
  have b2 : ∀ c, (Instr.sliceBound (.int k1 (Int.ofNat i)) j c).run P w = .ok i w := fun c => run_bound hij
  simp only [execOp, hf.eval hx, hf.eval hl, hf.eval hh, hf.eval hm, Option.map_some, Option.map_none, Instr.sliceAt, Instr.slice, run_underlying hT.und, Sem.run_bind, Result.andThen_ok, Instr.sliceBounds, Sem.run_pure, if_true, b0, b1, b2, he.run_sizeOf, Option.isSome_some, Option.isSome_none, Bool.false_eq_true, if_false]
  split <;> simp_all
theorem ReadR.lenV {x : Operand} {T : TypeId} {a : Option Addr} {l cap : Nat} (hT : ∃ e, P.underlying T = some (.slice e)) (hx : evF F x = some (.slice a l cap)) : ReadR P n Γ F ⟨d, .call { callee := .builtin .len, args := #[x], argTypes := #[T] }, ty, pos, af, gd⟩ (.int .i64 (l : Int)) := fun ρ w hf hw => by
  obtain ⟨e, hT⟩ := hT
  simp [execOp, resolve, invoke, builtin, Builtin.len_, hf.eval hx, run_underlying hT, goInt]
theorem subv_0 {sz g m cap j : Nat} : subv sz (.slice (some ⟨g, 0, none⟩) m cap) 0 j = .slice (some ⟨g, 0, none⟩) j cap := by
  unfold subv
  simp [Addr.add]
theorem subv_k {sz g m cap k j : Nat} (h : cap ≠ k) : subv sz (.slice (some ⟨g, 0, none⟩) m cap) k j = .slice (some ⟨g, k * sz, none⟩) j (cap - k) := by
  show Value.slice (some (if cap = k then (⟨g, 0, none⟩ : Addr) else (⟨g, 0, none⟩ : Addr).add (k * sz))) j (cap - k) = _
  rw [if_neg h]
  unfold Addr.add
  split
  · rename_i h0; rw [h0]
  · simp
theorem WPl.copyN {dT sT e : TypeId} {sz d' : Nat} [hT : SliI P dT e] [he : EltN P e sz] {x y : Operand} {g cap m k dLen dCap m2 : Nat} {v2 : Value} {xs ys : List Value} {Γf : List Asn} (h2 : HasS Γ v2 m2 ys) (hm2 : ys.length = m2 * sz) (c : Nat) (h1 : ∀ u ∈ ys.take (c * sz), u.oneCell' = true) (hmin : Nat.min m2 dLen = c) (hfit : k + c ≤ m) (hpos : 0 < m2)
    (k0 : ∀ v, WPl P n W S (rowN e sz (.slice (some ⟨g, 0, none⟩) m cap) m (xs.take (k * sz) ++ ys.take (c * sz) ++ xs.drop (k * sz + c * sz)) :: Γf) ((d', v) :: F) ops os Q)
    (hx : evF F x = some (.slice (some ⟨g, k * sz, none⟩) dLen dCap)) (hy : evF F y = some v2 := by first | rfl | fail) (hp : Take Γ (rowN e sz (.slice (some ⟨g, 0, none⟩) m cap) m xs) Γf := by first | exact takeA | fail) (hlt : Nat.blt d' n = true := by first | rfl | fail) (hw : wantG F ops gd = some true := by first | rfl | fail) :
    WPl P n W S Γ F ops (⟨some d', .call { callee := .builtin .copy, args := #[x, y], argTypes := #[dT, sT] }, ty, pos, af, gd⟩ :: os) Q :=
  WPl.op (.cons hp .nil) hlt hw (OpT.copyN hx hy (.cons hp .nil) h2 hm2 c h1 hmin hfit hpos) (by rintro v Γ' rfl; exact k0 v)
theorem WPl.appZ {T tn e : TypeId} {sz d' : Nat} [hT : SliI P T e] [he : EltN P e sz] {x y : Operand} {a : Addr} {k cap j : Nat} {ys : List Value} (htn : P.underlying tn = some (.int .i64)) (h2 : HasS Γ (.slice (some a) k cap) k ys) (hm2 : ys.length = k * sz) (hj : 0 < j) (hcap : cap < k + j) (hk : k + j ≤ 1000000000)
    (k0 : ∀ v, v.oneCell' = true → WPl P n W S (rowN e sz v (k + j) (ys ++ clr P e j) :: Γ) ((d', v) :: F) ops os Q)
    (hx : evF F x = some (.slice (some a) k cap) := by first | rfl | fail) (hy : evF F y = some (.int .i64 (j : Int)) := by first | rfl | fail) (hlt : Nat.blt d' n = true := by first | rfl | fail) (hw : wantG F ops gd = some true := by first | rfl | fail) :
    WPl P n W S Γ F ops (⟨some d', .call { callee := .builtin .append, args := #[x, y], argTypes := #[T, tn] }, ty, pos, af, gd⟩ :: os) Q :=
  WPl.row .nil rfl hlt hw (OpT.appZ htn hx hy h2 hm2 hj hcap hk) k0
end
end Go.Proofs.Ytpjfkomicehinaa
/- Layer 20 (farm): slices.Insert, slices.Delete of backends. -/
namespace Go.Proofs.Ytpjfkomicehinaa
section
open Go.RowKit
set_option linter.unusedSimpArgs false
set_option linter.unusedVariables false
theorem OpT.overlaps {P : Program} {n : Nat} {Γ : List Asn} {F : List (Nat × Value)} {d : Option Tmp} {ty : TypeId} {pos : String} {af : Array Edge} {gd : Option (Nat × Bool)} {f : FuncId} {fn : Func} {tS tR e : TypeId} {sz : Nat} [hT : SliI P tS e] [he : EltN P e sz] {x y : Operand} {ts : Array TypeId} {g1 c1 m1 g2 c2 m2 o lb cb : Nat} {xs ys : List Value} {Γf : List Asn}
    (hf : P.funcs[f]? = some fn) (h1 : (fn.name == "runtime.NumGoroutine") = false) (h2 : fn.body.isNone = true) (h3 : Extern.findNext fn = none) (h4 : Extern.find fn = some (Extern.SlicesOverlaps.overlaps #[tS, tS] #[tR]))
    (hx : evF F x = some (.slice (some ⟨g1, 0, none⟩) m1 c1)) (hy : evF F y = some (.slice (some ⟨g2, o, none⟩) lb cb)) (hp : Takes Γ [rowN e sz (.slice (some ⟨g1, 0, none⟩) m1 c1) m1 xs, rowN e sz (.slice (some ⟨g2, 0, none⟩) m2 c2) m2 ys] Γf) (hm1 : 0 < m1) (hm2 : 0 < m2) :
    OpT P n Γ F ⟨d, .call { callee := .value (.func f), args := #[x, y], argTypes := ts }, ty, pos, af, gd⟩ [] (RVal (.bool false)) := fun ρ w hF hw ha => by
  have hA := hw _ (hp.mem_iff.2 (List.mem_cons_self ..))
  have hB := hw _ (hp.mem_iff.2 (List.mem_cons_of_mem _ (List.mem_cons_self ..)))
  have hap : ([rowN e sz (.slice (some ⟨g1, 0, none⟩) m1 c1) m1 xs, rowN e sz (.slice (some ⟨g2, 0, none⟩) m2 c2) m2 ys] ++ Γf).Pairwise Apart := (List.Perm.pairwise_iff (fun h => Apart.symm h) hp).1 ha
  have hne : g1 ≠ g2 := fun e => by
    rw [List.cons_append, List.pairwise_cons] at hap
    exact hap.1 _ (List.mem_cons_self ..) (.inl rfl) g1 rfl (by rw [e]; rfl)
  obtain ⟨i0, z, hi, hz0, hz1, hzs, hby, hsz⟩ := he.parts
  rcases hA.2 with ⟨hv, _⟩ | ⟨_, _, cur1, hv, _, hg1, hn1, _, hs1, _⟩
  · cases hv
  cases hv
  rcases hB.2 with ⟨hv, _⟩ | ⟨_, _, cur2, hv, _, hg2, hn2, _, hs2, _⟩
  · cases hv
  cases hv
  have hk2 : cur2.size ≠ 0 := by
    rw [hs2]
    exact Nat.ne_of_gt (Nat.mul_pos (by omega) hsz)
  have hov := Lib.run_overlaps_apart (P := P) w tS tR e hT.und sz (fun w => by simp [sizeOf, typeInfo, hi, hz1]) ⟨g1, 0, none⟩ ⟨g2, o, none⟩ m1 c1 lb cb hne e e cur1.size cur2.size (by simp [World.shape?, hg1]) (by simp [World.shape?, hg2]) hk2 (by simp [World.frozen?, hg1]) (by simp [World.frozen?, hg1])
  have hrun : (callFunc f #[.slice (some ⟨g1, 0, none⟩) m1 c1, .slice (some ⟨g2, o, none⟩) lb cb]).run P w = .ok (.value (.bool false)) w := by
    rw [run_callFunc_extern hf h1 h2 h3 h4, hov]
    rfl
  have : (execOp ρ.eval ⟨d, .call { callee := .value (.func f), args := #[x, y], argTypes := ts }, ty, pos, af, gd⟩).run P w = .ok (.value (.bool false)) w := by
    have e1 : ρ.eval (.func f) = .func (.func f) #[] #[] := rfl
    simp [execOp, resolve, invoke, Deferred.ofValue, Sem.run_bind, e1, hF.eval hx, hF.eval hy, hrun]
  unfold DoesW
  rw [this]
  exact ⟨[], ⟨rfl, rfl⟩, .nil (Mod.refl _ _)⟩
end
theorem bks_one' {l : List Bk} : ∀ u ∈ bks l, u.oneCell' = true := fun u hu => by
  obtain ⟨L, hL, hu⟩ := List.mem_flatten.1 (by with_unfolding_all exact hu)
  obtain ⟨b, _, rfl⟩ := List.mem_map.1 hL
  exact (bkC_ok b).one u hu
theorem bks_take {l : List Bk} {k : Nat} : (bks l).take (k * 21) = bks (l.take k) := by
  rcases Nat.le_total k l.length with h | h
  · conv => lhs; rw [← List.take_append_drop k l, bks_app]
    rw [List.take_append_of_le_length (by rw [bks_len, List.length_take]; omega), List.take_of_length_le (by rw [bks_len, List.length_take]; omega)]
  · rw [List.take_of_length_le (by rw [bks_len]; omega), List.take_of_length_le h]
theorem bks_drop {l : List Bk} {k : Nat} : (bks l).drop (k * 21) = bks (l.drop k) := by
  rcases Nat.le_total k l.length with h | h
  · conv => lhs; rw [← List.take_append_drop k l, bks_app]
    rw [List.drop_append_of_le_length (by rw [bks_len, List.length_take]; omega), List.drop_of_length_le (by rw [bks_len, List.length_take]; omega), List.nil_append]
  · rw [List.drop_of_length_le (by rw [bks_len]; omega), List.drop_of_length_le h]
    with_unfolding_all rfl
theorem WPl.ovl {P : Program} {n : Nat} {W : World} {S : Nat → Prop} {Γ : List Asn} {F : List (Nat × Value)} {Q : Exit → Act → World → Prop} {ops : Array Oper} {os : List Oper} {d : Nat} {ty : TypeId} {pos : String} {af : Array Edge} {gd : Option (Nat × Bool)} {f : FuncId} {fn : Func} {tS tR e : TypeId} {sz : Nat} [hT : SliI P tS e] [he : EltN P e sz] {x y : Operand} {ts : Array TypeId} {g1 c1 m1 g2 c2 m2 o lb cb : Nat} {xs ys : List Value} {Γf : List Asn}
    (hf : P.funcs[f]? = some fn) (h1 : (fn.name == "runtime.NumGoroutine") = false) (h2 : fn.body.isNone = true) (h3 : Extern.findNext fn = none) (h4 : Extern.find fn = some (Extern.SlicesOverlaps.overlaps #[tS, tS] #[tR])) (hm1 : 0 < m1) (hm2 : 0 < m2)
    (k : WPl P n W S Γ ((d, .bool false) :: F) ops os Q)
    (hx : evF F x = some (.slice (some ⟨g1, 0, none⟩) m1 c1) := by first | rfl | fail) (hy : evF F y = some (.slice (some ⟨g2, o, none⟩) lb cb) := by first | rfl | fail) (hp : Takes Γ [rowN e sz (.slice (some ⟨g1, 0, none⟩) m1 c1) m1 xs, rowN e sz (.slice (some ⟨g2, 0, none⟩) m2 c2) m2 ys] Γf := by first | exact takesA | fail) (hlt : Nat.blt d n = true := by first | rfl | fail) (hw : wantG F ops gd = some true := by first | rfl | fail) :
    WPl P n W S Γ F ops (⟨some d, .call { callee := .value (.func f), args := #[x, y], argTypes := ts }, ty, pos, af, gd⟩ :: os) Q :=
  WPl.op .nil hlt hw (OpT.overlaps hf h1 h2 h3 h4 hx hy hp hm1 hm2) (by rintro v Γ' ⟨rfl, rfl⟩; exact k)
theorem lay_shift {A B Y D : List Value} {n i : Nat} {T : List Value} (hA : A.length = n * 21) (hi : i < n) (hB : B.length = 21) (hY : Y.length = 21) (hT : A.take (i * 21) = T) (hDl : D.length = (n - i) * 21) :
    ((((A ++ Y).take ((i + 1) * 21) ++ (D ++ Y).take ((n - i) * 21) ++ (A ++ Y).drop ((i + 1) * 21 + (n - i) * 21)).take (i * 21)) ++ B.take (1 * 21) ++ ((A ++ Y).take ((i + 1) * 21) ++ (D ++ Y).take ((n - i) * 21) ++ (A ++ Y).drop ((i + 1) * 21 + (n - i) * 21)).drop (i * 21 + 1 * 21)) = T ++ B ++ D := by
  have e1 : (D ++ Y).take ((n - i) * 21) = D := List.take_left' hDl
  have e2 : (A ++ Y).drop ((i + 1) * 21 + (n - i) * 21) = [] := List.drop_of_length_le (by rw [List.length_append]; omega)
  have e3 : ((A ++ Y).take ((i + 1) * 21)).length = (i + 1) * 21 := by rw [List.length_take, List.length_append]; omega
  have e4 : B.take (1 * 21) = B := List.take_of_length_le (by omega)
  rw [e1, e2, e4, List.append_nil, List.take_append_of_le_length (by omega), List.take_take, Nat.min_eq_left (by omega), List.take_append_of_le_length (by omega), hT]
  congr 1
  rw [show i * 21 + 1 * 21 = (i + 1) * 21 by omega]
  exact List.drop_left' e3
theorem clr_len {P : Program} {e : TypeId} {sz j : Nat} [he : EltN P e sz] : (clr P e j).length = j * sz := by
  obtain ⟨i0, z, hi, hz0, hz2, hzs, hby, hsz⟩ := he.parts
  unfold clr
  rw [hi]
  simp [hz0, Builtin.zeroCells, hzs]
theorem lay_grow {A B C Z : List Value} {a d k : Nat} (hA : A.length = a * 21) (hB : B.length = 21) (hC : C.length = d * 21) (hZ : Z.length = k * 21) (hk : d + 1 = k := by omega) :
    (((A ++ Z).take (a * 21) ++ B.take (1 * 21) ++ (A ++ Z).drop (a * 21 + 1 * 21)).take ((a + 1) * 21) ++ C.take (d * 21) ++ ((A ++ Z).take (a * 21) ++ B.take (1 * 21) ++ (A ++ Z).drop (a * 21 + 1 * 21)).drop ((a + 1) * 21 + d * 21)) = A ++ B ++ C := by
  have e1 : (A ++ Z).take (a * 21) = A := List.take_left' hA
  have e2 : B.take (1 * 21) = B := List.take_of_length_le (by omega)
  have e3 : C.take (d * 21) = C := List.take_of_length_le (by omega)
  have e4 : (A ++ B ++ (A ++ Z).drop (a * 21 + 1 * 21)).take ((a + 1) * 21) = A ++ B := List.take_left' (by rw [List.length_append]; omega)
  have e5 : (A ++ B ++ (A ++ Z).drop (a * 21 + 1 * 21)).drop ((a + 1) * 21 + d * 21) = [] := List.drop_of_length_le (by rw [List.length_append, List.length_append, List.length_drop, List.length_append]; omega)
  rw [e1, e2, e4, e3, e5, List.append_nil]
open Go.RowKit
set_option linter.unusedSimpArgs false
set_option linter.unusedVariables false
set_option maxRecDepth 20000
set_option maxHeartbeats 4000000
attribute [local irreducible] WPc WPl WPq ReadR OpT BinR HasS bx rdN rowN Take Takes Prov Triple ResF BuildP Done ag Int.decLt Int.decLe Int.instDecidableEq
attribute [local irreducible] mp rmp rg rgo mput mget mfind mdel gbag bks ies lbB hasB findS doorS mpe
/-- Insert at the end. -/
theorem ginsE_t (vb v1 : Value) (l : List Bk) (c : Bk) (hl : l.length ≤ 1000) : Triple Try.prog 28 #[vb, .int .i64 (l.length : Int), v1] [rowN 36 21 vb l.length (bks l), rowN 36 21 v1 1 (bks [c])] (RRow 36 21 (l ++ [c]).length (bks (l ++ [c]))) := by
  have hL := bks_len (l := l)
  have hc := bks_len (l := [c])
  have hone := bks_one' (l := [c])
  refine Triple.enter Try.func28 rfl Try.ntmps28 rfl (fun W => ?_)
  dsimp only [argsF, Nat.reduceAdd]
  repeat' (first
   | refine WPl.nil ?_ | refine WPq.then ?_ | refine WPq.thenR ?_ | refine WPq.thenE ?_ | refine WPq.blockN ?_ | refine WPq.blockR ?_ | refine WPq.blockE ?_ | refine WPq.blockO rfl ?_ | refine WPc.seq ?_ | refine WPc.block ?_ | refine WPc.ret ?_ | refine WPc.exit ?_ | refine WPc.skip ?_ | refine WPc.region ?_
   | (refine isCond ?_; first | refine WPc.cT ?_ | refine WPc.cF ?_ | (refine WPc.cQ (fun hc => ?_) (fun hc => ?_) <;> try exact prA))
   | (refine isD 12 ?_; refine WPl.rdX (ReadR.sliceL rfl rfl hasA (Nat.le_refl _)) ?_)
   | (refine isD 16 ?_; refine WPl.rdX (ReadR.binE rfl rfl BinR.eql (congrArg Value.bool (decide_eq_false (show ¬ (1 : Int) = 0 by omega)))) ?_)
   | (refine isD 22 ?_; refine WPl.rdX (ReadR.binE rfl rfl BinR.eql (congrArg Value.bool (decide_eq_true rfl))) ?_)
   | (refine isD 25 ?_; refine WPl.appN (m := l.length) (m2 := 1) (xs := bks l) (ys := bks [c]) hc hone (by omega) fun v25 hv25 => ?_)
   | (refine isCp ?_; first | refine WPl.cpA fun v => ?_ | refine WPl.cpE fun v => ?_)
   | (refine isOp ?_; first | refine WPl.rd ?_ | refine WPl.sk ?_ | refine WPl.rdB ?_)
   | (show WPl _ _ _ _ _ _ _ (⟨_, .indexAddr _ _ _, _, _, _, _⟩ :: _) _; refine WPl.rdX (ReadR.indexE rfl rfl hasA (by first | assumption | omega)) ?_)
   | (show WPl _ _ _ _ _ _ _ (⟨_, .fieldAddr _ _ _, _, _, _, _⟩ :: _) _; refine WPl.rdX (ReadR.fieldE rfl hasA (by first | assumption | omega)) ?_)
   | (show WPl _ _ _ _ _ _ _ (⟨_, .load _ _, _, _, _, _⟩ :: _) _; first | refine WPl.rdX (ReadR.loadE rfl hasA (by assumption)) ?_ | refine WPl.rdX (ReadR.loadES (by assumption) (by first | assumption | omega) rfl hasA) ?_)
   | (show WPl _ _ _ _ _ _ _ (⟨_, .slice _ _ _ _ _, _, _, _, _⟩ :: _) _; first | refine WPl.rdX (ReadR.sliceH rfl rfl hasA (by omega)) ?_ | refine WPl.rdX (ReadR.sliceL rfl rfl hasA (by omega)) ?_ | refine WPl.rdX (ReadR.sliceLH rfl rfl rfl hasA (by omega) (by omega)) ?_)
   | (refine WPl.spQ (fun hc => ?_) (fun hc => ?_) <;> try exact prA)
   | fail)
  rw [← bks_app, show l.length + 1 = (l ++ [c]).length by rw [List.length_append]; rfl]
  exact WPq.dR
/-- Insert where there is no room. -/
theorem ginsG_t (g cap : Nat) (v1 : Value) (l : List Bk) (c : Bk) (i : Nat) (hi : i < l.length) (hl : l.length ≤ 1000) (hle : l.length ≤ cap) (hcap : cap < l.length + 1) : Triple Try.prog 28 #[.slice (some ⟨g, 0, none⟩) l.length cap, .int .i64 (i : Int), v1] [rowN 36 21 (.slice (some ⟨g, 0, none⟩) l.length cap) l.length (bks l), rowN 36 21 v1 1 (bks [c])] (RRow 36 21 (l.take i ++ c :: l.drop i).length (bks (l.take i ++ c :: l.drop i))) := by
  have hL := bks_len (l := l)
  have hc := bks_len (l := [c])
  have hone := bks_one' (l := [c])
  have honeD := bks_one' (l := l.drop i)
  have hLt := bks_len (l := l.take i)
  have hLd := bks_len (l := l.drop i)
  rw [List.length_take] at hLt
  rw [List.length_drop] at hLd
  have hne : ¬ (i : Int) = (l.length : Int) := by omega
  have hn1 : Value.int .i64 ((l.length : Int) + ((1 : Nat) : Int)) = .int .i64 ((l.length + 1 : Nat) : Int) := by congr 1
  have hi1 : Value.int .i64 ((i : Int) + ((1 : Nat) : Int)) = .int .i64 ((i + 1 : Nat) : Int) := by congr 1
  have hres : (l.take i ++ c :: l.drop i).length = l.length + 1 := by rw [List.length_append, List.length_cons, List.length_take, List.length_drop]; omega
  have hbres : bks (l.take i) ++ bks [c] ++ bks (l.drop i) = bks (l.take i ++ c :: l.drop i) := by rw [← bks_app, ← bks_app, List.append_assoc]; rfl
  have hgt : ((l.length + 1 : Nat) : Int) > (cap : Int) := by omega
  have hj : Value.int .i64 (((l.length + 1 : Nat) : Int) - (i : Int)) = .int .i64 ((l.length + 1 - i : Nat) : Int) := by congr 1; omega
  have hP : ∀ Γ, rowN 36 21 (.slice (some ⟨g, 0, none⟩) l.length cap) l.length (bks l) ∈ Γ → HasS Γ (.slice (some ⟨g, 0, none⟩) i cap) i (bks (l.take i)) := fun Γ h => by
    have := HasS.sub (HasS.row h) hL (k := 0) (n := i) (by omega)
    rwa [subv_0, Nat.zero_mul, List.drop_zero, bks_take] at this
  have hD : ∀ Γ, rowN 36 21 (.slice (some ⟨g, 0, none⟩) l.length cap) l.length (bks l) ∈ Γ → HasS Γ (.slice (some ⟨g, i * 21, none⟩) (l.length - i) (cap - i)) (l.length - i) (bks (l.drop i)) := fun Γ h => by
    have := HasS.sub (HasS.row h) hL (k := i) (n := l.length - i) (by omega)
    rwa [subv_k (by omega), bks_drop, List.take_of_length_le (by omega)] at this
  have hm40 : i + (l.length + 1 - i) = l.length + 1 := by omega
  have hZl : (clr Try.prog 36 (l.length + 1 - i)).length = (l.length + 1 - i) * 21 := clr_len
  obtain ⟨Z, hZ⟩ : ∃ Z, Z = clr Try.prog 36 (l.length + 1 - i) := ⟨_, rfl⟩
  rw [← hZ] at hZl
  refine Triple.enter Try.func28 rfl Try.ntmps28 rfl (fun W => ?_)
  dsimp only [argsF, Nat.reduceAdd]
  repeat' (first
   | refine WPl.nil ?_ | refine WPq.then ?_ | refine WPq.thenR ?_ | refine WPq.thenE ?_ | refine WPq.blockN ?_ | refine WPq.blockR ?_ | refine WPq.blockE ?_ | refine WPq.blockO rfl ?_ | refine WPc.seq ?_ | refine WPc.block ?_ | refine WPc.ret ?_ | refine WPc.exit ?_ | refine WPc.skip ?_ | refine WPc.region ?_
   | (refine isCond ?_; first | refine WPc.cT ?_ | refine WPc.cF ?_ | (refine WPc.cQ (fun hc => ?_) (fun hc => ?_) <;> try exact prA))
   | (refine isD 12 ?_; refine WPl.rdX (ReadR.sliceLoV (i := i) rfl rfl (by omega) (by omega)) ?_)
   | (refine isD 16 ?_; refine WPl.rdX (ReadR.binE rfl rfl BinR.eql (congrArg Value.bool (decide_eq_false (show ¬ (1 : Int) = 0 by omega)))) ?_)
   | (refine isD 19 ?_; refine WPl.rdX (ReadR.lenV ⟨_, Try.underlying31⟩ rfl) ?_)
   | (refine isD 22 ?_; refine WPl.rdX (ReadR.binE rfl rfl BinR.eql (congrArg Value.bool (decide_eq_false hne))) ?_)
   | (refine isD 28 ?_; refine WPl.rdX (ReadR.binE rfl rfl (BinR.addI (by omega) (by omega)) hn1) ?_)
   | (refine isD 30 ?_; refine WPl.rdX (ReadR.capV ⟨_, Try.underlying31⟩ rfl) ?_)
   | (refine isD 31 ?_; refine WPl.rdX (ReadR.binE rfl rfl BinR.gtr (congrArg Value.bool (decide_eq_true hgt))) ?_)
   | (refine isD 34 ?_; refine WPl.rdX (ReadR.sliceCap (j := i) rfl rfl (by omega)) ?_)
   | (refine isD 37 ?_; refine WPl.rdX (ReadR.binE rfl rfl (BinR.addI (by omega) (by omega)) hn1) ?_)
   | (refine isD 39 ?_; refine WPl.rdX (ReadR.binE rfl rfl (BinR.subI (by omega) (by omega)) hj) ?_)
   | (refine isD 40 ?_; refine WPl.appZ (k := i) (cap := cap) (j := l.length + 1 - i) Try.underlying3 (hP _ memA) (by omega) (by omega) (by omega) (by omega) fun v40 hv40 => ?_; rw [hm40, ← hZ]; refine WPl.know (row_room (v := v40) memA (by omega)) ?_; rintro ⟨g2, cap2, rfl, hc2⟩)
   | (refine isD 43 ?_; refine WPl.rdX (ReadR.sliceLoV (i := i) rfl rfl (by omega) (by omega)) ?_)
   | (refine isD 45 ?_; refine WPl.copyN (k := i) (m := l.length + 1) (dLen := l.length + 1 - i) (m2 := 1) (ys := bks [c]) hasA hc 1 (fun u hu => hone u (List.mem_of_mem_take hu)) (Nat.min_eq_left (by omega)) (by omega) (by omega) (fun v45 => ?_) rfl)
   | (refine isCp ?_; first | refine WPl.cpA fun v => ?_ | refine WPl.cpE fun v => ?_)
   | (refine isOp ?_; first | refine WPl.rd ?_ | refine WPl.sk ?_ | refine WPl.rdB ?_)
   | (show WPl _ _ _ _ _ _ _ (⟨_, .indexAddr _ _ _, _, _, _, _⟩ :: _) _; refine WPl.rdX (ReadR.indexE rfl rfl hasA (by first | assumption | omega)) ?_)
   | (show WPl _ _ _ _ _ _ _ (⟨_, .fieldAddr _ _ _, _, _, _, _⟩ :: _) _; refine WPl.rdX (ReadR.fieldE rfl hasA (by first | assumption | omega)) ?_)
   | (show WPl _ _ _ _ _ _ _ (⟨_, .load _ _, _, _, _, _⟩ :: _) _; first | refine WPl.rdX (ReadR.loadE rfl hasA (by assumption)) ?_ | refine WPl.rdX (ReadR.loadES (by assumption) (by first | assumption | omega) rfl hasA) ?_)
   | (show WPl _ _ _ _ _ _ _ (⟨_, .slice _ _ _ _ _, _, _, _, _⟩ :: _) _; first | refine WPl.rdX (ReadR.sliceH rfl rfl hasA (by omega)) ?_ | refine WPl.rdX (ReadR.sliceL rfl rfl hasA (by omega)) ?_ | refine WPl.rdX (ReadR.sliceLH rfl rfl rfl hasA (by omega) (by omega)) ?_)
   | (refine WPl.spQ (fun hc => ?_) (fun hc => ?_) <;> try exact prA)
   | fail)
  obtain ⟨X1, hX1⟩ : ∃ X1, X1 = (bks (l.take i) ++ Z).take (i * 21) ++ (bks [c]).take (1 * 21) ++ (bks (l.take i) ++ Z).drop (i * 21 + 1 * 21) := ⟨_, rfl⟩
  rw [← hX1]
  repeat' (first
   | refine WPl.nil ?_ | refine WPq.then ?_ | refine WPq.thenR ?_ | refine WPq.thenE ?_ | refine WPq.blockN ?_ | refine WPq.blockR ?_ | refine WPq.blockE ?_ | refine WPq.blockO rfl ?_ | refine WPc.seq ?_ | refine WPc.block ?_ | refine WPc.ret ?_ | refine WPc.exit ?_ | refine WPc.skip ?_ | refine WPc.region ?_
   | (refine isReg 11 ?_; refine WPc.drA [([9], [47, 48, 49, 51, 52, 53]), ([9], [46, 48, 51, 52, 53]), ([9], [46, 47, 51, 52, 53]), ([1, 2, 9], [46, 47, 48, 51, 52, 53]), ([0, 1, 2, 3, 9], [46, 47, 48, 49, 51, 52, 53]), ([9], [46, 47, 48, 49, 50, 52]), ([9], [46, 47, 48, 49, 50, 51]), ([5, 6, 9], [46, 47, 48, 49, 50, 51, 52]), ([0, 1, 2, 3, 4, 5, 6, 7, 9], [46, 47, 48, 49, 50, 51, 52, 53])] [(9, 8), (9, 0), (9, 1), (9, 2), (9, 3), (9, 4), (9, 5), (9, 6), (9, 7)] (Γx := [rowN 36 21 (.slice (some ⟨g2, 0, none⟩) (l.length + 1) cap2) (l.length + 1) X1]) ?_; dsimp only [prev0, List.length_nil, List.length_cons])
   | (refine gAny ?_; first | (refine gD 49 ?_; refine RGl.rdX (fun e hk => by (try dsimp only [bndR, ensR, oksR, fcutR, List.append_nil, List.nil_append, List.cons_append, List.append_assoc] at hk ⊢); exact ReadR.binE rfl rfl (BinR.addI (by omega) (by omega)) hi1) ?_) | (refine gD 50 ?_; refine RGl.rdX (fun e hk => by (try dsimp only [bndR, ensR, oksR, fcutR, List.append_nil, List.nil_append, List.cons_append, List.append_assoc] at hk ⊢); exact ReadR.sliceLoV (i := i + 1) rfl rfl (by omega) (by omega)) ?_) | (refine gD 53 ?_; refine RGl.rdX (fun e hk => by (try dsimp only [bndR, ensR, oksR, fcutR, List.append_nil, List.nil_append, List.cons_append, List.append_assoc] at hk ⊢); exact ReadR.sliceLoV (i := i) rfl rfl (by omega) (by omega)) ?_) | (refine gOp ?_; (refine RGl.turn (fun e hk => by (try dsimp only [bndR, ensR, oksR, fcutR, List.append_nil, List.nil_append, List.cons_append, List.append_assoc] at hk ⊢); exact OpT.copyN (k := i + 1) (m := l.length + 1) (dLen := l.length + 1 - (i + 1)) (m2 := l.length - i) (ys := bks (l.drop i)) rfl rfl takesA (hD _ memA) hLd (l.length - i) (fun u hu => honeD u (List.mem_of_mem_take hu)) (Nat.min_eq_left (by omega)) (by omega) (by omega)) ?_)) | (refine gOp ?_; first | refine RGl.rdA ?_ | refine RGl.rdX (fun e hk => by (try dsimp only [bndR, ensR, oksR, fcutR, List.append_nil, List.nil_append, List.cons_append, List.append_assoc] at hk ⊢); exact readB) ?_) | (refine gCp ?_; refine RGl.cpA ?_) | (refine RGl.fin (fun e hk => ?_); (try dsimp only [bndA, ensAR, oksA, List.append_nil, List.nil_append, List.cons_append, List.append_assoc] at hk ⊢); (repeat (obtain ⟨hk1, hk⟩ := hk))) | fail)
   | (refine isCond ?_; first | refine WPc.cT ?_ | refine WPc.cF ?_ | (refine WPc.cQ (fun hc => ?_) (fun hc => ?_) <;> try exact prA))
   | (refine isD 49 ?_; refine WPl.rdX (ReadR.binE rfl rfl (BinR.addI (by omega) (by omega)) hi1) ?_)
   | (refine isD 50 ?_; refine WPl.rdX (ReadR.sliceLoV (i := i + 1) rfl rfl (by omega) (by omega)) ?_)
   | (refine isD 53 ?_; refine WPl.rdX (ReadR.sliceLoV (i := i) rfl rfl (by omega) (by omega)) ?_)
   | (refine isCp ?_; first | refine WPl.cpA fun v => ?_ | refine WPl.cpE fun v => ?_)
   | (refine isOp ?_; first | refine WPl.rd ?_ | refine WPl.sk ?_ | refine WPl.rdB ?_)
   | (show WPl _ _ _ _ _ _ _ (⟨_, .indexAddr _ _ _, _, _, _, _⟩ :: _) _; refine WPl.rdX (ReadR.indexE rfl rfl hasA (by first | assumption | omega)) ?_)
   | (show WPl _ _ _ _ _ _ _ (⟨_, .fieldAddr _ _ _, _, _, _, _⟩ :: _) _; refine WPl.rdX (ReadR.fieldE rfl hasA (by first | assumption | omega)) ?_)
   | (show WPl _ _ _ _ _ _ _ (⟨_, .load _ _, _, _, _, _⟩ :: _) _; first | refine WPl.rdX (ReadR.loadE rfl hasA (by assumption)) ?_ | refine WPl.rdX (ReadR.loadES (by assumption) (by first | assumption | omega) rfl hasA) ?_)
   | (show WPl _ _ _ _ _ _ _ (⟨_, .slice _ _ _ _ _, _, _, _, _⟩ :: _) _; first | refine WPl.rdX (ReadR.sliceH rfl rfl hasA (by omega)) ?_ | refine WPl.rdX (ReadR.sliceL rfl rfl hasA (by omega)) ?_ | refine WPl.rdX (ReadR.sliceLH rfl rfl rfl hasA (by omega) (by omega)) ?_)
   | (refine WPl.spQ (fun hc => ?_) (fun hc => ?_) <;> try exact prA)
   | fail)
  have hfin : X1.take ((i + 1) * 21) ++ (bks (l.drop i)).take ((l.length - i) * 21) ++ X1.drop ((i + 1) * 21 + (l.length - i) * 21) = bks (l.take i ++ c :: l.drop i) := by
    rw [← hbres, hX1]
    exact lay_grow (by omega) (by simpa using hc) (by omega) hZl
  rw [hfin, ← hres]
  exact WPq.dR
/-- Insert where there is room. -/
theorem ginsS_t (g cap g1 c1 : Nat) (l : List Bk) (c : Bk) (i : Nat) (hi : i < l.length) (hl : l.length ≤ 1000) (hcap : l.length + 1 ≤ cap) : Triple Try.prog 28 #[.slice (some ⟨g, 0, none⟩) l.length cap, .int .i64 (i : Int), .slice (some ⟨g1, 0, none⟩) 1 c1] [rowN 36 21 (.slice (some ⟨g, 0, none⟩) l.length cap) l.length (bks l), rowN 36 21 (.slice (some ⟨g1, 0, none⟩) 1 c1) 1 (bks [c])] (RRow 36 21 (l.take i ++ c :: l.drop i).length (bks (l.take i ++ c :: l.drop i))) := by
  have hL := bks_len (l := l)
  have hc := bks_len (l := [c])
  have hone := bks_one' (l := [c])
  have honeD := bks_one' (l := l.drop i)
  have hLt := bks_len (l := l.take i)
  have hLd := bks_len (l := l.drop i)
  rw [List.length_take] at hLt
  rw [List.length_drop] at hLd
  have hne : ¬ (i : Int) = (l.length : Int) := by omega
  have hn1 : Value.int .i64 ((l.length : Int) + ((1 : Nat) : Int)) = .int .i64 ((l.length + 1 : Nat) : Int) := by congr 1
  have hi1 : Value.int .i64 ((i : Int) + ((1 : Nat) : Int)) = .int .i64 ((i + 1 : Nat) : Int) := by congr 1
  have hres : (l.take i ++ c :: l.drop i).length = l.length + 1 := by rw [List.length_append, List.length_cons, List.length_take, List.length_drop]; omega
  have hbres : bks (l.take i) ++ bks [c] ++ bks (l.drop i) = bks (l.take i ++ c :: l.drop i) := by rw [← bks_app, ← bks_app, List.append_assoc]; rfl
  have hgt : ¬ ((l.length + 1 : Nat) : Int) > (cap : Int) := by
    intro h
    have : (cap : Int) < ((l.length + 1 : Nat) : Int) := h
    omega
  have honeA := bks_one' (l := l)
  refine Triple.enter Try.func28 rfl Try.ntmps28 rfl (fun W => ?_)
  dsimp only [argsF, Nat.reduceAdd]
  refine WPc.rowUp (m := l.length) (m' := l.length + 1) (by omega) (by omega) hcap fun ys hys => ?_
  have hyl : ys.length = 21 := by omega
  have hXl : (bks l ++ ys).length = (l.length + 1) * 21 := by rw [List.length_append]; omega
  have hSrc : ∀ Γ, rowN 36 21 (.slice (some ⟨g, 0, none⟩) (l.length + 1) cap) (l.length + 1) (bks l ++ ys) ∈ Γ → HasS Γ (.slice (some ⟨g, i * 21, none⟩) (l.length + 1 - i) (cap - i)) (l.length + 1 - i) (((bks l ++ ys).drop (i * 21)).take ((l.length + 1 - i) * 21)) := fun Γ h => by
    have := HasS.sub (HasS.row h) hXl (k := i) (n := l.length + 1 - i) (by omega)
    rwa [subv_k (by omega)] at this
  have hS1 : ((bks l ++ ys).drop (i * 21)).take ((l.length + 1 - i) * 21) = bks (l.drop i) ++ ys := by
    rw [List.drop_append_of_le_length (by omega), bks_drop, List.take_of_length_le (by rw [List.length_append]; omega)]
  rw [hS1] at hSrc
  obtain ⟨X1, hX1⟩ : ∃ X1, X1 = bks l ++ ys := ⟨_, rfl⟩
  rw [← hX1] at hSrc hXl ⊢
  obtain ⟨X2, hX2⟩ : ∃ X2, X2 = X1.take ((i + 1) * 21) ++ (bks (l.drop i) ++ ys).take ((l.length - i) * 21) ++ X1.drop ((i + 1) * 21 + (l.length - i) * 21) := ⟨_, rfl⟩
  have hone2 : ∀ u ∈ (bks (l.drop i) ++ ys).take ((l.length - i) * 21), u.oneCell' = true := fun u hu => by
    rw [List.take_left' hLd] at hu
    exact honeD u hu
  have hl2 : (bks (l.drop i) ++ ys).length = (l.length + 1 - i) * 21 := by rw [List.length_append]; omega
  repeat' (first
   | refine WPl.nil ?_ | refine WPq.then ?_ | refine WPq.thenR ?_ | refine WPq.thenE ?_ | refine WPq.blockN ?_ | refine WPq.blockR ?_ | refine WPq.blockE ?_ | refine WPq.blockO rfl ?_ | refine WPc.seq ?_ | refine WPc.block ?_ | refine WPc.ret ?_ | refine WPc.exit ?_ | refine WPc.skip ?_ | refine WPc.region ?_
   | (refine isReg 15 ?_; refine WPc.drA [([9], [70, 71, 72, 74, 75, 76]), ([9], [69, 71, 74, 75, 76]), ([9], [69, 70, 74, 75, 76]), ([1, 2, 9], [69, 70, 71, 74, 75, 76]), ([0, 1, 2, 3, 9], [69, 70, 71, 72, 74, 75, 76]), ([9], [69, 70, 71, 72, 73, 75]), ([9], [69, 70, 71, 72, 73, 74]), ([5, 6, 9], [69, 70, 71, 72, 73, 74, 75]), ([0, 1, 2, 3, 4, 5, 6, 7, 9], [69, 70, 71, 72, 73, 74, 75, 76])] [(9, 8), (9, 0), (9, 1), (9, 2), (9, 3), (9, 4), (9, 5), (9, 6), (9, 7)] (Γx := [rowN 36 21 (.slice (some ⟨g, 0, none⟩) (l.length + 1) cap) (l.length + 1) X1]) ?_; dsimp only [prev0, List.length_nil, List.length_cons])
   | (refine gAny ?_; first | (refine gD 12 ?_; refine RGl.rdX (fun e hk => by (try dsimp only [bndR, ensR, oksR, fcutR, List.append_nil, List.nil_append, List.cons_append, List.append_assoc] at hk ⊢); exact ReadR.sliceLoV (i := i) rfl rfl (by omega) (by omega)) ?_) | (refine gD 16 ?_; refine RGl.rdX (fun e hk => by (try dsimp only [bndR, ensR, oksR, fcutR, List.append_nil, List.nil_append, List.cons_append, List.append_assoc] at hk ⊢); exact ReadR.binE rfl rfl BinR.eql (congrArg Value.bool (decide_eq_false (show ¬ (1 : Int) = 0 by omega)))) ?_) | (refine gD 19 ?_; refine RGl.rdX (fun e hk => by (try dsimp only [bndR, ensR, oksR, fcutR, List.append_nil, List.nil_append, List.cons_append, List.append_assoc] at hk ⊢); exact ReadR.lenV ⟨_, Try.underlying31⟩ rfl) ?_) | (refine gD 22 ?_; refine RGl.rdX (fun e hk => by (try dsimp only [bndR, ensR, oksR, fcutR, List.append_nil, List.nil_append, List.cons_append, List.append_assoc] at hk ⊢); exact ReadR.binE rfl rfl BinR.eql (congrArg Value.bool (decide_eq_false hne))) ?_) | (refine gD 28 ?_; refine RGl.rdX (fun e hk => by (try dsimp only [bndR, ensR, oksR, fcutR, List.append_nil, List.nil_append, List.cons_append, List.append_assoc] at hk ⊢); exact ReadR.binE rfl rfl (BinR.addI (by omega) (by omega)) hn1) ?_) | (refine gD 30 ?_; refine RGl.rdX (fun e hk => by (try dsimp only [bndR, ensR, oksR, fcutR, List.append_nil, List.nil_append, List.cons_append, List.append_assoc] at hk ⊢); exact ReadR.capV ⟨_, Try.underlying31⟩ rfl) ?_) | (refine gD 31 ?_; refine RGl.rdX (fun e hk => by (try dsimp only [bndR, ensR, oksR, fcutR, List.append_nil, List.nil_append, List.cons_append, List.append_assoc] at hk ⊢); exact ReadR.binE rfl rfl BinR.gtr (congrArg Value.bool (decide_eq_false hgt))) ?_) | (refine gD 59 ?_; refine RGl.rdX (fun e hk => by (try dsimp only [bndR, ensR, oksR, fcutR, List.append_nil, List.nil_append, List.cons_append, List.append_assoc] at hk ⊢); exact ReadR.binE rfl rfl (BinR.addI (by omega) (by omega)) hn1) ?_) | (refine gD 60 ?_; refine RGl.rdX (fun e hk => by (try dsimp only [bndR, ensR, oksR, fcutR, List.append_nil, List.nil_append, List.cons_append, List.append_assoc] at hk ⊢); exact ReadR.sliceCap (j := l.length + 1) rfl rfl (by omega)) ?_) | (refine gD 65 ?_; refine RGl.rdX (fun e hk => by (try dsimp only [bndR, ensR, oksR, fcutR, List.append_nil, List.nil_append, List.cons_append, List.append_assoc] at hk ⊢); exact ReadR.binE rfl rfl (BinR.addI (by omega) (by omega)) hi1) ?_) | (refine gD 66 ?_; refine RGl.rdX (fun e hk => by (try dsimp only [bndR, ensR, oksR, fcutR, List.append_nil, List.nil_append, List.cons_append, List.append_assoc] at hk ⊢); exact ReadR.sliceLoV (i := i + 1) rfl rfl (by omega) (by omega)) ?_) | (refine gD 72 ?_; refine RGl.rdX (fun e hk => by (try dsimp only [bndR, ensR, oksR, fcutR, List.append_nil, List.nil_append, List.cons_append, List.append_assoc] at hk ⊢); exact ReadR.binE rfl rfl (BinR.addI (by omega) (by omega)) hi1) ?_) | (refine gD 73 ?_; refine RGl.rdX (fun e hk => by (try dsimp only [bndR, ensR, oksR, fcutR, List.append_nil, List.nil_append, List.cons_append, List.append_assoc] at hk ⊢); exact ReadR.sliceLoV (i := i + 1) rfl rfl (by omega) (by omega)) ?_) | (refine gD 76 ?_; refine RGl.rdX (fun e hk => by (try dsimp only [bndR, ensR, oksR, fcutR, List.append_nil, List.nil_append, List.cons_append, List.append_assoc] at hk ⊢); exact ReadR.sliceLoV (i := i) rfl rfl (by omega) (by omega)) ?_) | (refine gD 80 ?_; refine RGl.rdX (fun e hk => by (try dsimp only [bndR, ensR, oksR, fcutR, List.append_nil, List.nil_append, List.cons_append, List.append_assoc] at hk ⊢); exact ReadR.sliceLoV (i := i) rfl rfl (by omega) (by omega)) ?_) | (refine gOp ?_; (refine RGl.turn (fun e hk => by (try dsimp only [bndR, ensR, oksR, fcutR, List.append_nil, List.nil_append, List.cons_append, List.append_assoc] at hk ⊢); exact OpT.copyN (k := i + 1) (m := l.length + 1) (dLen := l.length + 1 - (i + 1)) (m2 := l.length + 1 - i) (ys := bks (l.drop i) ++ ys) rfl rfl takesA (hSrc _ memA) hl2 (l.length - i) hone2 (by show min _ _ = _; omega) (by omega) (by omega)) ?_)) | (refine gOp ?_; first | refine RGl.rdA ?_ | refine RGl.rdX (fun e hk => by (try dsimp only [bndR, ensR, oksR, fcutR, List.append_nil, List.nil_append, List.cons_append, List.append_assoc] at hk ⊢); exact readB) ?_) | (refine gCp ?_; refine RGl.cpA ?_) | (refine RGl.fin (fun e hk => ?_); (try dsimp only [bndA, ensAR, oksA, List.append_nil, List.nil_append, List.cons_append, List.append_assoc] at hk ⊢); (repeat (obtain ⟨hk1, hk⟩ := hk))) | fail)
   | (refine isCond ?_; first | refine WPc.cT ?_ | refine WPc.cF ?_ | (refine WPc.cQ (fun hc => ?_) (fun hc => ?_) <;> try exact prA))
   | (refine isD 12 ?_; refine WPl.rdX (ReadR.sliceLoV (i := i) rfl rfl (by omega) (by omega)) ?_)
   | (refine isD 16 ?_; refine WPl.rdX (ReadR.binE rfl rfl BinR.eql (congrArg Value.bool (decide_eq_false (show ¬ (1 : Int) = 0 by omega)))) ?_)
   | (refine isD 19 ?_; refine WPl.rdX (ReadR.lenV ⟨_, Try.underlying31⟩ rfl) ?_)
   | (refine isD 22 ?_; refine WPl.rdX (ReadR.binE rfl rfl BinR.eql (congrArg Value.bool (decide_eq_false hne))) ?_)
   | (refine isD 28 ?_; refine WPl.rdX (ReadR.binE rfl rfl (BinR.addI (by omega) (by omega)) hn1) ?_)
   | (refine isD 30 ?_; refine WPl.rdX (ReadR.capV ⟨_, Try.underlying31⟩ rfl) ?_)
   | (refine isD 31 ?_; refine WPl.rdX (ReadR.binE rfl rfl BinR.gtr (congrArg Value.bool (decide_eq_false hgt))) ?_)
   | (refine isD 59 ?_; refine WPl.rdX (ReadR.binE rfl rfl (BinR.addI (by omega) (by omega)) hn1) ?_)
   | (refine isD 60 ?_; refine WPl.rdX (ReadR.sliceCap (j := l.length + 1) rfl rfl (by omega)) ?_)
   | (refine isD 65 ?_; refine WPl.rdX (ReadR.binE rfl rfl (BinR.addI (by omega) (by omega)) hi1) ?_)
   | (refine isD 66 ?_; refine WPl.rdX (ReadR.sliceLoV (i := i + 1) rfl rfl (by omega) (by omega)) ?_)
   | (refine isD 67 ?_; refine WPl.ovl (m1 := 1) (m2 := l.length + 1) Try.func51 (by kernel_rfl) (by kernel_rfl) (by kernel_rfl) (by kernel_rfl) (by omega) (by omega) (xs := bks [c]) (ys := X1) (g1 := g1) (g2 := g) (c1 := c1) (c2 := cap) (tS := 31) (tR := 4) ?_)
   | (refine isD 72 ?_; refine WPl.rdX (ReadR.binE rfl rfl (BinR.addI (by omega) (by omega)) hi1) ?_)
   | (refine isD 73 ?_; refine WPl.rdX (ReadR.sliceLoV (i := i + 1) rfl rfl (by omega) (by omega)) ?_)
   | (refine isD 76 ?_; refine WPl.rdX (ReadR.sliceLoV (i := i) rfl rfl (by omega) (by omega)) ?_)
   | (refine isD 80 ?_; refine WPl.rdX (ReadR.sliceLoV (i := i) rfl rfl (by omega) (by omega)) ?_)
   | (refine isCp ?_; first | refine WPl.cpA fun v => ?_ | refine WPl.cpE fun v => ?_)
   | (refine isOp ?_; first | refine WPl.rd ?_ | refine WPl.sk ?_ | refine WPl.rdB ?_)
   | (show WPl _ _ _ _ _ _ _ (⟨_, .indexAddr _ _ _, _, _, _, _⟩ :: _) _; refine WPl.rdX (ReadR.indexE rfl rfl hasA (by first | assumption | omega)) ?_)
   | (show WPl _ _ _ _ _ _ _ (⟨_, .fieldAddr _ _ _, _, _, _, _⟩ :: _) _; refine WPl.rdX (ReadR.fieldE rfl hasA (by first | assumption | omega)) ?_)
   | (show WPl _ _ _ _ _ _ _ (⟨_, .load _ _, _, _, _, _⟩ :: _) _; first | refine WPl.rdX (ReadR.loadE rfl hasA (by assumption)) ?_ | refine WPl.rdX (ReadR.loadES (by assumption) (by first | assumption | omega) rfl hasA) ?_)
   | (show WPl _ _ _ _ _ _ _ (⟨_, .slice _ _ _ _ _, _, _, _, _⟩ :: _) _; first | refine WPl.rdX (ReadR.sliceH rfl rfl hasA (by omega)) ?_ | refine WPl.rdX (ReadR.sliceL rfl rfl hasA (by omega)) ?_ | refine WPl.rdX (ReadR.sliceLH rfl rfl rfl hasA (by omega) (by omega)) ?_)
   | (refine WPl.spQ (fun hc => ?_) (fun hc => ?_) <;> try exact prA)
   | fail)
  rw [← hX2]
  have hs82 : (X2.take (i * 21) ++ (bks [c]).take (1 * 21) ++ X2.drop (i * 21 + 1 * 21)) = bks (l.take i ++ c :: l.drop i) := by
    rw [← hbres, hX2, hX1]
    exact lay_shift hL (by omega) (by simpa using hc) hyl bks_take hLd
  repeat' (first
   | refine WPl.nil ?_ | refine WPq.then ?_ | refine WPq.thenR ?_ | refine WPq.thenE ?_ | refine WPq.blockN ?_ | refine WPq.blockR ?_ | refine WPq.blockE ?_ | refine WPq.blockO rfl ?_ | refine WPc.seq ?_ | refine WPc.block ?_ | refine WPc.ret ?_ | refine WPc.exit ?_ | refine WPc.skip ?_ | refine WPc.region ?_
   | (refine isCond ?_; first | refine WPc.cT ?_ | refine WPc.cF ?_ | (refine WPc.cQ (fun hc => ?_) (fun hc => ?_) <;> try exact prA))
   | (refine isD 82 ?_; refine WPl.copyN (k := i) (m := l.length + 1) (dLen := l.length + 1 - i) (m2 := 1) (ys := bks [c]) hasA hc 1 (fun u hu => hone u (List.mem_of_mem_take hu)) (Nat.min_eq_left (by omega)) (by omega) (by omega) (fun v82 => ?_) rfl)
   | (refine isCp ?_; first | refine WPl.cpA fun v => ?_ | refine WPl.cpE fun v => ?_)
   | (refine isOp ?_; first | refine WPl.rd ?_ | refine WPl.sk ?_ | refine WPl.rdB ?_)
   | (show WPl _ _ _ _ _ _ _ (⟨_, .indexAddr _ _ _, _, _, _, _⟩ :: _) _; refine WPl.rdX (ReadR.indexE rfl rfl hasA (by first | assumption | omega)) ?_)
   | (show WPl _ _ _ _ _ _ _ (⟨_, .fieldAddr _ _ _, _, _, _, _⟩ :: _) _; refine WPl.rdX (ReadR.fieldE rfl hasA (by first | assumption | omega)) ?_)
   | (show WPl _ _ _ _ _ _ _ (⟨_, .load _ _, _, _, _, _⟩ :: _) _; first | refine WPl.rdX (ReadR.loadE rfl hasA (by assumption)) ?_ | refine WPl.rdX (ReadR.loadES (by assumption) (by first | assumption | omega) rfl hasA) ?_)
   | (show WPl _ _ _ _ _ _ _ (⟨_, .slice _ _ _ _ _, _, _, _, _⟩ :: _) _; first | refine WPl.rdX (ReadR.sliceH rfl rfl hasA (by omega)) ?_ | refine WPl.rdX (ReadR.sliceL rfl rfl hasA (by omega)) ?_ | refine WPl.rdX (ReadR.sliceLH rfl rfl rfl hasA (by omega) (by omega)) ?_)
   | (refine WPl.spQ (fun hc => ?_) (fun hc => ?_) <;> try exact prA)
   | fail)
  rw [hs82, ← hres]
  exact WPq.dR
theorem Triple.knowG {P : Program} {f : FuncId} {args : Array Value} {Γ : List Asn} {R : Value → List Asn → Prop} {p : Prop} (hk : ∀ w, Holds Γ w → p) (h : p → Triple P f args Γ R) : Triple P f args Γ R := by
  with_unfolding_all exact fun w hw ha => h (hk w hw) w hw ha
theorem gins_t (vb v1 : Value) (l : List Bk) (c : Bk) (i : Nat) (hi : i ≤ l.length) (hl : l.length ≤ 1000) : Triple Try.prog 28 #[vb, .int .i64 (i : Int), v1] [rowN 36 21 vb l.length (bks l), rowN 36 21 v1 1 (bks [c])] (RRow 36 21 (l.take i ++ c :: l.drop i).length (bks (l.take i ++ c :: l.drop i))) := by
  by_cases hin : i = l.length
  · subst hin
    rw [List.take_of_length_le (Nat.le_refl _), List.drop_of_length_le (Nat.le_refl _)]
    exact ginsE_t vb v1 l c hl
  · refine Triple.knowG (row_room (v := vb) memA (by omega)) ?_
    rintro ⟨g, cap, rfl, hcap⟩
    by_cases hc : l.length + 1 ≤ cap
    · refine Triple.knowG (row_room (v := v1) memA (by omega)) ?_
      rintro ⟨g1, c1, rfl, hc1⟩
      exact ginsS_t g cap g1 c1 l c i (by omega) hl hc
    · exact ginsG_t g cap v1 l c i (by omega) hl hcap (by omega)
theorem gdelE_t (g cap : Nat) (l : List Bk) (i : Nat) (hi : i < l.length) (hl : l.length ≤ 1000) (hcap : l.length ≤ cap) : Triple Try.prog 46 #[.slice (some ⟨g, 0, none⟩) l.length cap, .int .i64 (i : Int), .int .i64 ((i + 1 : Nat) : Int)] [rowN 36 21 (.slice (some ⟨g, 0, none⟩) l.length cap) l.length (bks l)] (RRow 36 21 (l.take i ++ l.drop (i + 1)).length (bks (l.take i ++ l.drop (i + 1)))) := by
  have hL := bks_len (l := l)
  have hLt := bks_len (l := l.take i)
  have hLd := bks_len (l := l.drop (i + 1))
  rw [List.length_take] at hLt
  rw [List.length_drop] at hLd
  have honeD := bks_one' (l := l.drop (i + 1))
  have hne : ¬ (i : Int) = ((i + 1 : Nat) : Int) := by omega
  have hres : (l.take i ++ l.drop (i + 1)).length = l.length - 1 := by rw [List.length_append, List.length_take, List.length_drop]; omega
  have hkn : i + (l.length - (i + 1)) = l.length - 1 := by omega
  have hD : ∀ Γ, rowN 36 21 (.slice (some ⟨g, 0, none⟩) l.length cap) l.length (bks l) ∈ Γ → HasS Γ (subv 21 (.slice (some ⟨g, 0, none⟩) l.length cap) (i + 1) (l.length - (i + 1))) (l.length - (i + 1)) (bks (l.drop (i + 1))) := fun Γ h => by
    have := HasS.sub (HasS.row h) hL (k := i + 1) (n := l.length - (i + 1)) (by omega)
    rwa [bks_drop, List.take_of_length_le (by omega)] at this
  obtain ⟨X1, hX1⟩ : ∃ X1, X1 = (bks l).take (i * 21) ++ bks (l.drop (i + 1)) ++ (bks l).drop (i * 21 + (bks (l.drop (i + 1))).length) := ⟨_, rfl⟩
  have hX1l : X1.length = l.length * 21 := by rw [hX1, List.length_append, List.length_append, bks_take, List.length_drop]; omega
  have hX1t : X1.take ((l.length - 1) * 21) = bks (l.take i ++ l.drop (i + 1)) := by
    rw [hX1, bks_take, ← bks_app]
    exact List.take_left' (by rw [bks_len, hres])
  refine Triple.enter Try.func46 rfl Try.ntmps46 rfl (fun W => ?_)
  dsimp only [argsF, Nat.reduceAdd]
  repeat' (first
   | refine WPl.nil ?_ | refine WPq.then ?_ | refine WPq.thenR ?_ | refine WPq.thenE ?_ | refine WPq.blockN ?_ | refine WPq.blockR ?_ | refine WPq.blockE ?_ | refine WPq.blockO rfl ?_ | refine WPc.seq ?_ | refine WPc.block ?_ | refine WPc.ret ?_ | refine WPc.exit ?_ | refine WPc.skip ?_ | refine WPc.region ?_
   | (refine isReg 5 ?_; refine WPc.drA [([8], [21, 23, 24, 25]), ([8], [20, 23, 24, 25]), ([0, 1, 8], [20, 21, 23, 24, 25]), ([8], [20, 21, 22, 24]), ([8], [20, 21, 22, 23]), ([3, 4, 8], [20, 21, 22, 23, 24]), ([0, 1, 2, 3, 4, 5, 8], [20, 21, 22, 23, 24, 25]), ([0, 1, 2, 3, 4, 5, 6, 8], [20, 21, 22, 23, 24, 25, 26])] [(8, 6), (8, 0), (8, 1), (8, 2), (8, 3), (8, 4), (8, 5)] (Γx := [rowN 36 21 (.slice (some ⟨g, 0, none⟩) l.length cap) l.length (bks l)]) ?_; dsimp only [prev0, List.length_nil, List.length_cons])
   | (refine gAny ?_; first | (refine gD 12 ?_; refine RGl.rdX (fun e hk => by (try dsimp only [bndR, ensR, oksR, fcutR, List.append_nil, List.nil_append, List.cons_append, List.append_assoc] at hk ⊢); exact ReadR.lenV ⟨_, Try.underlying31⟩ rfl) ?_) | (refine gD 13 ?_; refine RGl.rdX (fun e hk => by (try dsimp only [bndR, ensR, oksR, fcutR, List.append_nil, List.nil_append, List.cons_append, List.append_assoc] at hk ⊢); exact ReadR.slice3V (i := i) (j := i + 1) (m := l.length) rfl rfl rfl rfl (by omega) (by omega) hcap) ?_) | (refine gD 16 ?_; refine RGl.rdX (fun e hk => by (try dsimp only [bndR, ensR, oksR, fcutR, List.append_nil, List.nil_append, List.cons_append, List.append_assoc] at hk ⊢); exact ReadR.binE rfl rfl BinR.eql (congrArg Value.bool (decide_eq_false hne))) ?_) | (refine gD 19 ?_; refine RGl.rdX (fun e hk => by (try dsimp only [bndR, ensR, oksR, fcutR, List.append_nil, List.nil_append, List.cons_append, List.append_assoc] at hk ⊢); exact ReadR.lenV ⟨_, Try.underlying31⟩ rfl) ?_) | (refine gD 22 ?_; refine RGl.rdX (fun e hk => by (try dsimp only [bndR, ensR, oksR, fcutR, List.append_nil, List.nil_append, List.cons_append, List.append_assoc] at hk ⊢); exact ReadR.sliceCap (j := i) rfl rfl (by omega)) ?_) | (refine gOp ?_; (refine RGl.turns (c := fun _ => .slice (some ⟨g, 0, none⟩) (i + (l.length - (i + 1))) cap) (fun e hk => by (try dsimp only [bndR, ensR, oksR, fcutR, List.append_nil, List.nil_append, List.cons_append, List.append_assoc] at hk ⊢); exact OpT.appIn (k := i) (m := l.length) (m2 := l.length - (i + 1)) (ys := bks (l.drop (i + 1))) rfl rfl takesA (hD _ memA) hLd honeD (by omega) (by omega)) ?_)) | (refine gOp ?_; first | refine RGl.rdA ?_ | refine RGl.rdX (fun e hk => by (try dsimp only [bndR, ensR, oksR, fcutR, List.append_nil, List.nil_append, List.cons_append, List.append_assoc] at hk ⊢); exact readB) ?_) | (refine gApp ?_; refine RGl.appA ?_) | (refine RGl.fin (fun e hk => ?_); (try dsimp only [bndA, ensAR, oksA, List.append_nil, List.nil_append, List.cons_append, List.append_assoc] at hk ⊢); (repeat (obtain ⟨hk1, hk⟩ := hk))) | fail)
   | (refine isCond ?_; first | refine WPc.cT ?_ | refine WPc.cF ?_ | (refine WPc.cQ (fun hc => ?_) (fun hc => ?_) <;> try exact prA))
   | (refine isD 12 ?_; refine WPl.rdX (ReadR.lenV ⟨_, Try.underlying31⟩ rfl) ?_)
   | (refine isD 13 ?_; refine WPl.rdX (ReadR.slice3V (i := i) (j := i + 1) (m := l.length) rfl rfl rfl rfl (by omega) (by omega) hcap) ?_)
   | (refine isD 16 ?_; refine WPl.rdX (ReadR.binE rfl rfl BinR.eql (congrArg Value.bool (decide_eq_false hne))) ?_)
   | (refine isD 19 ?_; refine WPl.rdX (ReadR.lenV ⟨_, Try.underlying31⟩ rfl) ?_)
   | (refine isD 22 ?_; refine WPl.rdX (ReadR.sliceCap (j := i) rfl rfl (by omega)) ?_)
   | (refine isOp ?_; first | refine WPl.rd ?_ | refine WPl.sk ?_ | refine WPl.rdB ?_)
   | (show WPl _ _ _ _ _ _ _ (⟨_, .indexAddr _ _ _, _, _, _, _⟩ :: _) _; refine WPl.rdX (ReadR.indexE rfl rfl hasA (by first | assumption | omega)) ?_)
   | (show WPl _ _ _ _ _ _ _ (⟨_, .fieldAddr _ _ _, _, _, _, _⟩ :: _) _; refine WPl.rdX (ReadR.fieldE rfl hasA (by first | assumption | omega)) ?_)
   | (show WPl _ _ _ _ _ _ _ (⟨_, .load _ _, _, _, _, _⟩ :: _) _; first | refine WPl.rdX (ReadR.loadE rfl hasA (by assumption)) ?_ | refine WPl.rdX (ReadR.loadES (by assumption) (by first | assumption | omega) rfl hasA) ?_)
   | (show WPl _ _ _ _ _ _ _ (⟨_, .slice _ _ _ _ _, _, _, _, _⟩ :: _) _; first | refine WPl.rdX (ReadR.sliceH rfl rfl hasA (by omega)) ?_ | refine WPl.rdX (ReadR.sliceL rfl rfl hasA (by omega)) ?_ | refine WPl.rdX (ReadR.sliceLH rfl rfl rfl hasA (by omega) (by omega)) ?_)
   | (refine WPl.spQ (fun hc => ?_) (fun hc => ?_) <;> try exact prA)
   | fail)
  rw [hkn, ← hX1]
  repeat' (first
   | refine WPl.nil ?_ | refine WPq.then ?_ | refine WPq.thenR ?_ | refine WPq.thenE ?_ | refine WPq.blockN ?_ | refine WPq.blockR ?_ | refine WPq.blockE ?_ | refine WPq.blockO rfl ?_ | refine WPc.seq ?_ | refine WPc.block ?_ | refine WPc.ret ?_ | refine WPc.exit ?_ | refine WPc.skip ?_ | refine WPc.region ?_
   | (refine isCond ?_; first | refine WPc.cT ?_ | refine WPc.cF ?_ | (refine WPc.cQ (fun hc => ?_) (fun hc => ?_) <;> try exact prA))
   | (refine isD 29 ?_; refine WPl.rdX (ReadR.lenV ⟨_, Try.underlying31⟩ rfl) ?_)
   | (refine isD 31 ?_; refine WPl.rdX (ReadR.sliceLHV (m := l.length) (i := l.length - 1) (j := l.length) rfl rfl rfl (by omega) hcap) ?_)
   | (show WPl _ _ _ _ _ _ _ (⟨none, .call ⟨.builtin .clear, _, _⟩, _, _, _, _⟩ :: _) _; refine WPl.clearN (e := 36) (sz := 21) (k := l.length - 1) (j := l.length - (l.length - 1)) (m := l.length) (s := .slice (some ⟨g, 0, none⟩) l.length cap) (xs := X1) (by kernel_rfl) (by omega) ?_)
   | (refine isOp ?_; first | refine WPl.rd ?_ | refine WPl.sk ?_ | refine WPl.rdB ?_)
   | (show WPl _ _ _ _ _ _ _ (⟨_, .indexAddr _ _ _, _, _, _, _⟩ :: _) _; refine WPl.rdX (ReadR.indexE rfl rfl hasA (by first | assumption | omega)) ?_)
   | (show WPl _ _ _ _ _ _ _ (⟨_, .fieldAddr _ _ _, _, _, _, _⟩ :: _) _; refine WPl.rdX (ReadR.fieldE rfl hasA (by first | assumption | omega)) ?_)
   | (show WPl _ _ _ _ _ _ _ (⟨_, .load _ _, _, _, _, _⟩ :: _) _; first | refine WPl.rdX (ReadR.loadE rfl hasA (by assumption)) ?_ | refine WPl.rdX (ReadR.loadES (by assumption) (by first | assumption | omega) rfl hasA) ?_)
   | (show WPl _ _ _ _ _ _ _ (⟨_, .slice _ _ _ _ _, _, _, _, _⟩ :: _) _; first | refine WPl.rdX (ReadR.sliceH rfl rfl hasA (by omega)) ?_ | refine WPl.rdX (ReadR.sliceL rfl rfl hasA (by omega)) ?_ | refine WPl.rdX (ReadR.sliceLH rfl rfl rfl hasA (by omega) (by omega)) ?_)
   | (refine WPl.spQ (fun hc => ?_) (fun hc => ?_) <;> try exact prA)
   | fail)
  refine WPq.rowDown (m := l.length) (xs := X1.take ((l.length - 1) * 21) ++ clr Try.prog 36 (l.length - (l.length - 1))) (l.length - 1) (by omega) (by omega) ?_
  rw [List.take_left' (by rw [List.length_take]; omega), hX1t, ← hres]
  exact WPq.dR
theorem gdel_t (vb : Value) (l : List Bk) (i : Nat) (hi : i < l.length) (hl : l.length ≤ 1000) : Triple Try.prog 46 #[vb, .int .i64 (i : Int), .int .i64 ((i + 1 : Nat) : Int)] [rowN 36 21 vb l.length (bks l)] (RRow 36 21 (l.take i ++ l.drop (i + 1)).length (bks (l.take i ++ l.drop (i + 1)))) := by
  refine Triple.knowG (row_room (v := vb) memA (by omega)) ?_
  rintro ⟨g, cap, rfl, hcap⟩
  exact gdelE_t g cap l i hi hl hcap
end Go.Proofs.Ytpjfkomicehinaa
