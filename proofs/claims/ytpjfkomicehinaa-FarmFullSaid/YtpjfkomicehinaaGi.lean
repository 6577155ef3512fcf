/- Rows: their capacity; copy, append and growth within them. -/
import Derived.Test.YtpjfkomicehinaaGb
import Derived.Lib.AppendZerosOnto
import Derived.Lib.Overlaps
import Derived.Laws.Externs
namespace Go.Proofs.Ytpjfkomicehinaa
open Go.RowKit
set_option linter.unusedSimpArgs false
set_option linter.unusedVariables false
theorem run_copyN {P : Program} (w : World) (dT sT ty elem : TypeId) (i : TypeInfo) (hu : P.underlying dT = some (.slice elem)) (hi : P.info? elem = some i) (g o dLen dCap : Nat) (a : Addr) (sLen sCap : Nat) (cur : Array Value) (t : TypeId) (cs : List Value)
    (hg : w.heap[g]? = some (.cells cur t (0, 0))) (hn : cs.length = Nat.min sLen dLen * i.size) (hsrc : ∀ j v, cs[j]? = some v → w.cell? (a.add j) = some v) (hfit : o + cs.length ≤ cur.size) (h1 : ∀ v ∈ cs, v.oneCell' = true) :
    (Builtin.copy_ #[dT, sT] ty #[.slice (some ⟨g, o, none⟩) dLen dCap, .slice (some a) sLen sCap]).run P w =
      .ok (goInt (Nat.min sLen dLen)) (w.setRow g (cur.toList.take o ++ cs ++ cur.toList.drop (o + cs.length)).toArray) := by
  have hf := run_firstCells_some (P := P) w i.size (Nat.min sLen dLen) a sLen sCap cs hn hsrc
  have hst := run_storeCells_at P g o t cs 0 cur w hg (by simpa using hfit) h1
  simp only [Nat.add_zero] at hst
  simp [Builtin.copy_, run_underlying hu, Builtin.lenOf, sizeOf, typeInfo, hi, hf, hst]
/-- A row that is not empty, and its room. -/
theorem row_room {Γ : List Asn} {e : TypeId} {sz m : Nat} {v : Value} {xs : List Value} (h : rowN e sz v m xs ∈ Γ) (hm : m ≠ 0) : ∀ w, Holds Γ w → ∃ g cap, v = .slice (some ⟨g, 0, none⟩) m cap ∧ m ≤ cap := fun w hw => by
  rcases (hw _ h).2 with ⟨_, h0⟩ | ⟨g, cap, cur, rfl, hB, hg, hnc, _⟩
  · exact absurd h0 hm
  · exact ⟨g, cap, rfl, hnc⟩
section
variable {P : Program} {n : Nat} {W : World} {S : Nat → Prop} {Γ : List Asn} {F : List (Nat × Value)} {Q : Exit → Act → World → Prop} {ops : Array Oper} {os : List Oper}
variable {d : Option Tmp} {ty : TypeId} {pos : String} {af : Array Edge} {gd : Option (Nat × Bool)}
theorem Good.rowTo {A B : Asn} {Γf : List Asn} {w : World} (ho : A.own = true) (hfp : ∀ g, B.fp g → A.fp g) (hh : A.holds w → B.holds w) (h : Good W S (A :: Γf) w) : Good W S (B :: Γf) w := by
  refine h.conv (fun ha C hC => ?_) (fun ha => ?_) (fun C hC hco g hg => ?_)
  · rcases List.mem_cons.1 hC with rfl | hC
    · exact hh (ha _ (List.mem_cons_self ..))
    · exact ha _ (List.mem_cons_of_mem _ hC)
  · rw [List.pairwise_cons] at ha ⊢
    exact ⟨fun C hC hor g hg => ha.1 C hC (.inl ho) g (hfp g hg), ha.2⟩
  · rcases List.mem_cons.1 hC with rfl | hC
    · exact ⟨A, List.mem_cons_self .., ho, hfp g hg⟩
    · exact ⟨C, List.mem_cons_of_mem _ hC, hco, hg⟩
/-- A row as one that is longer, within its room. -/
theorem WPc.rowUp {e : TypeId} {sz g cap m m' : Nat} {xs : List Value} {Γf : List Asn} {c : Code} (hm : m ≤ m') (hm0 : 0 < m) (hc : m' ≤ cap) (k : ∀ ys, xs.length + ys.length = m' * sz → WPc P n W S (rowN e sz (.slice (some ⟨g, 0, none⟩) m' cap) m' (xs ++ ys) :: Γf) F c Q) (hp : Take Γ (rowN e sz (.slice (some ⟨g, 0, none⟩) m cap) m xs) Γf := by first | exact takeA | fail) : WPc P n W S Γ F c Q := fun a w hf hg => by
  have hg' := hg.perm hp
  have hb : (rowN e sz (.slice (some ⟨g, 0, none⟩) m cap) m xs).holds w := hg'.all _ (List.mem_cons_self ..)
  obtain ⟨h2, h3⟩ := hb
  have hxl : xs.length = m * sz := h2
  rcases h3 with ⟨hv, _⟩ | ⟨g2, cap2, cur, hv, hB, hgg, hnc, hcm, hcs, ht⟩
  · cases hv
  · cases hv
    have e1 : m * sz ≤ m' * sz := Nat.mul_le_mul_right sz hm
    have e2 : m' * sz ≤ cap * sz := Nat.mul_le_mul_right sz hc
    have hl : xs.length + ((cur.toList.drop (m * sz)).take (m' * sz - m * sz)).length = m' * sz := by
      have hcl : cur.toList.length = cap * sz := by rw [Array.length_toList]; exact hcs
      rw [List.length_take, List.length_drop]; omega
    have he : xs ++ (cur.toList.drop (m * sz)).take (m' * sz - m * sz) = cur.toList.take (m' * sz) := by
      conv => rhs; rw [← List.take_append_drop (m * sz) (cur.toList.take (m' * sz))]
      rw [List.take_take, Nat.min_eq_left e1, List.drop_take, ht]
    refine k _ hl a w hf (hg'.rowTo rowN_own (fun g hg => by cases hg; rfl) fun _ => ⟨by rw [List.length_append]; exact hl, .inr ⟨g, cap, cur, rfl, hB, hgg, hc, hcm, hcs, ?_⟩⟩)
    exact he.symm
/-- A row as one that is shorter. -/
theorem row_down {e : TypeId} {sz g cap m m' : Nat} {xs : List Value} {w : World} (hm : m' ≤ m) (hm0 : 0 < m) (h : (rowN e sz (.slice (some ⟨g, 0, none⟩) m cap) m xs).holds w) : (rowN e sz (.slice (some ⟨g, 0, none⟩) m' cap) m' (xs.take (m' * sz))).holds w := by
  obtain ⟨h2, h3⟩ := h
  have hxl : xs.length = m * sz := h2
  have e1 : m' * sz ≤ m * sz := Nat.mul_le_mul_right sz hm
  rcases h3 with ⟨hv, _⟩ | ⟨g2, cap2, cur, hv, hB, hgg, hnc, hcm, hcs, ht⟩
  · cases hv
  · cases hv
    refine ⟨by rw [List.length_take]; omega, .inr ⟨g, cap, cur, rfl, hB, hgg, by omega, hcm, hcs, ?_⟩⟩
    rw [← ht, List.take_take, Nat.min_eq_left e1]
theorem WPc.rowDown {e : TypeId} {sz g cap m : Nat} {xs : List Value} {Γf : List Asn} {c : Code} (m' : Nat) (hm : m' ≤ m) (hm0 : 0 < m) (k : WPc P n W S (rowN e sz (.slice (some ⟨g, 0, none⟩) m' cap) m' (xs.take (m' * sz)) :: Γf) F c Q) (hp : Take Γ (rowN e sz (.slice (some ⟨g, 0, none⟩) m cap) m xs) Γf := by first | exact takeA | fail) : WPc P n W S Γ F c Q := fun a w hf hg =>
  k a w hf ((hg.perm hp).rowTo rowN_own (fun g hg => by cases hg; rfl) (row_down hm hm0))
theorem WPq.rowDown {e : TypeId} {sz g cap m : Nat} {xs : List Value} {Γf : List Asn} {ex : Exit} (m' : Nat) (hm : m' ≤ m) (hm0 : 0 < m) (k : WPq n W S (rowN e sz (.slice (some ⟨g, 0, none⟩) m' cap) m' (xs.take (m' * sz)) :: Γf) F Q ex) (hp : Take Γ (rowN e sz (.slice (some ⟨g, 0, none⟩) m cap) m xs) Γf := by first | exact takeA | fail) : WPq n W S Γ F Q ex := fun a w hf hg =>
  k a w hf ((hg.perm hp).rowTo rowN_own (fun g hg => by cases hg; rfl) (row_down hm hm0))
/-- A copy into a row: of what can be read, also of the row itself. -/
theorem OpT.copyN {dT sT e : TypeId} {sz : Nat} [hT : SliI P dT e] [he : EltN P e sz] {x y : Operand} {g cap m k dLen dCap m2 : Nat} {v2 : Value} {xs ys : List Value} {Γf : List Asn} (hx : evF F x = some (.slice (some ⟨g, k * sz, none⟩) dLen dCap)) (hy : evF F y = some v2) (hp : Takes Γ [rowN e sz (.slice (some ⟨g, 0, none⟩) m cap) m xs] Γf) (h2 : HasS Γ v2 m2 ys) (hm2 : ys.length = m2 * sz) (c : Nat) (h1 : ∀ u ∈ ys.take (c * sz), u.oneCell' = true) (hmin : Nat.min m2 dLen = c) (hfit : k + c ≤ m) (hpos : 0 < m2) :
    OpT P n Γ F ⟨d, .call { callee := .builtin .copy, args := #[x, y], argTypes := #[dT, sT] }, ty, pos, af, gd⟩ [rowN e sz (.slice (some ⟨g, 0, none⟩) m cap) m xs] (RLeave [rowN e sz (.slice (some ⟨g, 0, none⟩) m cap) m (xs.take (k * sz) ++ ys.take (c * sz) ++ xs.drop (k * sz + c * sz))]) := fun ρ w hf hw _ => by
  obtain ⟨i0, z, hi, hz0, hz1, hzs, hby, hsz⟩ := he.parts
  have hb : (rowN e sz (.slice (some ⟨g, 0, none⟩) m cap) m xs).holds w := hw _ (hp.mem_iff.2 (List.mem_cons_self ..))
  obtain ⟨a, cap2, hv2, g1, g2, g3, g4⟩ := (h2 w hw).at
  obtain ⟨h2', h3⟩ := hb
  have hxl : xs.length = m * sz := h2'
  have e3 : k * sz + c * sz ≤ m * sz := by rw [← Nat.add_mul]; exact Nat.mul_le_mul_right sz hfit
  rcases h3 with ⟨hv, _⟩ | ⟨g5, cap5, cur, hv, hB, hgg, hnc, hcm, hcs, ht⟩
  · cases hv
  cases hv
  have e2 : m * sz ≤ cap * sz := Nat.mul_le_mul_right sz hnc
  cases a with
  | none =>
    have := g3 rfl
    omega
  | some q =>
    subst hv2
    have hcm2 : c ≤ m2 := by rw [← hmin]; exact Nat.min_le_left _ _
    have e4 : c * sz ≤ m2 * sz := Nat.mul_le_mul_right sz hcm2
    obtain ⟨zs, hzz⟩ : ∃ zs, zs = ys.take (c * sz) := ⟨_, rfl⟩
    have hzl : zs.length = c * sz := by rw [hzz, List.length_take]; omega
    have hz1' : ∀ u ∈ zs, u.oneCell' = true := fun u hu => h1 u (by rw [hzz] at hu; exact hu)
    rw [← hzz]
    have hq : ∀ j u, zs[j]? = some u → w.cell? (q.add j) = some u := fun j u hj => by
      have hjl : j < zs.length := (List.getElem?_eq_some_iff.1 hj).1
      obtain ⟨ad, h, hc⟩ := g4 j u (by rw [hzz, List.getElem?_take_of_lt (by omega)] at hj; exact hj)
      cases h; exact hc
    have hrun := run_copyN (P := P) w dT sT ty e i0 hT.und hi g (k * sz) dLen dCap q m2 cap2 cur e zs hgg (by rw [hmin, hz1]; exact hzl) hq (by omega) hz1'
    have : (execOp ρ.eval ⟨d, .call { callee := .builtin .copy, args := #[x, y], argTypes := #[dT, sT] }, ty, pos, af, gd⟩).run P w = .ok (.value (goInt (Nat.min m2 dLen))) (w.setRow g (cur.toList.take (k * sz) ++ zs ++ cur.toList.drop (k * sz + zs.length)).toArray) := by
      simp only [execOp, resolve, invoke, builtin, Sem.run_bind, Sem.run_pure, Result.andThen_ok, List.map_toArray, List.map_cons, List.map_nil, hf.eval hx, hf.eval hy, hrun]
    unfold DoesW
    rw [this]
    have hg' : ownFp [rowN e sz (.slice (some ⟨g, 0, none⟩) m cap) m xs] g := ⟨_, List.mem_singleton.2 rfl, rfl, rfl⟩
    have hA : (cur.toList.take (k * sz)).length = k * sz := by rw [List.length_take]; simp; omega
    have hX : (xs.take (k * sz)).length = k * sz := by rw [List.length_take]; omega
    have hcl : cur.toList.length = cap * sz := by rw [Array.length_toList]; exact hcs
    rw [← hzl]
    refine ⟨_, rfl, .one (Mod.setRow hg' _ _) ⟨?_, .inr ⟨g, cap, _, rfl, hB, setRow_heap w g _ _ e (0, 0) hgg, hnc, hcm, ?_, ?_⟩⟩ fun k hk => .inr (by cases hk; exact hg')⟩
    · rw [List.length_append, List.length_append, hX, List.length_drop]; omega
    · simp only [List.size_toArray, List.length_append, hA, List.length_drop, hcl]
      omega
    · have e5 : cur.toList.take (k * sz) = xs.take (k * sz) := by rw [← ht, List.take_take]; congr 1; omega
      have e6 : (cur.toList.drop (k * sz + zs.length)).take (m * sz - (k * sz + zs.length)) = xs.drop (k * sz + zs.length) := by rw [← ht, List.drop_take]
      rw [List.toList_toArray, List.append_assoc, List.take_append, List.take_of_length_le (l := cur.toList.take (k * sz)) (by omega), List.take_append, hA, List.take_of_length_le (l := zs) (by omega), e5, List.append_assoc]
      congr 2
      rw [← e6]
      congr 1
      omega
/-- An append into what stands within the row. -/
theorem OpT.appIn {T e : TypeId} {sz : Nat} [hT : SliI P T e] [he : EltN P e sz] {x y : Operand} {g cap m k m2 : Nat} {v2 : Value} {xs ys : List Value} {Γf : List Asn} (hx : evF F x = some (.slice (some ⟨g, 0, none⟩) k cap)) (hy : evF F y = some v2) (hp : Takes Γ [rowN e sz (.slice (some ⟨g, 0, none⟩) m cap) m xs] Γf) (h2 : HasS Γ v2 m2 ys) (hm2 : ys.length = m2 * sz) (h1 : ∀ u ∈ ys, u.oneCell' = true) (hfit : k + m2 ≤ m) (hpos : 0 < m) :
    OpT P n Γ F ⟨d, .call { callee := .builtin .append, args := #[x, y], argTypes := #[T, T] }, ty, pos, af, gd⟩ [rowN e sz (.slice (some ⟨g, 0, none⟩) m cap) m xs] (RTurns (.slice (some ⟨g, 0, none⟩) (k + m2) cap) [rowN e sz (.slice (some ⟨g, 0, none⟩) m cap) m (xs.take (k * sz) ++ ys ++ xs.drop (k * sz + ys.length))]) := fun ρ w hf hw _ => by
  obtain ⟨i0, z, hi, hz0, hz1, hzs, hby, hsz⟩ := he.parts
  have hb : (rowN e sz (.slice (some ⟨g, 0, none⟩) m cap) m xs).holds w := hw _ (hp.mem_iff.2 (List.mem_cons_self ..))
  have hb0 := hb
  obtain ⟨a, cap2, hv2, g1, g2, g3, g4⟩ := (h2 w hw).at
  obtain ⟨h2', h3⟩ := hb
  have hxl : xs.length = m * sz := h2'
  have e3 : k * sz + m2 * sz ≤ m * sz := by rw [← Nat.add_mul]; exact Nat.mul_le_mul_right sz hfit
  rcases h3 with ⟨hv, _⟩ | ⟨g5, cap5, cur, hv, hB, hgg, hnc, hcm, hcs, ht⟩
  · cases hv
  cases hv
  have e2 : m * sz ≤ cap * sz := Nat.mul_le_mul_right sz hnc
  have hg' : ownFp [rowN e sz (.slice (some ⟨g, 0, none⟩) m cap) m xs] g := ⟨_, List.mem_singleton.2 rfl, rfl, rfl⟩
  cases a with
  | none =>
    have hc0 := g3 rfl
    have hm0 : m2 = 0 := by omega
    subst hm0 hc0 hv2
    have hy0 : ys = [] := List.length_eq_zero_iff.1 (by simpa using hm2)
    subst hy0
    have hk : k ≤ cap := by omega
    have hrun : (Builtin.append_ #[T, T] ty #[.slice (some ⟨g, 0, none⟩) k cap, .slice none 0 0]).run P w = .ok (.slice (some ⟨g, 0, none⟩) k cap) w := by
      simp [Builtin.append_, run_underlying hT.und, sizeOf, typeInfo, hi, Builtin.lenOf, hk, Builtin.firstCells, storeCells]
    have : (execOp ρ.eval ⟨d, .call { callee := .builtin .append, args := #[x, y], argTypes := #[T, T] }, ty, pos, af, gd⟩).run P w = .ok (.value (.slice (some ⟨g, 0, none⟩) k cap)) w := by
      simp only [execOp, resolve, invoke, builtin, Sem.run_bind, Sem.run_pure, Result.andThen_ok, List.map_toArray, List.map_cons, List.map_nil, hf.eval hx, hf.eval hy, hrun]
    unfold DoesW
    rw [this]
    have e : xs.take (k * sz) ++ [] ++ xs.drop (k * sz + ([] : List Value).length) = xs := by simp
    rw [e]
    exact ⟨_, ⟨rfl, rfl⟩, .one (Mod.refl _ _) hb0 fun g hg => .inr ⟨_, List.mem_singleton.2 rfl, rfl, hg⟩⟩
  | some q =>
    subst hv2
    have hq : ∀ j u, ys[j]? = some u → w.cell? (q.add j) = some u := fun j u hj => by
      obtain ⟨ad, h, hc⟩ := g4 j u hj
      cases h; exact hc
    have hrun := run_append_room (P := P) w T ty e i0 hT.und hi g k cap cur hgg q m2 cap2 ys (by rw [hz1]; exact hm2) hq h1 (by omega) (by rw [hz1]; omega)
    rw [hz1] at hrun
    have : (execOp ρ.eval ⟨d, .call { callee := .builtin .append, args := #[x, y], argTypes := #[T, T] }, ty, pos, af, gd⟩).run P w = .ok (.value (.slice (some ⟨g, 0, none⟩) (k + m2) cap)) (w.setRow g (cur.toList.take (k * sz) ++ ys ++ cur.toList.drop (k * sz + ys.length)).toArray) := by
      simp only [execOp, resolve, invoke, builtin, Sem.run_bind, Sem.run_pure, Result.andThen_ok, List.map_toArray, List.map_cons, List.map_nil, hf.eval hx, hf.eval hy, hrun]
    unfold DoesW
    rw [this]
    have hA : (cur.toList.take (k * sz)).length = k * sz := by rw [List.length_take]; simp; omega
    have hX : (xs.take (k * sz)).length = k * sz := by rw [List.length_take]; omega
    have hcl : cur.toList.length = cap * sz := by rw [Array.length_toList]; exact hcs
    refine ⟨_, ⟨rfl, rfl⟩, .one (Mod.setRow hg' _ _) ⟨?_, .inr ⟨g, cap, _, rfl, hB, setRow_heap w g _ _ e (0, 0) hgg, hnc, hcm, ?_, ?_⟩⟩ fun k hk => .inr (by cases hk; exact hg')⟩
    · rw [List.length_append, List.length_append, hX, List.length_drop]; omega
    · simp only [List.size_toArray, List.length_append, hA, List.length_drop, hcl]
      omega
    · have e5 : cur.toList.take (k * sz) = xs.take (k * sz) := by rw [← ht, List.take_take]; congr 1; omega
      have e6 : (cur.toList.drop (k * sz + ys.length)).take (m * sz - (k * sz + ys.length)) = xs.drop (k * sz + ys.length) := by rw [← ht, List.drop_take]
      rw [List.toList_toArray, List.append_assoc, List.take_append, List.take_of_length_le (l := cur.toList.take (k * sz)) (by omega), List.take_append, hA, List.take_of_length_le (l := ys) (by omega), e5, List.append_assoc]
      congr 2
      rw [← e6]
      congr 1
      omega
/-- Growth by so many elements of no value. -/
theorem OpT.appZ {T tn e : TypeId} {sz : Nat} [hT : SliI P T e] [he : EltN P e sz] {x y : Operand} {a : Addr} {k cap j : Nat} {ys : List Value} (htn : P.underlying tn = some (.int .i64)) (hx : evF F x = some (.slice (some a) k cap)) (hy : evF F y = some (.int .i64 (j : Int))) (h2 : HasS Γ (.slice (some a) k cap) k ys) (hm2 : ys.length = k * sz) (hj : 0 < j) (hcap : cap < k + j) (hk : k + j ≤ 1000000000) :
    OpT P n Γ F ⟨d, .call { callee := .builtin .append, args := #[x, y], argTypes := #[T, tn] }, ty, pos, af, gd⟩ [] (RRow e sz (k + j) (ys ++ clr P e j)) := fun ρ w hf hw _ => by
  obtain ⟨i0, z, hi, hz0, hz1, hzs, hby, hsz⟩ := he.parts
  have hq : ∀ i u, ys[i]? = some u → w.cell? (a.add i) = some u := fun i u hi' => by
    obtain ⟨a', cap', hv, _, _, _, g4⟩ := (h2 w hw).at
    cases hv
    obtain ⟨ad, h, hc⟩ := g4 i u hi'
    cases h; exact hc
  have hold : (Builtin.firstCells i0.size k (.slice (some a) k cap)).run P w.drew = .ok ys.toArray w.drew := run_firstCells_some (w := w.drew) (P := P) i0.size k a k cap ys (by rw [hz1]; exact hm2) hq
  have hcl : clr P e j = (Builtin.zeroCells z.cells j).toList := by unfold clr; rw [hi]; simp [hz0]
  have hlen : (clr P e j).length = j * sz := by rw [hcl]; simp [Builtin.zeroCells, hzs]
  have hb1 : j * i0.bytes ≤ 1000000000 * 512 := Nat.mul_le_mul (by omega) hby
  have hb2 : (k + j) * i0.bytes ≤ 1000000000 * 512 := Nat.mul_le_mul hk hby
  have hnx := growslice_fits (bytes := i0.bytes) hcap (by omega)
  have hrun := Lib.run_append_grow_zeros (P := P) w T tn ty e i0 z .i64 .i64 hT.und htn hi hz0 (some a) k cap ys hold j hj (by rw [hz1]; exact hsz) hcap (by omega) (by omega) hnx
  have : (execOp ρ.eval ⟨d, .call { callee := .builtin .append, args := #[x, y], argTypes := #[T, tn] }, ty, pos, af, gd⟩).run P w = .ok (.value (.slice (some ⟨w.heap.size, 0, none⟩) (k + j) (grownCap w (k + j) cap e))) (w.drew.alloc (.cells (ys.toArray ++ Builtin.zeroCells z.cells j ++ Builtin.zeroCells z.cells (grownCap w (k + j) cap e - (k + j))) e)) := by
    simp only [execOp, resolve, invoke, builtin, Sem.run_bind, Sem.run_pure, Result.andThen_ok, List.map_toArray, List.map_cons, List.map_nil, hf.eval hx, hf.eval hy, hrun]
  unfold DoesW
  rw [this]
  have hge := grownCap_ge w (k + j) cap e
  have hcm : grownCap w (k + j) cap e ≤ maxLen := grownCap_le_maxLen w (k + j) cap e (by unfold maxLen; omega)
  have h4 : w.grownBy (w.drew.alloc (.cells (ys.toArray ++ Builtin.zeroCells z.cells j ++ Builtin.zeroCells z.cells (grownCap w (k + j) cap e - (k + j))) e)) none := ⟨rfl, rfl, rfl, by simp, fun k hk _ => heap_alloc_old w.drew _ hk⟩
  refine ⟨_, ⟨rfl, rfl⟩, .one ⟨h4.os, h4.tape, h4.output, h4.size, h4.size, fun g hg hn => h4.block g hg (fun hh => by cases hh)⟩ ⟨?_, .inr ⟨w.heap.size, _, _, rfl, Nat.zero_le _, heap_alloc_new w.drew _, hge, hcm, ?_, ?_⟩⟩ fun g hg => .inl (by cases hg; exact Nat.le_refl _)⟩
  · rw [List.length_append, hm2, hlen, Nat.add_mul]
  · simp only [Array.size_append, List.size_toArray, size_zeroCells, hzs, hm2, ← Nat.add_mul]
    congr 1
    omega
  · rw [Array.toList_append, Array.toList_append, List.toList_toArray, ← hcl]
    have : (k + j) * sz = (ys ++ clr P e j).length := by rw [List.length_append, hm2, hlen, Nat.add_mul]
    rw [this]
    exact List.take_left
theorem ReadR.capV {x : Operand} {T : TypeId} {a : Option Addr} {l cap : Nat} (hT : ∃ e, P.underlying T = some (.slice e)) (hx : evF F x = some (.slice a l cap)) : ReadR P n Γ F ⟨d, .call { callee := .builtin .cap, args := #[x], argTypes := #[T] }, ty, pos, af, gd⟩ (.int .i64 (cap : Int)) := fun ρ w hf hw => by
  obtain ⟨e, hT⟩ := hT
  simp [execOp, resolve, invoke, builtin, Builtin.cap_, hf.eval hx, run_underlying hT, goInt]
theorem ReadR.sliceCap {T e : TypeId} {ag : Bool} {sz : Nat} [hT : SliI P T e] [he : TyI P e ag sz] {x hi : Operand} {a : Addr} {l cap j : Nat} {k2 : IntKind} (hx : evF F x = some (.slice (some a) l cap)) (hh : evF F hi = some (.int k2 (Int.ofNat j))) (hj : j ≤ cap) :
    ReadR P n Γ F ⟨d, .slice T x none (some hi) none, ty, pos, af, gd⟩ (.slice (some a) j cap) := fun ρ w hf hw => by
  have b1 : ∀ c, (Instr.sliceBound (.int k2 (Int.ofNat j)) cap c).run P w = .ok j w := fun c => run_bound hj
  simp only [execOp, hf.eval hx, hf.eval hh, Option.map_some, Option.map_none, Instr.sliceAt, Instr.slice, run_underlying hT.und, Sem.run_bind, Result.andThen_ok, Instr.sliceBounds, Sem.run_pure, if_true, b1, he.run_sizeOf, Option.isSome_none, Bool.false_eq_true, if_false]
  split <;> simp [Addr.add]
theorem ReadR.sliceLoV {T e : TypeId} {ag : Bool} {sz : Nat} [hT : SliI P T e] [he : TyI P e ag sz] {x lo : Operand} {g l cap i : Nat} {k1 : IntKind} (hx : evF F x = some (.slice (some ⟨g, 0, none⟩) l cap)) (hl : evF F lo = some (.int k1 (Int.ofNat i))) (hi : i ≤ l) (hc : i < cap) :
    ReadR P n Γ F ⟨d, .slice T x (some lo) none none, ty, pos, af, gd⟩ (.slice (some ⟨g, i * sz, none⟩) (l - i) (cap - i)) := fun ρ w hf hw => by
  have b2 : ∀ c, (Instr.sliceBound (.int k1 (Int.ofNat i)) l c).run P w = .ok i w := fun c => run_bound hi
  have hne : ¬ cap - i = 0 := by omega
  have hne2 : ¬ cap = i := by omega
  have ha : (⟨g, 0, none⟩ : Addr).add (i * sz) = ⟨g, i * sz, none⟩ := by
    unfold Addr.add
    split
    · rename_i h0; rw [h0]
    · simp
  simp only [execOp, hf.eval hx, hf.eval hl, Option.map_some, Option.map_none, Instr.sliceAt, Instr.slice, run_underlying hT.und, Sem.run_bind, Result.andThen_ok, Instr.sliceBounds, Sem.run_pure, if_true, b2, he.run_sizeOf, Option.isSome_none, Bool.false_eq_true, if_false]
  split <;> simp_all
theorem ReadR.sliceLHV {T e : TypeId} {ag : Bool} {sz : Nat} [hT : SliI P T e] [he : TyI P e ag sz] {x lo hi : Operand} {g l cap i j m : Nat} {k1 k2 : IntKind} (hx : evF F x = some (.slice (some ⟨g, 0, none⟩) l cap)) (hl : evF F lo = some (.int k1 (Int.ofNat i))) (hh : evF F hi = some (.int k2 (Int.ofNat j))) (hij : i ≤ j) (hj : j ≤ cap) :
    ReadR P n Γ F ⟨d, .slice T x (some lo) (some hi) none, ty, pos, af, gd⟩ (subv sz (.slice (some ⟨g, 0, none⟩) m cap) i (j - i)) := fun ρ w hf hw => by
  have b1 : ∀ c, (Instr.sliceBound (.int k2 (Int.ofNat j)) cap c).run P w = .ok j w := fun c => run_bound hj
  have b2 : ∀ c, (Instr.sliceBound (.int k1 (Int.ofNat i)) j c).run P w = .ok i w := fun c => run_bound hij
  simp only [execOp, hf.eval hx, hf.eval hl, hf.eval hh, Option.map_some, Option.map_none, Instr.sliceAt, Instr.slice, run_underlying hT.und, Sem.run_bind, Result.andThen_ok, Instr.sliceBounds, Sem.run_pure, if_true, b1, b2, he.run_sizeOf, Option.isSome_none, Bool.false_eq_true, if_false]
  simp only [subv]; split <;> simp
theorem ReadR.slice3V {T e : TypeId} {ag : Bool} {sz : Nat} [hT : SliI P T e] [he : TyI P e ag sz] {x lo hi mx : Operand} {g l cap i j m : Nat} {k1 k2 k3 : IntKind} (hx : evF F x = some (.slice (some ⟨g, 0, none⟩) l cap)) (hl : evF F lo = some (.int k1 (Int.ofNat i))) (hh : evF F hi = some (.int k2 (Int.ofNat j))) (hm : evF F mx = some (.int k3 (Int.ofNat m))) (hij : i ≤ j) (hj : j ≤ m) (hmc : m ≤ cap) :
    ReadR P n Γ F ⟨d, .slice T x (some lo) (some hi) (some mx), ty, pos, af, gd⟩ (.slice (some (if m = i then ⟨g, 0, none⟩ else (⟨g, 0, none⟩ : Addr).add (i * sz))) (j - i) (m - i)) := fun ρ w hf hw => by
  have b0 : ∀ c, (Instr.sliceBound (.int k3 (Int.ofNat m)) cap c).run P w = .ok m w := fun c => run_bound hmc
  have b1 : ∀ c, (Instr.sliceBound (.int k2 (Int.ofNat j)) m c).run P w = .ok j w := fun c => run_bound hj
  have b2 : ∀ c, (Instr.sliceBound (.int k1 (Int.ofNat i)) j c).run P w = .ok i w := fun c => run_bound hij
  simp only [execOp, hf.eval hx, hf.eval hl, hf.eval hh, hf.eval hm, Option.map_some, Option.map_none, Instr.sliceAt, Instr.slice, run_underlying hT.und, Sem.run_bind, Result.andThen_ok, Instr.sliceBounds, Sem.run_pure, if_true, b0, b1, b2, he.run_sizeOf, Option.isSome_some, Option.isSome_none, Bool.false_eq_true, if_false]
  split <;> simp_all
theorem ReadR.lenV {x : Operand} {T : TypeId} {a : Option Addr} {l cap : Nat} (hT : ∃ e, P.underlying T = some (.slice e)) (hx : evF F x = some (.slice a l cap)) : ReadR P n Γ F ⟨d, .call { callee := .builtin .len, args := #[x], argTypes := #[T] }, ty, pos, af, gd⟩ (.int .i64 (l : Int)) := fun ρ w hf hw => by
  obtain ⟨e, hT⟩ := hT
  simp [execOp, resolve, invoke, builtin, Builtin.len_, hf.eval hx, run_underlying hT, goInt]
theorem subv_0 {sz g m cap j : Nat} : subv sz (.slice (some ⟨g, 0, none⟩) m cap) 0 j = .slice (some ⟨g, 0, none⟩) j cap := by
  unfold subv
  simp [Addr.add]
theorem subv_k {sz g m cap k j : Nat} (h : cap ≠ k) : subv sz (.slice (some ⟨g, 0, none⟩) m cap) k j = .slice (some ⟨g, k * sz, none⟩) j (cap - k) := by
  show Value.slice (some (if cap = k then (⟨g, 0, none⟩ : Addr) else (⟨g, 0, none⟩ : Addr).add (k * sz))) j (cap - k) = _
  rw [if_neg h]
  unfold Addr.add
  split
  · rename_i h0; rw [h0]
  · simp
theorem WPl.copyN {dT sT e : TypeId} {sz d' : Nat} [hT : SliI P dT e] [he : EltN P e sz] {x y : Operand} {g cap m k dLen dCap m2 : Nat} {v2 : Value} {xs ys : List Value} {Γf : List Asn} (h2 : HasS Γ v2 m2 ys) (hm2 : ys.length = m2 * sz) (c : Nat) (h1 : ∀ u ∈ ys.take (c * sz), u.oneCell' = true) (hmin : Nat.min m2 dLen = c) (hfit : k + c ≤ m) (hpos : 0 < m2)
    (k0 : ∀ v, WPl P n W S (rowN e sz (.slice (some ⟨g, 0, none⟩) m cap) m (xs.take (k * sz) ++ ys.take (c * sz) ++ xs.drop (k * sz + c * sz)) :: Γf) ((d', v) :: F) ops os Q)
    (hx : evF F x = some (.slice (some ⟨g, k * sz, none⟩) dLen dCap)) (hy : evF F y = some v2 := by first | rfl | fail) (hp : Take Γ (rowN e sz (.slice (some ⟨g, 0, none⟩) m cap) m xs) Γf := by first | exact takeA | fail) (hlt : Nat.blt d' n = true := by first | rfl | fail) (hw : wantG F ops gd = some true := by first | rfl | fail) :
    WPl P n W S Γ F ops (⟨some d', .call { callee := .builtin .copy, args := #[x, y], argTypes := #[dT, sT] }, ty, pos, af, gd⟩ :: os) Q :=
  WPl.op (.cons hp .nil) hlt hw (OpT.copyN hx hy (.cons hp .nil) h2 hm2 c h1 hmin hfit hpos) (by rintro v Γ' rfl; exact k0 v)
theorem WPl.appZ {T tn e : TypeId} {sz d' : Nat} [hT : SliI P T e] [he : EltN P e sz] {x y : Operand} {a : Addr} {k cap j : Nat} {ys : List Value} (htn : P.underlying tn = some (.int .i64)) (h2 : HasS Γ (.slice (some a) k cap) k ys) (hm2 : ys.length = k * sz) (hj : 0 < j) (hcap : cap < k + j) (hk : k + j ≤ 1000000000)
    (k0 : ∀ v, v.oneCell' = true → WPl P n W S (rowN e sz v (k + j) (ys ++ clr P e j) :: Γ) ((d', v) :: F) ops os Q)
    (hx : evF F x = some (.slice (some a) k cap) := by first | rfl | fail) (hy : evF F y = some (.int .i64 (j : Int)) := by first | rfl | fail) (hlt : Nat.blt d' n = true := by first | rfl | fail) (hw : wantG F ops gd = some true := by first | rfl | fail) :
    WPl P n W S Γ F ops (⟨some d', .call { callee := .builtin .append, args := #[x, y], argTypes := #[T, tn] }, ty, pos, af, gd⟩ :: os) Q :=
  WPl.row .nil rfl hlt hw (OpT.appZ htn hx hy h2 hm2 hj hcap hk) k0
end
end Go.Proofs.Ytpjfkomicehinaa
