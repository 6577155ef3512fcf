/- What the row of cachePlays_holds needs: part 4. -/
import Derived.Test.YtepmikgjnmjheaaKp3
import Derived.Shelf.Slices.In.SortNone
import Derived.Shelf.Sort.Plain
/- The keys of a map of ints, sorted: slices.Sorted(maps.Keys(m)). -/
namespace Go.Proofs.Ytepmikgjnmjheaa
open Go.RowKit Go.Sort Go.Shelf
set_option linter.unusedSimpArgs false
set_option linter.unusedVariables false
def intsV (l : List Int) : List Value := l.map (Value.int .i64)
/-- A map of ints, whatever it holds. -/
theorem mapI_int {V : Type} {P : Program} {T kT eT : TypeId} {M : MK Int V} (hu : P.underlying T = some (.map kT eT)) (hk : P.underlying kT = some (.int .i64)) (hkt : P.keyType kT = true) (hM : ∀ k, M.kc k = .int .i64 k) (hwf : ∀ k, M.wf k → in64 k) (hz : (P.info? eT).bind (·.zero) = some (M.vc M.v0)) : MapI P T M where
  law := ⟨kT, eT, hu, Go.Maps.int_keyed hk, fun k h => by
    have h1 := hwf k h
    have h2 : (Lit.int .i64 k).wf = true := in64_wf h1
    rw [hM]
    exact ⟨.int .i64 k, by simp [keyOf, hk, mapKey, h2]⟩, fun w => run_zero hz w⟩
  inj := fun a b h => by rw [hM, hM] at h; simpa using h
/-- How its values are read: not at all. -/
def anyR : Value → Option (DataW Unit × List MemPlace) := fun _ => some (.nil, [])
def RKeys (m : Nat) : Value → List Asn → Prop := fun v Γ => ∃ g, v = .func (.func 78) #[] #[.pointer (some ⟨g, 0, none⟩)] ∧ Γ = [bx g 76 [(1, [.map (some m)])]]
end Go.Proofs.Ytepmikgjnmjheaa
/- Layer 3 (dev): what a device stands for: sectors that last, rows of sectors that wait; rows of sectors, bags of rows. -/
namespace Go.Proofs.Ytepmikgjnmjheaa
open Go.RowKit Go.Sort
set_option linter.unusedSimpArgs false
set_option linter.unusedVariables false
set_option linter.unusedSectionVars false

structure Sec where
  b : List UInt8
  len : b.length = 256
abbrev secC (s : Sec) : Ch := [(256, u8s s.b)]
theorem secC_len (s : Sec) : (flat (secC s)).length = 256 := by show (u8s s.b).length = 256; rw [u8s_length]; exact s.len
def secs (l : List Sec) : List Value := (l.map fun s => flat (secC s)).flatten
theorem secs_len (l : List Sec) : (secs l).length = l.length * 256 := rows_len secC_len
theorem secs_app (l k : List Sec) : secs (l ++ k) = secs l ++ secs k := by unfold secs; rw [List.map_append, List.flatten_append]
theorem secs_1 (s : Sec) : secs [s] = u8s s.b := by simp [secs, flat]
theorem secs_at {l : List Sec} {i : Nat} {s : Sec} (h : l[i]? = some s) : ((secs l).drop (i * 256)).take 256 = u8s s.b := rows_drop secC_len h
theorem secC_ok (s : Sec) : FOk (secC s) := FOk.bytes s.len .nil
theorem secs_set {l : List Sec} {i : Nat} (s : Sec) (h : i < l.length) : (secs l).take (i * 256) ++ flat (secC s) ++ (secs l).drop (i * 256 + 256) = secs (l.set i s) := by
  induction l generalizing i with
  | nil => cases h
  | cons x l ih =>
    have hx : (flat (secC x)).length = 256 := secC_len x
    have hc : secs (x :: l) = flat (secC x) ++ secs l := rfl
    cases i with
    | zero =>
      rw [hc, Nat.zero_mul, List.take_zero, List.nil_append, Nat.zero_add, List.set_cons_zero]
      show _ = flat (secC s) ++ secs l
      congr 1
      rw [← hx, List.drop_left]
    | succ i =>
      have hi : i < l.length := by simpa using h
      rw [hc, List.set_cons_succ]
      show _ = flat (secC x) ++ secs (l.set i s)
      rw [← ih hi, show (i + 1) * 256 = 256 + i * 256 by omega, ← hx, List.take_length_add_append, Nat.add_assoc, List.drop_length_add_append, List.append_assoc, List.append_assoc, List.append_assoc]
def secF (b : UInt8) : Sec := ⟨List.replicate 256 b, List.length_replicate⟩
structure Vs where
  v : Value
  ws : List Sec
def secM : MK Int Vs := ⟨fun k => .int .i64 k, fun x => x.v, ⟨.slice none 0 0, []⟩, in64⟩
instance secI : MapI Try.prog 76 secM :=
  mapI_int (kT := 3) (eT := 75) (by kernel_rfl) (by kernel_rfl) (by kernel_rfl) (fun _ => rfl) (fun _ h => h) (by kernel_rfl)
instance secEN : EltN Try.prog 81 256 := ⟨by kernel_rfl⟩
def vrow (x : Int × Vs) : Asn := rowN 81 256 x.2.v x.2.ws.length (secs x.2.ws)
def bag (es : List (Int × Vs)) : Asn := star (es.map vrow)
theorem bag_own {es : List (Int × Vs)} : (bag es).own = true := rfl
theorem vrows_own {es : List (Int × Vs)} : ∀ A, A ∈ es.map vrow → A.own = true := by
  intro A hA
  obtain ⟨x, _, rfl⟩ := List.mem_map.1 hA
  rfl
section
variable {P : Program} {n : Nat} {W : World} {S : Nat → Prop} {Γ : List Asn} {F : List (Nat × Value)} {Q : Exit → Act → World → Prop} {ops : Array Oper} {os : List Oper}
variable {ty : TypeId} {pos : String} {af : Array Edge} {gd : Option (Nat × Bool)}
theorem Good.bagOut {es es' : List (Int × Vs)} {x : Int × Vs} {Γf : List Asn} {w : World} (hp : es.Perm (x :: es')) (h : Good W S (bag es :: Γf) w) : Good W S (vrow x :: bag es' :: Γf) w := by
  have h1 := h.open' vrows_own
  have hq : (es.map vrow ++ Γf).Perm (es'.map vrow ++ (vrow x :: Γf)) := by
    refine ((hp.map vrow).append_right Γf).trans ?_
    rw [List.map_cons, List.cons_append]
    exact (List.perm_middle (a := vrow x) (l₁ := es'.map vrow) (l₂ := Γf)).symm
  have h2 := (h1.perm hq).close vrows_own
  exact h2.perm (.swap ..)
theorem Good.bagIn {es es' : List (Int × Vs)} {x : Int × Vs} {Γf : List Asn} {w : World} (hp : es.Perm (x :: es')) (h : Good W S (vrow x :: bag es' :: Γf) w) : Good W S (bag es :: Γf) w := by
  have h1 := (h.perm (.swap (bag es') (vrow x) Γf)).open' vrows_own
  have hq : (es'.map vrow ++ (vrow x :: Γf)).Perm (es.map vrow ++ Γf) := by
    refine .symm (((hp.map vrow).append_right Γf).trans ?_)
    rw [List.map_cons, List.cons_append]
    exact (List.perm_middle (a := vrow x) (l₁ := es'.map vrow) (l₂ := Γf)).symm
  exact (h1.perm hq).close vrows_own
theorem Good.bag0 {w : World} (h : Good W S Γ w) : Good W S (bag [] :: Γ) w := Good.close (Γ1 := []) (by intro A hA; cases hA) h
theorem nilRow_out {es : List (Int × Vs)} {i : Int} {w : World} (h0 : mhas es i = false) : mget secM es i = ⟨.slice none 0 0, []⟩ ∧ mdel es i = es := by
  have hf : mfind es i = none := by unfold mhas at h0; simpa using h0
  exact ⟨by unfold mget; rw [hf]; rfl, (mfind_none (mfind_none_of hf)).2.2⟩
theorem mdel_perm {es : List (Int × Vs)} {i : Int} {y : Vs} (h : mfind es i = some y) : es.Perm ((i, y) :: mdel es i) := by
  induction es with
  | nil => cases h
  | cons a l ih =>
    unfold mfind at h
    unfold mdel
    by_cases ha : a.1 = i
    · rw [if_pos ha] at h ⊢
      cases h
      rw [← ha]
    · rw [if_neg ha] at h ⊢
      exact ((ih h).cons a).trans (.swap ..)
theorem mput_perm {es : List (Int × Vs)} {i : Int} {y : Vs} : (mput es i y).Perm ((i, y) :: mdel es i) := by
  induction es with
  | nil => exact .refl _
  | cons a l ih =>
    unfold mput mdel
    by_cases ha : a.1 = i
    · rw [if_pos ha, if_pos ha]
    · rw [if_neg ha, if_neg ha]
      exact (ih.cons a).trans (.swap ..)
/-- The row of one key, taken out. -/
theorem Good.vsOut {es : List (Int × Vs)} {Γf : List Asn} {w : World} (i : Int) (h : Good W S (bag es :: Γf) w) : Good W S (rowN 81 256 (mget secM es i).v (mget secM es i).ws.length (secs (mget secM es i).ws) :: bag (mdel es i) :: Γf) w := by
  cases hf : mfind es i with
  | none =>
    have h0 : mhas es i = false := by unfold mhas; rw [hf]; rfl
    obtain ⟨h1, h2⟩ := nilRow_out (w := w) h0
    rw [h1, h2]
    refine ⟨h.mod, fun A hA => ?_, List.pairwise_cons.2 ⟨fun B _ _ g hg' _ => (by cases (show (none : Option Nat) = some g from hg')), h.apart⟩, fun A hA ho g hg' => ?_⟩
    · rcases List.mem_cons.1 hA with rfl | hA
      · exact World.ownsRow_nil w 0 _ 256
      · exact h.all A hA
    · rcases List.mem_cons.1 hA with rfl | hA
      · exact (by cases (show (none : Option Nat) = some g from hg'))
      · exact h.mine A hA ho g hg'
  | some y =>
    have : mget secM es i = y := by unfold mget; rw [hf]; rfl
    rw [this]
    exact h.bagOut (mdel_perm hf)
theorem Good.vsIn {es : List (Int × Vs)} {Γf : List Asn} {w : World} (i : Int) (y : Vs) (h : Good W S (rowN 81 256 y.v y.ws.length (secs y.ws) :: bag (mdel es i) :: Γf) w) : Good W S (bag (mput es i y) :: Γf) w := h.bagIn (x := (i, y)) mput_perm
theorem WPc.vsOut {c : Code} {es : List (Int × Vs)} {Γf : List Asn} (i : Int) (k : WPc P n W S (rowN 81 256 (mget secM es i).v (mget secM es i).ws.length (secs (mget secM es i).ws) :: bag (mdel es i) :: Γf) F c Q) (hp : Take Γ (bag es) Γf := by first | exact takeA | fail) : WPc P n W S Γ F c Q := fun a w hf hg => k a w hf ((hg.perm hp).vsOut i)
theorem WPq.vsIn {e : Exit} {es : List (Int × Vs)} {Γf : List Asn} (i : Int) (y : Vs) (hp : Takes Γ [rowN 81 256 y.v y.ws.length (secs y.ws), bag (mdel es i)] Γf) (k : WPq n W S (bag (mput es i y) :: Γf) F Q e) : WPq n W S Γ F Q e := fun a w hf hg => k a w hf ((hg.perm hp).vsIn i y)
theorem ReadR.lookO {K V : Type} [DecidableEq K] {T : TypeId} {M : MK K V} [h : MapI P T M] {d : Option Tmp} {x i : Operand} {g : Nat} {l : List (K × V)} {k : K} {c : Value} (hkw : M.wf k) (hm : rmp M g l ∈ Γ) (hc : M.vc (mget M l k) = c) (hx : evF F x = some (.map (some g))) (hi : evF F i = some (M.kc k)) :
    ReadR P n Γ F ⟨d, .lookup T x i false, ty, pos, af, gd⟩ c := fun ρ w hf hw => by
  have h0 : (rmp M g l).holds w := hw _ hm
  have h1 : (mp M g l).holds w := h0
  have := run_mlook (P := P) (T := T) h1 k hkw false
  subst hc
  simp [execOp, hf.eval hx, hf.eval hi, this]
theorem mget_of_find {es : List (Int × Vs)} {i : Int} {y : Vs} (h : mfind es i = some y) : mget secM es i = y := by unfold mget; rw [h]; rfl
theorem WPc.bagO {c : Code} {es : List (Int × Vs)} {Γf : List Asn} {i : Int} {y : Vs} (hf : mfind es i = some y) (k : WPc P n W S (rowN 81 256 y.v y.ws.length (secs y.ws) :: bag (mdel es i) :: Γf) F c Q) (hp : Take Γ (bag es) Γf := by first | exact takeA | fail) : WPc P n W S Γ F c Q := fun a w hf' hg => k a w hf' ((hg.perm hp).bagOut (x := (i, y)) (mdel_perm hf))
theorem WPl.bagO {es : List (Int × Vs)} {Γf : List Asn} {i : Int} {y : Vs} (hf : mfind es i = some y) (k : WPl P n W S (rowN 81 256 y.v y.ws.length (secs y.ws) :: bag (Go.Proofs.Ytepmikgjnmjheaa.mdel es i) :: Γf) F ops os Q) (hp : Take Γ (bag es) Γf := by first | exact takeA | fail) : WPl P n W S Γ F ops os Q := fun a w hf' hg => k a w hf' ((hg.perm hp).bagOut (x := (i, y)) (mdel_perm hf))
theorem WPq.bagI {e : Exit} {es : List (Int × Vs)} {Γf : List Asn} {i : Int} {y : Vs} (hf : mfind es i = some y) (k : WPq n W S (bag es :: Γf) F Q e) (hp : Takes Γ [rowN 81 256 y.v y.ws.length (secs y.ws), bag (mdel es i)] Γf := by first | exact takesA | fail) : WPq n W S Γ F Q e := fun a w hf' hg => k a w hf' ((hg.perm hp).bagIn (x := (i, y)) (mdel_perm hf))
theorem WPq.bag0 {e : Exit} (k : WPq n W S (bag [] :: Γ) F Q e) : WPq n W S Γ F Q e := fun a w hf hg => k a w hf hg.bag0
theorem WPq.nilHd {e : Exit} (k : WPq n W S (hdN (.slice none 0 0) 0 [] :: Γ) F Q e) : WPq n W S Γ F Q e := fun a w hf hg => k a w hf ⟨hg.mod, fun A hA => by
    rcases List.mem_cons.1 hA with rfl | hA
    · exact .inl ⟨rfl, rfl, rfl⟩
    · exact hg.all A hA, List.pairwise_cons.2 ⟨fun B _ _ g hg' _ => (hg'.1 rfl).elim, hg.apart⟩, fun A hA ho g hg' => by
    rcases List.mem_cons.1 hA with rfl | hA
    · exact (hg'.1 rfl).elim
    · exact hg.mine A hA ho g hg'⟩
theorem Prov.rg {K V : Type} [DecidableEq K] {M : MK K V} {Γ : List Asn} {m r : Nat} {l td : List (K × V)} {c : Option (K × V)} (h : Go.Proofs.Ytepmikgjnmjheaa.rg M m r l td c ∈ Γ) : Prov Γ (Go.Proofs.Ytepmikgjnmjheaa.rmp M m l) := ⟨rfl, fun w hw => rg_mp (hw _ h)⟩
theorem provsG {Γ Δ : List Asn} (h : Provs Γ Δ := by ((repeat' (first | exact Provs.nil | apply Provs.cons | exact Prov.bx memA | exact Prov.mp memA | exact Prov.rbx memA | exact Prov.rmp memA | exact Prov.rg memA | exact provA | fail)) <;> fail)) : Provs Γ Δ := h
theorem ownsV {Γ : List Asn} (h : ∀ A, A ∈ Γ → A.own = true := by ((repeat' (first | exact own_nil | refine own_cons (by first | exact bx_own | exact rowN_own | exact mp_own | exact bag_own | exact rg_own | exact rfl) ?_ | fail)) <;> fail)) : ∀ A, A ∈ Γ → A.own = true := h
theorem WPl.boxC {d : Nat} {T : TypeId} {x : Operand} (cs : Ch) (hk : FOk cs) (hx : evF F x = some (ag cs)) (k : ∀ g, WPl P n W S (bx g T cs :: Γ) ((d, .pointer (some ⟨g, 0, none⟩)) :: F) ops os Q) (hlt : Nat.blt d n = true := by first | rfl | fail) (hw : wantG F ops gd = some true := by first | rfl | fail) :
    WPl P n W S Γ F ops (⟨some d, .box T x, ty, pos, af, gd⟩ :: os) Q :=
  WPl.op .nil hlt hw (OpT.boxA hx hk) (by rintro v Γ' ⟨g, rfl, rfl⟩; exact k g)
/-- clear, of a map. -/
theorem OpT.clearM {K V : Type} [DecidableEq K] {T : TypeId} {M : MK K V} [h : MapI P T M] {d : Option Tmp} {x : Operand} {g : Nat} {l : List (K × V)} {Γf : List Asn} (hx : evF F x = some (.map (some g))) (hp : Takes Γ [mp M g l] Γf) :
    OpT P n Γ F ⟨d, .call { callee := .builtin .clear, args := #[x], argTypes := #[T] }, ty, pos, af, gd⟩ [mp M g l] (RLeave [mp M g []]) := fun ρ w hf hw _ => by
  obtain ⟨kT, eT, hu, _⟩ := h.law
  obtain ⟨es, clock, hb, _⟩ := hw _ (hp.mem_iff.2 (List.mem_cons_self ..))
  have : (execOp ρ.eval ⟨d, .call { callee := .builtin .clear, args := #[x], argTypes := #[T] }, ty, pos, af, gd⟩).run P w = .ok (.value (.tuple #[])) (ChangeMaps.setBlock w g (.map #[] clock)) := by
    simp [execOp, resolve, invoke, builtin, hf.eval hx, Builtin.clear_, run_underlying hu, MapKept.run_getObj_map hb, MapKept.run_setObj_map _ hb, Sem.run_bind, Result.andThen, ChangeMaps.setBlock]
  unfold DoesW
  rw [this]
  have hg : ownFp [mp M g l] g := ⟨_, List.mem_singleton.2 rfl, rfl, rfl⟩
  exact ⟨_, rfl, .one (mod_block hg _ _) ⟨#[], clock, block_set hb, rfl, .nil, fun e he => by simp at he, .nil, fun x hx => by cases hx⟩ fun g' hg' => .inr (by cases hg'; exact hg)⟩
theorem WPl.clearM {K V : Type} [DecidableEq K] {T : TypeId} {M : MK K V} [h : MapI P T M] {x : Operand} {g : Nat} {l : List (K × V)} {Γf : List Asn} (k : WPl P n W S (mp M g [] :: Γf) F ops os Q) (hx : evF F x = some (.map (some g)) := by first | rfl | fail) (hp : Take Γ (mp M g l) Γf := by first | exact takeA | fail) (hw : wantG F ops gd = some true := by first | rfl | fail) :
    WPl P n W S Γ F ops (⟨none, .call { callee := .builtin .clear, args := #[x], argTypes := #[T] }, ty, pos, af, gd⟩ :: os) Q := WPl.turn (.cons hp .nil) rfl hw (OpT.clearM (h := h) hx (.cons hp .nil)) k
/-- make, of structs. -/
theorem OpT.makeN {T e : TypeId} {sz : Nat} [hT : SliI P T e] [he : EltN P e sz] {d : Option Tmp} {x y : Operand} {k1 k2 : IntKind} {m : Nat} (hx : evF F x = some (.int k1 (Int.ofNat m))) (hy : evF F y = some (.int k2 (Int.ofNat m))) (hm : m ≤ 1000000000) :
    OpT P n Γ F ⟨d, .makeSlice T x y, ty, pos, af, gd⟩ [] (RRow e sz m (clr P e m)) := fun ρ w hf hw _ => by
  obtain ⟨i0, z, hi, hz0, hz1, hzs, hby, hsz⟩ := he.parts
  have hb : (i0.bytes : Int) * (m : Int) ≤ 281474976710656 := by
    have : i0.bytes * m ≤ 512 * 1000000000 := Nat.mul_le_mul hby hm
    have h2 : ((i0.bytes * m : Nat) : Int) ≤ 281474976710656 := by omega
    rwa [Int.natCast_mul] at h2
  have hrun := run_make (P := P) w T e i0 z hT.und hi hz0 k1 k2 (m : Int) (m : Int) (by omega) (Int.le_refl _) hb (by omega)
  simp only [Int.toNat_natCast, hz1] at hrun
  have hcl : clr P e m = (Builtin.zeroCells z.cells m).toList := by unfold clr; rw [hi]; simp [hz0]
  have he2 : madeCells z.cells (m * sz) = Builtin.zeroCells z.cells m := by unfold madeCells Builtin.zeroCells; rw [hzs]
  have : (execOp ρ.eval ⟨d, .makeSlice T x y, ty, pos, af, gd⟩).run P w = .ok (.value (.slice (some ⟨w.heap.size, 0, none⟩) m m)) (w.alloc (.cells (madeCells z.cells (m * sz)) e)) := by
    simp only [execOp, hf.eval hx, hf.eval hy]
    simp only [Int.ofNat_eq_natCast, Sem.run_bind, hrun, Result.andThen_ok, Sem.run_pure]
  unfold DoesW
  rw [this]
  have hl : (clr P e m).length = m * sz := by rw [hcl, ← he2, Array.length_toList, size_madeCells]
  refine ⟨_, ⟨rfl, rfl⟩, .one (Mod.alloc _ _ _) ⟨hl, .inr ⟨w.heap.size, m, _, rfl, Nat.zero_le _, alloc_new _ _, Nat.le_refl _, by unfold maxLen; omega, by rw [size_madeCells], ?_⟩⟩ fun g hg => .inl ?_⟩
  · rw [he2, ← hcl, ← hl]
    exact List.take_length
  · cases hg; exact Nat.le_refl _
theorem WPl.mkN {d : Nat} {T e : TypeId} {sz : Nat} [hT : SliI P T e] [he : EltN P e sz] {x y : Operand} {k1 k2 : IntKind} (m : Nat) (hm : m ≤ 1000000000) (k : ∀ v, v.oneCell' = true → WPl P n W S (rowN e sz v m (clr P e m) :: Γ) ((d, v) :: F) ops os Q) (hx : evF F x = some (.int k1 (Int.ofNat m)) := by first | rfl | fail) (hy : evF F y = some (.int k2 (Int.ofNat m)) := by first | rfl | fail) (hlt : Nat.blt d n = true := by first | rfl | fail) (hw : wantG F ops gd = some true := by first | rfl | fail) :
    WPl P n W S Γ F ops (⟨some d, .makeSlice T x y, ty, pos, af, gd⟩ :: os) Q := WPl.row .nil rfl hlt hw (OpT.makeN hx hy hm) k
end
theorem zero_rep {N : Nat} (hN : 0 < N) (x : Value) (m : Nat) : (Builtin.zeroCells (List.replicate N x).toArray m).toList = List.replicate (m * N) x := by
  apply List.ext_getElem
  · simp [Builtin.zeroCells]
  · intro i h1 h2
    have hlt : i % N < N := Nat.mod_lt _ hN
    simp only [Builtin.zeroCells, Array.toList_map, List.getElem_map, Array.getElem_toList, Array.getElem_range, List.size_toArray, List.length_replicate, List.getElem_replicate]
    rw [getElem!_pos _ _ (by simpa using hlt)]
    simp
theorem rep_flat {α : Type} (N m : Nat) (x : α) : List.replicate (m * N) x = (List.replicate m (List.replicate N x)).flatten := by
  induction m with
  | zero => simp
  | succ m ih => rw [List.replicate_succ, List.flatten_cons, ← ih, Nat.succ_mul, Nat.add_comm, List.replicate_append_replicate]
theorem secs_rep (m : Nat) (s : Sec) : secs (List.replicate m s) = (List.replicate m (u8s s.b)).flatten := by
  unfold secs; rw [List.map_replicate]; rfl
theorem u8s_rep (N : Nat) (b : UInt8) : u8s (List.replicate N b) = List.replicate N (Value.int .u8 ((b.toNat : Nat) : Int)) := by unfold u8s; rw [List.map_replicate]
theorem clr_secs (m : Nat) : clr Try.prog 81 m = secs (List.replicate m (secF 0)) := by
  have hz : ((Try.prog.info? 81).bind (·.zero)).map (fun z => z.cells) = some (List.replicate 256 (Value.int .u8 0)).toArray := by kernel_rfl
  unfold clr
  cases h : (Try.prog.info? 81).bind (·.zero) with
  | none => rw [h] at hz; cases hz
  | some z =>
    rw [h] at hz
    have hz2 : z.cells = (List.replicate 256 (Value.int .u8 0)).toArray := Option.some.inj hz
    show (Builtin.zeroCells z.cells m).toList = _
    rw [hz2, zero_rep (by omega), rep_flat, secs_rep]
    show _ = (List.replicate m (u8s (List.replicate 256 0))).flatten
    rw [u8s_rep]
    rfl
end Go.Proofs.Ytepmikgjnmjheaa
/- Layer 3 (dev): contracts: burns, clear, has, Len, Writes, now, waiting. -/
namespace Go.Proofs.Ytepmikgjnmjheaa
open Go.RowKit
set_option linter.unusedSimpArgs false
set_option linter.unusedVariables false
set_option maxRecDepth 20000
set_option maxHeartbeats 4000000
attribute [local irreducible] WPc WPl WPq ReadR OpT BinR HasS bx rdN rowN Take Takes Prov Triple ResF BuildP Done ag Int.decLt Int.decLe Int.instDecidableEq
attribute [local irreducible] mp rmp rg rgo bag vrow secs mput mget mfind mdel intsV
abbrev dvc (fu : List Int) (vd : Value) (mD : Nat) (cn : Int) : Ch := [(4, intsV fu), (1, [vd]), (1, [.map (some mD)]), (1, [.int .i64 cn])]
abbrev hD (gV : Nat) : Value := .pointer (some ⟨gV, 0, none⟩)
def fb1 (a : Int) : Int := if a = -1 then -1 else if a = 0 then -1 else a - 1
def fburn (fu : List Int) (k : Nat) (a : Int) : List Int := fu.set k (fb1 a)
theorem intsV_len {fu : List Int} : (intsV fu).length = fu.length := by unfold intsV; simp
theorem intsV_at {fu : List Int} {k : Nat} {a : Int} (h : fu[k]? = some a) : (intsV fu)[k]? = some (.int .i64 a) := by unfold intsV; rw [List.getElem?_map, h]; rfl
theorem intsV_set {fu : List Int} {k : Nat} {a : Int} : (intsV fu).set k (.int .i64 a) = intsV (fu.set k a) := by unfold intsV; rw [List.map_set]
theorem rep_set {α : Type} {l : List α} {i : Nat} {a : α} (h : i < l.length) : (List.replicate i a ++ l.drop i).set i a = List.replicate (i + 1) a ++ l.drop (i + 1) := by
  rw [List.set_append_right _ _ (by simp), List.length_replicate, Nat.sub_self, List.drop_eq_getElem_cons h, List.set_cons_zero, List.replicate_succ', List.append_assoc]
  rfl
section
variable (gV mD : Nat) (vd : Value) (fu : List Int) (cn : Int)
theorem burns_t (k : Nat) (a : Int) (h4 : fu.length = 4) (hk4 : k < 4) (ha : fu[k]? = some a) (hlo : -1 ≤ a) (hhi : a ≤ 9223372036854775807) :
    Triple Try.prog 46 #[hD gV, .int .i64 (k : Int)] [(bx gV 79 (dvc fu vd mD cn))] (RTurns (.bool (decide (a = 0))) [(bx gV 79 (dvc (fburn fu k a) vd mD cn))]) := by
  have hv0 := intsV_at ha
  have hlen : k < (intsV fu).length := by rw [intsV_len, h4]; exact hk4
  refine Triple.enter Try.func46 rfl Try.ntmps46 rfl (fun W => ?_)
  dsimp only [argsF, Nat.reduceAdd]
  repeat' (first
   | refine WPl.nil ?_ | refine WPq.then ?_ | refine WPq.thenR ?_ | refine WPq.thenE ?_ | refine WPq.blockN ?_ | refine WPq.blockR ?_ | refine WPq.blockE ?_ | refine WPq.blockO rfl ?_ | refine WPc.seq ?_ | refine WPc.block ?_ | refine WPc.ret ?_ | refine WPc.exit ?_ | refine WPc.skip ?_ | refine WPc.region ?_
   | (refine isReg 7 ?_; refine WPc.drA [([9], [19]), ([9], [18, 20, 24]), ([0, 9], [18, 19, 24]), ([0, 1, 2, 9], [18, 19, 20, 24]), ([0, 1, 2, 3, 9], [18, 19, 20, 21, 24]), ([0, 1, 2, 3, 4, 9], [18, 19, 20, 21, 22, 24]), ([0, 9], [18, 19, 20, 21, 22, 23]), ([0, 1, 2, 3, 4, 5, 6, 9], [18, 19, 20, 21, 22, 23, 24]), ([0, 1, 2, 3, 4, 5, 6, 7, 9], [18, 19, 20, 21, 22, 23, 24, 25])] [(9, 8), (9, 0), (9, 1), (9, 2), (9, 3), (9, 4), (9, 5), (9, 6), (9, 7)] (Γx := [(bx gV 79 (dvc fu vd mD cn))]) ?_; dsimp only [prev0, List.length_nil, List.length_cons])
   | (refine gAny ?_; first | (refine gD 9 ?_; refine RGl.rdX (fun e hk => by (try dsimp only [bndR, ensR, oksR, fcutR, List.append_nil, List.nil_append, List.cons_append, List.append_assoc] at hk ⊢); exact ReadR.loadR rfl memA rfl hv0) ?_) | (refine gD 22 ?_; refine RGl.rdX (fun e hk => by (try dsimp only [bndR, ensR, oksR, fcutR, List.append_nil, List.nil_append, List.cons_append, List.append_assoc] at hk ⊢); exact ReadR.loadR rfl memA rfl hv0) ?_) | (refine gOp ?_; (refine RGl.turn (fun e hk => by (try dsimp only [bndR, ensR, oksR, fcutR, List.append_nil, List.nil_append, List.cons_append, List.append_assoc] at hk ⊢); exact OpT.storeR rfl rfl takesA rfl rfl hlen rfl) ?_)) | (refine gOp ?_; first | refine RGl.rdA ?_ | refine RGl.rdX (fun e hk => by (try dsimp only [bndR, ensR, oksR, fcutR, List.append_nil, List.nil_append, List.cons_append, List.append_assoc] at hk ⊢); exact readB) ?_) | (refine gSt ?_; refine RGl.stA ?_) | (refine RGl.fin (fun e hk => ?_); (try dsimp only [bndA, ensAR, oksA, List.append_nil, List.nil_append, List.cons_append, List.append_assoc] at hk ⊢); (repeat (obtain ⟨hk1, hk⟩ := hk))) | fail)
   | (refine isCond ?_; first | refine WPc.cT ?_ | refine WPc.cF ?_ | (refine WPc.cQ (fun hc => ?_) (fun hc => ?_) <;> try exact prA))
   | (refine isD 9 ?_; refine WPl.rdX (ReadR.loadR rfl memA rfl hv0) ?_)
   | (show WPl _ _ _ _ _ _ _ (⟨none, .store _ _ (.const _), _, _, _, _⟩ :: _) _; refine WPl.turn (.cons takeA .nil) rfl rfl (OpT.storeR rfl rfl (.cons takeA .nil) rfl rfl hlen rfl) ?_)
   | (refine isD 22 ?_; refine WPl.rdX (ReadR.loadR rfl memA rfl hv0) ?_)
   | (refine isOp ?_; first | refine WPl.rd ?_ | refine WPl.sk ?_ | refine WPl.rdB ?_)
   | (refine isSt ?_; first | refine WPl.st1 ?_ | refine WPl.stA ?_ | refine WPl.stEB ?_ | refine WPl.stRB ?_)
   | (show WPl _ _ _ _ _ _ _ (⟨_, .indexAddr _ _ _, _, _, _, _⟩ :: _) _; refine WPl.rdX (ReadR.indexE rfl rfl hasA (by first | assumption | omega)) ?_)
   | (show WPl _ _ _ _ _ _ _ (⟨_, .fieldAddr _ _ _, _, _, _, _⟩ :: _) _; refine WPl.rdX (ReadR.fieldE rfl hasA (by first | assumption | omega)) ?_)
   | (show WPl _ _ _ _ _ _ _ (⟨_, .load _ _, _, _, _, _⟩ :: _) _; first | refine WPl.rdX (ReadR.loadE rfl hasA (by assumption)) ?_ | refine WPl.rdX (ReadR.loadES (by assumption) (by first | assumption | omega) rfl hasA) ?_)
   | (show WPl _ _ _ _ _ _ _ (⟨_, .slice _ _ _ _ _, _, _, _, _⟩ :: _) _; first | refine WPl.rdX (ReadR.sliceH rfl rfl hasA (by omega)) ?_ | refine WPl.rdX (ReadR.sliceL rfl rfl hasA (by omega)) ?_ | refine WPl.rdX (ReadR.sliceLH rfl rfl rfl hasA (by omega) (by omega)) ?_)
   | (refine WPl.spQ (fun hc => ?_) (fun hc => ?_) <;> try exact prA)
   | fail)
  · have h2 : fburn fu k a = fu := by
      unfold fburn fb1
      rw [if_pos hc]
      apply List.ext_getElem?
      intro i
      rw [List.getElem?_set]
      split
      · rename_i h9
        subst h9
        rw [if_pos (by omega), ha, hc]
      · rfl
    rw [h2, show decide (a = 0) = false by subst hc; simp]
    exact WPq.dTs
  · have h2 : dvc (fburn fu k a) vd mD cn = [(4, (intsV fu).set k (.int .i64 (-1))), (1, [vd]), (1, [.map (some mD)]), (1, [.int .i64 cn])] := by
      rw [intsV_set, show fburn fu k a = fu.set k (-1) by unfold fburn fb1; simp [hc]]
    rw [h2, show decide (a = 0) = true by subst hc; simp]
    exact WPq.dTs
  · have h1 : ¬ a = -1 := by assumption
    have h2 : dvc (fburn fu k a) vd mD cn = [(4, (intsV fu).set k (.int .i64 (a - 1))), (1, [vd]), (1, [.map (some mD)]), (1, [.int .i64 cn])] := by
      rw [intsV_set, show fburn fu k a = fu.set k (a - 1) by unfold fburn fb1; rw [if_neg h1, if_neg hc]]
    rw [h2, show decide (a = 0) = false by simpa using hc]
    exact WPq.dTs
theorem fclear_t (h4 : fu.length = 4) :
    Triple Try.prog 44 #[hD gV] [(bx gV 79 (dvc fu vd mD cn))] (RTurns (resV []) [(bx gV 79 (dvc ([-1, -1, -1, -1]) vd mD cn))]) := by
  refine Triple.enter Try.func44 rfl Try.ntmps44 rfl (fun W => ?_)
  dsimp only [argsF, Nat.reduceAdd]
  repeat' (first
   | refine WPl.nil ?_ | refine WPq.then ?_ | refine WPq.thenR ?_ | refine WPq.thenE ?_ | refine WPq.blockN ?_ | refine WPq.blockR ?_ | refine WPq.blockE ?_ | refine WPq.blockO rfl ?_ | refine WPc.seq ?_ | refine WPc.block ?_ | refine WPc.ret ?_ | refine WPc.exit ?_ | refine WPc.skip ?_ | refine WPc.region ?_
   | (refine isCond ?_; first | refine WPc.cT ?_ | refine WPc.cF ?_ | (refine WPc.cQ (fun hc => ?_) (fun hc => ?_) <;> try exact prA))
   | (refine isOp ?_; first | refine WPl.rd ?_ | refine WPl.sk ?_ | refine WPl.rdB ?_)
   | (refine isSt ?_; first | refine WPl.st1 ?_ | refine WPl.stA ?_ | refine WPl.stEB ?_ | refine WPl.stRB ?_)
   | (show WPl _ _ _ _ _ _ _ (⟨_, .indexAddr _ _ _, _, _, _, _⟩ :: _) _; refine WPl.rdX (ReadR.indexE rfl rfl hasA (by first | assumption | omega)) ?_)
   | (show WPl _ _ _ _ _ _ _ (⟨_, .fieldAddr _ _ _, _, _, _, _⟩ :: _) _; refine WPl.rdX (ReadR.fieldE rfl hasA (by first | assumption | omega)) ?_)
   | (show WPl _ _ _ _ _ _ _ (⟨_, .load _ _, _, _, _, _⟩ :: _) _; first | refine WPl.rdX (ReadR.loadE rfl hasA (by assumption)) ?_ | refine WPl.rdX (ReadR.loadES (by assumption) (by first | assumption | omega) rfl hasA) ?_)
   | (show WPl _ _ _ _ _ _ _ (⟨_, .slice _ _ _ _ _, _, _, _, _⟩ :: _) _; first | refine WPl.rdX (ReadR.sliceH rfl rfl hasA (by omega)) ?_ | refine WPl.rdX (ReadR.sliceL rfl rfl hasA (by omega)) ?_ | refine WPl.rdX (ReadR.sliceLH rfl rfl rfl hasA (by omega) (by omega)) ?_)
   | (refine WPl.spQ (fun hc => ?_) (fun hc => ?_) <;> try exact prA)
   | fail)
  first | refine WPc.loop (σ := Nat) (fun st => st ≤ 4) (fun st => [(bx gV 79 (dvc (List.replicate st (-1) ++ fu.drop st) vd mD cn))]) (fun st => [(0, hD gV), (3, .int .i64 (st : Int))]) (fun st => 4 - st) (0) ?_ takesA frsA (fun st km hx hk => ?_)
  · omega
  have hl : (intsV (List.replicate st (-1) ++ fu.drop st)).length = 4 := by rw [intsV_len]; simp; omega
  repeat' (first
   | refine WPl.nil ?_ | refine WPq.then ?_ | refine WPq.thenR ?_ | refine WPq.thenE ?_ | refine WPq.blockN ?_ | refine WPq.blockR ?_ | refine WPq.blockE ?_ | refine WPq.blockO rfl ?_ | refine WPc.seq ?_ | refine WPc.block ?_ | refine WPc.ret ?_ | refine WPc.exit ?_ | refine WPc.skip ?_ | refine WPc.region ?_
   | (refine isCond ?_; first | refine WPc.cT ?_ | refine WPc.cF ?_ | (refine WPc.cQ (fun hc => ?_) (fun hc => ?_) <;> try exact prA))
   | (show WPl _ _ _ _ _ _ _ (⟨none, .store _ _ (.const _), _, _, _, _⟩ :: _) _; refine WPl.turn (.cons takeA .nil) rfl rfl (OpT.storeR (i := st) rfl rfl (.cons takeA .nil) rfl rfl (by omega) rfl) ?_)
   | (refine isOp ?_; first | refine WPl.rd ?_ | refine WPl.sk ?_ | refine WPl.rdB ?_)
   | (refine isSt ?_; first | refine WPl.st1 ?_ | refine WPl.stA ?_ | refine WPl.stEB ?_ | refine WPl.stRB ?_)
   | (show WPl _ _ _ _ _ _ _ (⟨_, .indexAddr _ _ _, _, _, _, _⟩ :: _) _; refine WPl.rdX (ReadR.indexE rfl rfl hasA (by first | assumption | omega)) ?_)
   | (show WPl _ _ _ _ _ _ _ (⟨_, .fieldAddr _ _ _, _, _, _, _⟩ :: _) _; refine WPl.rdX (ReadR.fieldE rfl hasA (by first | assumption | omega)) ?_)
   | (show WPl _ _ _ _ _ _ _ (⟨_, .load _ _, _, _, _, _⟩ :: _) _; first | refine WPl.rdX (ReadR.loadE rfl hasA (by assumption)) ?_ | refine WPl.rdX (ReadR.loadES (by assumption) (by first | assumption | omega) rfl hasA) ?_)
   | (show WPl _ _ _ _ _ _ _ (⟨_, .slice _ _ _ _ _, _, _, _, _⟩ :: _) _; first | refine WPl.rdX (ReadR.sliceH rfl rfl hasA (by omega)) ?_ | refine WPl.rdX (ReadR.sliceL rfl rfl hasA (by omega)) ?_ | refine WPl.rdX (ReadR.sliceLH rfl rfl rfl hasA (by omega) (by omega)) ?_)
   | (refine WPl.spQ (fun hc => ?_) (fun hc => ?_) <;> try exact prA)
   | fail)
  · have h2 : (intsV (List.replicate st (-1) ++ fu.drop st)).set st (.int .i64 (-1)) = intsV (List.replicate (st + 1) (-1) ++ fu.drop (st + 1)) := by
      rw [intsV_set, rep_set (by omega)]
    rw [h2]
    exact WPq.rnd (st + 1) (by omega) (by omega)
  · have h2 : dvc (List.replicate st (-1) ++ fu.drop st) vd mD cn = dvc [-1, -1, -1, -1] vd mD cn := by
      rw [show st = 4 by omega, List.drop_of_length_le (by omega)]; rfl
    rw [h2]
    exact WPq.dTs
theorem has_t (i : Int) (ls : List Sec) (hn : ls.length ≤ 1000000) :
    Triple Try.prog 45 #[hD gV, .int .i64 i] [rbx gV 79 (dvc fu vd mD cn), rdN vd ls.length (secs ls)] (RVal (.bool (decide (0 ≤ i) && decide (i < (ls.length : Int))))) := by
  refine Triple.enter Try.func45 rfl Try.ntmps45 rfl (fun W => ?_)
  dsimp only [argsF, Nat.reduceAdd]
  repeat' (first
   | refine WPl.nil ?_ | refine WPq.then ?_ | refine WPq.thenR ?_ | refine WPq.thenE ?_ | refine WPq.blockN ?_ | refine WPq.blockR ?_ | refine WPq.blockE ?_ | refine WPq.blockO rfl ?_ | refine WPc.seq ?_ | refine WPc.block ?_ | refine WPc.ret ?_ | refine WPc.exit ?_ | refine WPc.skip ?_ | refine WPc.region ?_
   | (refine isCond ?_; first | refine WPc.cT ?_ | refine WPc.cF ?_ | (refine WPc.cQ (fun hc => ?_) (fun hc => ?_) <;> try exact prA))
   | (refine isD 6 ?_; refine WPl.rdX (readP) ?_)
   | (refine isD 16 ?_; refine WPl.rdX (ReadR.loadO memA rfl rfl) ?_)
   | (refine isD 14 ?_; refine WPl.rdX (ReadR.nilCheck rfl) ?_)
   | (refine isD 15 ?_; refine WPl.rdX (ReadR.field rfl) ?_)
   | (refine isOp ?_; first | refine WPl.rd ?_ | refine WPl.sk ?_ | refine WPl.rdB ?_)
   | (show WPl _ _ _ _ _ _ _ (⟨_, .indexAddr _ _ _, _, _, _, _⟩ :: _) _; refine WPl.rdX (ReadR.indexE rfl rfl hasA (by first | assumption | omega)) ?_)
   | (show WPl _ _ _ _ _ _ _ (⟨_, .fieldAddr _ _ _, _, _, _, _⟩ :: _) _; refine WPl.rdX (ReadR.fieldE rfl hasA (by first | assumption | omega)) ?_)
   | (show WPl _ _ _ _ _ _ _ (⟨_, .load _ _, _, _, _, _⟩ :: _) _; first | refine WPl.rdX (ReadR.loadE rfl hasA (by assumption)) ?_ | refine WPl.rdX (ReadR.loadES (by assumption) (by first | assumption | omega) rfl hasA) ?_)
   | (show WPl _ _ _ _ _ _ _ (⟨_, .slice _ _ _ _ _, _, _, _, _⟩ :: _) _; first | refine WPl.rdX (ReadR.sliceH rfl rfl hasA (by omega)) ?_ | refine WPl.rdX (ReadR.sliceL rfl rfl hasA (by omega)) ?_ | refine WPl.rdX (ReadR.sliceLH rfl rfl rfl hasA (by omega) (by omega)) ?_)
   | (refine WPl.spQ (fun hc => ?_) (fun hc => ?_) <;> try exact prA)
   | fail)
  · exact WPq.dV (hc := by simp [resV, hc])
  · exact WPq.dV (hc := by have : ¬ 0 ≤ i := by omega
                           simp [resV, this])
theorem len_t (ls : List Sec) (hn : ls.length ≤ 1000000) :
    Triple Try.prog 20 #[hD gV] [rbx gV 79 (dvc fu vd mD cn), rdN vd ls.length (secs ls)] (RVal (.int .i64 (ls.length : Int))) := by
  refine Triple.enter Try.func20 rfl Try.ntmps20 rfl (fun W => ?_)
  dsimp only [argsF, Nat.reduceAdd]
  repeat' (first
   | refine WPl.nil ?_ | refine WPq.then ?_ | refine WPq.thenR ?_ | refine WPq.thenE ?_ | refine WPq.blockN ?_ | refine WPq.blockR ?_ | refine WPq.blockE ?_ | refine WPq.blockO rfl ?_ | refine WPc.seq ?_ | refine WPc.block ?_ | refine WPc.ret ?_ | refine WPc.exit ?_ | refine WPc.skip ?_ | refine WPc.region ?_
   | (refine isCond ?_; first | refine WPc.cT ?_ | refine WPc.cF ?_ | (refine WPc.cQ (fun hc => ?_) (fun hc => ?_) <;> try exact prA))
   | (refine isD 4 ?_; refine WPl.rdX (readP) ?_)
   | (refine isD 8 ?_; refine WPl.rdX (ReadR.loadO memA rfl rfl) ?_)
   | (refine isOp ?_; first | refine WPl.rd ?_ | refine WPl.sk ?_ | refine WPl.rdB ?_)
   | (show WPl _ _ _ _ _ _ _ (⟨_, .indexAddr _ _ _, _, _, _, _⟩ :: _) _; refine WPl.rdX (ReadR.indexE rfl rfl hasA (by first | assumption | omega)) ?_)
   | (show WPl _ _ _ _ _ _ _ (⟨_, .fieldAddr _ _ _, _, _, _, _⟩ :: _) _; refine WPl.rdX (ReadR.fieldE rfl hasA (by first | assumption | omega)) ?_)
   | (show WPl _ _ _ _ _ _ _ (⟨_, .load _ _, _, _, _, _⟩ :: _) _; first | refine WPl.rdX (ReadR.loadE rfl hasA (by assumption)) ?_ | refine WPl.rdX (ReadR.loadES (by assumption) (by first | assumption | omega) rfl hasA) ?_)
   | (show WPl _ _ _ _ _ _ _ (⟨_, .slice _ _ _ _ _, _, _, _, _⟩ :: _) _; first | refine WPl.rdX (ReadR.sliceH rfl rfl hasA (by omega)) ?_ | refine WPl.rdX (ReadR.sliceL rfl rfl hasA (by omega)) ?_ | refine WPl.rdX (ReadR.sliceLH rfl rfl rfl hasA (by omega) (by omega)) ?_)
   | (refine WPl.spQ (fun hc => ?_) (fun hc => ?_) <;> try exact prA)
   | fail)
  all_goals exact WPq.dV
theorem writes_t :
    Triple Try.prog 25 #[hD gV] [rbx gV 79 (dvc fu vd mD cn)] (RVal (.int .i64 cn)) := by
  refine Triple.enter Try.func25 rfl Try.ntmps25 rfl (fun W => ?_)
  dsimp only [argsF, Nat.reduceAdd]
  repeat' (first
   | refine WPl.nil ?_ | refine WPq.then ?_ | refine WPq.thenR ?_ | refine WPq.thenE ?_ | refine WPq.blockN ?_ | refine WPq.blockR ?_ | refine WPq.blockE ?_ | refine WPq.blockO rfl ?_ | refine WPc.seq ?_ | refine WPc.block ?_ | refine WPc.ret ?_ | refine WPc.exit ?_ | refine WPc.skip ?_ | refine WPc.region ?_
   | (refine isCond ?_; first | refine WPc.cT ?_ | refine WPc.cF ?_ | (refine WPc.cQ (fun hc => ?_) (fun hc => ?_) <;> try exact prA))
   | (refine isD 4 ?_; refine WPl.rdX (readP) ?_)
   | (refine isD 8 ?_; refine WPl.rdX (ReadR.loadO memA rfl rfl) ?_)
   | (refine isOp ?_; first | refine WPl.rd ?_ | refine WPl.sk ?_ | refine WPl.rdB ?_)
   | (show WPl _ _ _ _ _ _ _ (⟨_, .indexAddr _ _ _, _, _, _, _⟩ :: _) _; refine WPl.rdX (ReadR.indexE rfl rfl hasA (by first | assumption | omega)) ?_)
   | (show WPl _ _ _ _ _ _ _ (⟨_, .fieldAddr _ _ _, _, _, _, _⟩ :: _) _; refine WPl.rdX (ReadR.fieldE rfl hasA (by first | assumption | omega)) ?_)
   | (show WPl _ _ _ _ _ _ _ (⟨_, .load _ _, _, _, _, _⟩ :: _) _; first | refine WPl.rdX (ReadR.loadE rfl hasA (by assumption)) ?_ | refine WPl.rdX (ReadR.loadES (by assumption) (by first | assumption | omega) rfl hasA) ?_)
   | (show WPl _ _ _ _ _ _ _ (⟨_, .slice _ _ _ _ _, _, _, _, _⟩ :: _) _; first | refine WPl.rdX (ReadR.sliceH rfl rfl hasA (by omega)) ?_ | refine WPl.rdX (ReadR.sliceL rfl rfl hasA (by omega)) ?_ | refine WPl.rdX (ReadR.sliceLH rfl rfl rfl hasA (by omega) (by omega)) ?_)
   | (refine WPl.spQ (fun hc => ?_) (fun hc => ?_) <;> try exact prA)
   | fail)
  all_goals exact WPq.dV
theorem nowW_t (i : Int) (es : List (Int × Vs)) (hin : in64 i) (s : Sec) (wv : Value) (ws : List Sec) (hwv : (mget secM es i).v = wv) (hs : ws[ws.length - 1]? = some s) (hn : ws.length ≤ 1000000) :
    Triple Try.prog 47 #[hD gV, .int .i64 i] [rbx gV 79 (dvc fu vd mD cn), rmp secM mD es, rdN wv ws.length (secs ws)] (RVal (ag (secC s))) := by
  have hwf : secM.wf i := hin
  have hc0 : secM.vc (mget secM es i) = wv := hwv
  have hpos : 0 < ws.length := by have := (List.getElem?_eq_some_iff.1 hs).1; omega
  have hat : ((secs ws).drop ((ws.length - 1) * 256)).take 256 = flat (secC s) := secs_at hs
  have hsl := secs_len ws
  have hsb := s.len
  have hsub : (ws.length : Int) - 1 = ((ws.length - 1 : Nat) : Int) := by omega
  refine Triple.enter Try.func47 rfl Try.ntmps47 rfl (fun W => ?_)
  dsimp only [argsF, Nat.reduceAdd]
  repeat' (first
   | refine WPl.nil ?_ | refine WPq.then ?_ | refine WPq.thenR ?_ | refine WPq.thenE ?_ | refine WPq.blockN ?_ | refine WPq.blockR ?_ | refine WPq.blockE ?_ | refine WPq.blockO rfl ?_ | refine WPc.seq ?_ | refine WPc.block ?_ | refine WPc.ret ?_ | refine WPc.exit ?_ | refine WPc.skip ?_ | refine WPc.region ?_
   | (refine isCond ?_; first | refine WPc.cT ?_ | refine WPc.cF ?_ | (refine WPc.cQ (fun hc => ?_) (fun hc => ?_) <;> try first | exact prA | (exfalso; first | omega)))
   | (refine isD 9 ?_; refine WPl.rdX (ReadR.loadO memA rfl rfl) ?_)
   | (refine isD 11 ?_; refine WPl.rdX (ReadR.lookO hwf memA hc0 rfl rfl) ?_)
   | (refine isD 18 ?_; refine WPl.rdX (ReadR.binE rfl rfl (BinR.subI (by omega) (by omega)) (congrArg (Value.int .i64) hsub)) ?_)
   | (refine isD 20 ?_; refine WPl.rdX (ReadR.loadES hat (by omega) rfl hasA) ?_)
   | (refine isOp ?_; first | refine WPl.rd ?_ | refine WPl.sk ?_ | refine WPl.rdB ?_)
   | (refine isAl ?_; refine WPl.nw fun g => ?_)
   | (refine isSt ?_; first | refine WPl.st1 ?_ | refine WPl.stA ?_ | refine WPl.stEB ?_ | refine WPl.stRB ?_)
   | (show WPl _ _ _ _ _ _ _ (⟨_, .indexAddr _ _ _, _, _, _, _⟩ :: _) _; refine WPl.rdX (ReadR.indexE rfl rfl hasA (by first | assumption | omega)) ?_)
   | (show WPl _ _ _ _ _ _ _ (⟨_, .fieldAddr _ _ _, _, _, _, _⟩ :: _) _; refine WPl.rdX (ReadR.fieldE rfl hasA (by first | assumption | omega)) ?_)
   | (show WPl _ _ _ _ _ _ _ (⟨_, .load _ _, _, _, _, _⟩ :: _) _; first | refine WPl.rdX (ReadR.loadE rfl hasA (by assumption)) ?_ | refine WPl.rdX (ReadR.loadES (by assumption) (by first | assumption | omega) rfl hasA) ?_)
   | (show WPl _ _ _ _ _ _ _ (⟨_, .slice _ _ _ _ _, _, _, _, _⟩ :: _) _; first | refine WPl.rdX (ReadR.sliceH rfl rfl hasA (by omega)) ?_ | refine WPl.rdX (ReadR.sliceL rfl rfl hasA (by omega)) ?_ | refine WPl.rdX (ReadR.sliceLH rfl rfl rfl hasA (by omega) (by omega)) ?_)
   | (refine WPl.spQ (fun hc => ?_) (fun hc => ?_) <;> try first | exact prA | (exfalso; first | omega))
   | fail)
  all_goals exact WPq.dV (c := ag (secC s))
theorem nowL_t (j : Nat) (es : List (Int × Vs)) (hin : in64 (j : Int)) (s : Sec) (ls : List Sec) (hwv : (mget secM es (j : Int)) = ⟨.slice none 0 0, []⟩) (hs : ls[j]? = some s) (hn : ls.length ≤ 1000000) :
    Triple Try.prog 47 #[hD gV, .int .i64 (j : Int)] [rbx gV 79 (dvc fu vd mD cn), rmp secM mD es, rdN vd ls.length (secs ls)] (RVal (ag (secC s))) := by
  have hwf : secM.wf (j : Int) := hin
  have hc0 : secM.vc (mget secM es (j : Int)) = .slice none 0 0 := by rw [hwv]; rfl
  have hlt : j < ls.length := (List.getElem?_eq_some_iff.1 hs).1
  have hat : ((secs ls).drop (j * 256)).take 256 = flat (secC s) := secs_at hs
  have hsl := secs_len ls
  have hsb := s.len
  refine Triple.enter Try.func47 rfl Try.ntmps47 rfl (fun W => ?_)
  dsimp only [argsF, Nat.reduceAdd]
  repeat' (first
   | refine WPl.nil ?_ | refine WPq.then ?_ | refine WPq.thenR ?_ | refine WPq.thenE ?_ | refine WPq.blockN ?_ | refine WPq.blockR ?_ | refine WPq.blockE ?_ | refine WPq.blockO rfl ?_ | refine WPc.seq ?_ | refine WPc.block ?_ | refine WPc.ret ?_ | refine WPc.exit ?_ | refine WPc.skip ?_ | refine WPc.region ?_
   | (refine isCond ?_; first | refine WPc.cT ?_ | refine WPc.cF ?_ | (refine WPc.cQ (fun hc => ?_) (fun hc => ?_) <;> try first | exact prA | (exfalso; first | (simp at hc; done))))
   | (refine isD 9 ?_; refine WPl.rdX (ReadR.loadO memA rfl rfl) ?_)
   | (refine isD 24 ?_; refine WPl.rdX (ReadR.loadO memA rfl rfl) ?_)
   | (refine isD 11 ?_; refine WPl.rdX (ReadR.lookO hwf memA hc0 rfl rfl) ?_)
   | (refine isD 27 ?_; refine WPl.rdX (ReadR.loadES hat (by omega) rfl hasA) ?_)
   | (refine isOp ?_; first | refine WPl.rd ?_ | refine WPl.sk ?_ | refine WPl.rdB ?_)
   | (refine isAl ?_; refine WPl.nw fun g => ?_)
   | (refine isSt ?_; first | refine WPl.st1 ?_ | refine WPl.stA ?_ | refine WPl.stEB ?_ | refine WPl.stRB ?_)
   | (show WPl _ _ _ _ _ _ _ (⟨_, .indexAddr _ _ _, _, _, _, _⟩ :: _) _; refine WPl.rdX (ReadR.indexE rfl rfl hasA (by first | assumption | omega)) ?_)
   | (show WPl _ _ _ _ _ _ _ (⟨_, .fieldAddr _ _ _, _, _, _, _⟩ :: _) _; refine WPl.rdX (ReadR.fieldE rfl hasA (by first | assumption | omega)) ?_)
   | (show WPl _ _ _ _ _ _ _ (⟨_, .load _ _, _, _, _, _⟩ :: _) _; first | refine WPl.rdX (ReadR.loadE rfl hasA (by assumption)) ?_ | refine WPl.rdX (ReadR.loadES (by assumption) (by first | assumption | omega) rfl hasA) ?_)
   | (show WPl _ _ _ _ _ _ _ (⟨_, .slice _ _ _ _ _, _, _, _, _⟩ :: _) _; first | refine WPl.rdX (ReadR.sliceH rfl rfl hasA (by omega)) ?_ | refine WPl.rdX (ReadR.sliceL rfl rfl hasA (by omega)) ?_ | refine WPl.rdX (ReadR.sliceLH rfl rfl rfl hasA (by omega) (by omega)) ?_)
   | (refine WPl.spQ (fun hc => ?_) (fun hc => ?_) <;> try first | exact prA | (exfalso; first | (simp at hc; done)))
   | fail)
  all_goals exact WPq.dV (c := ag (secC s))
def skeys (es : List (Int × Vs)) : List Int := (es.map (·.1)).mergeSort (fun x y => decide (x ≤ y))
end
end Go.Proofs.Ytepmikgjnmjheaa
/- Layer 3 (dev): contracts: New, Read, Write. -/
namespace Go.Proofs.Ytepmikgjnmjheaa
open Go.RowKit
set_option linter.unusedSimpArgs false
set_option linter.unusedVariables false
set_option maxRecDepth 20000
set_option maxHeartbeats 4000000
attribute [local irreducible] WPc WPl WPq ReadR OpT BinR HasS bx rdN rowN Take Takes Prov Triple ResF BuildP Done ag Int.decLt Int.decLe Int.instDecidableEq
attribute [local irreducible] mp rmp rg rgo bag vrow secs mput mget mfind mdel
abbrev f4 : List Int := [-1, -1, -1, -1]
def DevL (gV mD : Nat) (vd : Value) (fu : List Int) (ls : List Sec) (es : List (Int × Vs)) (cn : Int) : List Asn :=
  [bx gV 79 (dvc fu vd mD cn), rowN 81 256 vd ls.length (secs ls), mp secM mD es, bag es]
def RNewD (n : Nat) : Value → List Asn → Prop := fun v Γ => ∃ gV mD vd, v = .tuple #[hD gV, .int .i64 0] ∧ vd.oneCell' = true ∧ Γ = [bx gV 79 (dvc f4 vd mD 0), rowN 81 256 vd (List.replicate n (secF 0)).length (secs (List.replicate n (secF 0))), mp secM mD [], bag []]
theorem intsV_one (l : List Int) : ∀ v, v ∈ intsV l → v.oneCell' = true := by
  intro v hv
  unfold intsV at hv
  obtain ⟨a, _, rfl⟩ := List.mem_map.1 hv
  rfl
theorem dvc_ok {fu : List Int} {vd : Value} {mD : Nat} {cn : Int} (h4 : fu.length = 4) (hv : vd.oneCell' = true) : FOk (dvc fu vd mD cn) := FOk.seg (by rw [intsV_len, h4]) (intsV_one fu) (.one1 hv (.one1 rfl (.one1 rfl .nil)))
theorem newNo_t (n : Int) (hn : n < 16 ∨ 1600 < n) :
    Triple Try.prog 12 #[.int .i64 n] [] (RVal (.tuple #[.pointer none, .int .i64 1])) := by
  refine Triple.enter Try.func12 rfl Try.ntmps12 rfl (fun W => ?_)
  dsimp only [argsF, Nat.reduceAdd]
  repeat' (first
   | refine WPl.nil ?_ | refine WPq.then ?_ | refine WPq.thenR ?_ | refine WPq.thenE ?_ | refine WPq.blockN ?_ | refine WPq.blockR ?_ | refine WPq.blockE ?_ | refine WPq.blockO rfl ?_ | refine WPc.seq ?_ | refine WPc.block ?_ | refine WPc.ret ?_ | refine WPc.exit ?_ | refine WPc.skip ?_ | refine WPc.region ?_
   | (refine isCond ?_; first | refine WPc.cT ?_ | refine WPc.cF ?_ | (refine WPc.cQ (fun hc => ?_) (fun hc => ?_) <;> try first | exact prA | (exfalso; first | omega)))
   | (refine isMk ?_; refine WPl.mk fun v hv => ?_)
   | (refine isOp ?_; first | refine WPl.rd ?_ | refine WPl.sk ?_ | refine WPl.rdB ?_)
   | (refine isBx ?_; refine WPl.nw fun g => ?_)
   | (show WPl _ _ _ _ _ _ _ (⟨_, .indexAddr _ _ _, _, _, _, _⟩ :: _) _; refine WPl.rdX (ReadR.indexE rfl rfl hasA (by first | assumption | omega)) ?_)
   | (show WPl _ _ _ _ _ _ _ (⟨_, .fieldAddr _ _ _, _, _, _, _⟩ :: _) _; refine WPl.rdX (ReadR.fieldE rfl hasA (by first | assumption | omega)) ?_)
   | (show WPl _ _ _ _ _ _ _ (⟨_, .load _ _, _, _, _, _⟩ :: _) _; first | refine WPl.rdX (ReadR.loadE rfl hasA (by assumption)) ?_ | refine WPl.rdX (ReadR.loadES (by assumption) (by first | assumption | omega) rfl hasA) ?_)
   | (show WPl _ _ _ _ _ _ _ (⟨_, .slice _ _ _ _ _, _, _, _, _⟩ :: _) _; first | refine WPl.rdX (ReadR.sliceH rfl rfl hasA (by omega)) ?_ | refine WPl.rdX (ReadR.sliceL rfl rfl hasA (by omega)) ?_ | refine WPl.rdX (ReadR.sliceLH rfl rfl rfl hasA (by omega) (by omega)) ?_)
   | (refine WPl.spQ (fun hc => ?_) (fun hc => ?_) <;> try first | exact prA | (exfalso; first | omega))
   | fail)
  all_goals exact WPq.dV
theorem new_t (n : Nat) (h16 : 16 ≤ n) (hn : n ≤ 1600) :
    Triple Try.prog 12 #[.int .i64 (n : Int)] [] (RNewD n) := by
  have hcl := clr_secs n
  refine Triple.enter Try.func12 rfl Try.ntmps12 rfl (fun W => ?_)
  dsimp only [argsF, Nat.reduceAdd]
  repeat' (first
   | refine WPl.nil ?_ | refine WPq.then ?_ | refine WPq.thenR ?_ | refine WPq.thenE ?_ | refine WPq.blockN ?_ | refine WPq.blockR ?_ | refine WPq.blockE ?_ | refine WPq.blockO rfl ?_ | refine WPc.seq ?_ | refine WPc.block ?_ | refine WPc.ret ?_ | refine WPc.exit ?_ | refine WPc.skip ?_ | refine WPc.region ?_
   | (refine isCond ?_; first | refine WPc.cT ?_ | refine WPc.cF ?_ | (refine WPc.cQ (fun hc => ?_) (fun hc => ?_) <;> try first | exact prA | (exfalso; first | omega)))
   | (refine isD 12 ?_; refine WPl.mkN n (by omega) fun vd hvd => ?_)
   | (refine isD 13 ?_; refine WPl.mnew secM fun mD => ?_)
   | (refine isD 15 ?_; refine WPl.boxC (dvc [0, 0, 0, 0] vd mD 0) (dvc_ok rfl hvd) rfl (fun gV => ?_))
   | (refine isC 19 ?_; refine WPl.cTs (fclear_t gV mD vd [0, 0, 0, 0] 0 rfl) ?_; (try dsimp only [putF, List.cons_append, List.nil_append]))
   | (refine isMk ?_; refine WPl.mk fun v hv => ?_)
   | (refine isOp ?_; first | refine WPl.rd ?_ | refine WPl.sk ?_ | refine WPl.rdB ?_)
   | (refine isBx ?_; refine WPl.nw fun g => ?_)
   | (show WPl _ _ _ _ _ _ _ (⟨_, .indexAddr _ _ _, _, _, _, _⟩ :: _) _; refine WPl.rdX (ReadR.indexE rfl rfl hasA (by first | assumption | omega)) ?_)
   | (show WPl _ _ _ _ _ _ _ (⟨_, .fieldAddr _ _ _, _, _, _, _⟩ :: _) _; refine WPl.rdX (ReadR.fieldE rfl hasA (by first | assumption | omega)) ?_)
   | (show WPl _ _ _ _ _ _ _ (⟨_, .load _ _, _, _, _, _⟩ :: _) _; first | refine WPl.rdX (ReadR.loadE rfl hasA (by assumption)) ?_ | refine WPl.rdX (ReadR.loadES (by assumption) (by first | assumption | omega) rfl hasA) ?_)
   | (show WPl _ _ _ _ _ _ _ (⟨_, .slice _ _ _ _ _, _, _, _, _⟩ :: _) _; first | refine WPl.rdX (ReadR.sliceH rfl rfl hasA (by omega)) ?_ | refine WPl.rdX (ReadR.sliceL rfl rfl hasA (by omega)) ?_ | refine WPl.rdX (ReadR.sliceLH rfl rfl rfl hasA (by omega) (by omega)) ?_)
   | (refine WPl.spQ (fun hc => ?_) (fun hc => ?_) <;> try first | exact prA | (exfalso; first | omega))
   | fail)
  all_goals refine WPq.bag0 ?_
  rw [hcl]
  exact WPq.dX (ho := ownsV) (vs := [hD gV, .int .i64 0]) [bx gV 79 (dvc f4 vd mD 0), rowN 81 256 vd n (secs (List.replicate n (secF 0))), mp secM mD [], bag []] ⟨gV, mD, vd, rfl, hvd, by rw [List.length_replicate]⟩
section
variable (gV mD : Nat) (vd : Value) (fu : List Int) (cn : Int) (ls : List Sec) (es : List (Int × Vs))
def nowS (s : Sec) (es : List (Int × Vs)) (j : Nat) : Sec := match mfind es (j : Int) with
  | some y => y.ws.getLastD s
  | none => s
/-- What waits: keys that are sectors, and nothing empty. -/
def EOk (n : Nat) (es : List (Int × Vs)) : Prop := ∀ y ∈ es, (∃ j : Nat, y.1 = (j : Int) ∧ j < n) ∧ y.2.ws ≠ [] ∧ y.2.ws.length ≤ 100000
def RRead (b : List UInt8) (er : Int) (Γd : List Asn) : Value → List Asn → Prop := fun v Γ => ∃ s, v = .tuple #[s, .int .i64 er] ∧ s.oneCell' = true ∧ Γ = hdN s b.length (u8s b) :: Γd
theorem read_t (j : Nat) (a : Int) (hj : j < ls.length) (hn : ls.length ≤ 1000000) (h4 : fu.length = 4) (ha : fu[1]? = some a) (hlo : -1 ≤ a) (hhi : a ≤ 9223372036854775807) (hok : EOk ls.length es) :
    Triple Try.prog 16 #[hD gV, .int .i64 (j : Int)] [(bx gV 79 (dvc fu vd mD cn)), (rowN 81 256 vd (List.length ls) (secs ls)), mp secM mD es, bag es] (RRead (if a = 0 then [] else (nowS ls[j] es j).b) (if a = 0 then 3 else 0) [(bx gV 79 (dvc (fburn fu 1 a) vd mD cn)), (rowN 81 256 vd (List.length ls) (secs ls)), mp secM mD es, bag es]) := by
  have c1 := has_t gV mD vd fu cn (j : Int) ls hn
  rw [show (decide (0 ≤ (j : Int)) && decide ((j : Int) < (ls.length : Int))) = true by simp; omega] at c1
  have c2 := burns_t gV mD vd fu cn 1 a h4 (by omega) ha hlo hhi
  have hin : in64 (j : Int) := by unfold in64; omega
  by_cases h0 : a = 0
  · rw [show decide (a = 0) = true by simpa using h0] at c2
    rw [if_pos h0, if_pos h0]
    refine Triple.enter Try.func16 rfl Try.ntmps16 rfl (fun W => ?_)
    dsimp only [argsF, Nat.reduceAdd]
    repeat' (first
     | refine WPl.nil ?_ | refine WPq.then ?_ | refine WPq.thenR ?_ | refine WPq.thenE ?_ | refine WPq.blockN ?_ | refine WPq.blockR ?_ | refine WPq.blockE ?_ | refine WPq.blockO rfl ?_ | refine WPc.seq ?_ | refine WPc.block ?_ | refine WPc.ret ?_ | refine WPc.exit ?_ | refine WPc.skip ?_ | refine WPc.region ?_
     | (refine isCond ?_; first | refine WPc.cT ?_ | refine WPc.cF ?_ | (refine WPc.cQ (fun hc => ?_) (fun hc => ?_) <;> try exact prA))
     | (refine isC 10 ?_; refine WPl.cV c1 ?_ (hΔ := provsG))
     | (refine isC 16 ?_; refine WPl.cTs (c2) ?_; (try dsimp only [putF, List.cons_append, List.nil_append]))
     | (refine isOp ?_; first | refine WPl.rd ?_ | refine WPl.sk ?_ | refine WPl.rdB ?_)
     | (refine isAl ?_; refine WPl.nw fun g => ?_)
     | (refine isSt ?_; first | refine WPl.st1 ?_ | refine WPl.stA ?_ | refine WPl.stEB ?_ | refine WPl.stRB ?_)
     | (show WPl _ _ _ _ _ _ _ (⟨_, .indexAddr _ _ _, _, _, _, _⟩ :: _) _; refine WPl.rdX (ReadR.indexE rfl rfl hasA (by first | assumption | omega)) ?_)
     | (show WPl _ _ _ _ _ _ _ (⟨_, .fieldAddr _ _ _, _, _, _, _⟩ :: _) _; refine WPl.rdX (ReadR.fieldE rfl hasA (by first | assumption | omega)) ?_)
     | (show WPl _ _ _ _ _ _ _ (⟨_, .load _ _, _, _, _, _⟩ :: _) _; first | refine WPl.rdX (ReadR.loadE rfl hasA (by assumption)) ?_ | refine WPl.rdX (ReadR.loadES (by assumption) (by first | assumption | omega) rfl hasA) ?_)
     | (show WPl _ _ _ _ _ _ _ (⟨_, .slice _ _ _ _ _, _, _, _, _⟩ :: _) _; first | refine WPl.rdX (ReadR.sliceH rfl rfl hasA (by omega)) ?_ | refine WPl.rdX (ReadR.sliceL rfl rfl hasA (by omega)) ?_ | refine WPl.rdX (ReadR.sliceLH rfl rfl rfl hasA (by omega) (by omega)) ?_)
     | (refine WPl.spQ (fun hc => ?_) (fun hc => ?_) <;> try exact prA)
     | fail)
    all_goals refine WPq.nilHd ?_
    exact WPq.dX (ho := ownsV) (vs := [.slice none 0 0, .int .i64 3]) _ ⟨_, rfl, rfl, rfl⟩
  · rw [show decide (a = 0) = false by simpa using h0] at c2
    rw [if_neg h0, if_neg h0]
    cases hf : mfind es (j : Int) with
    | none =>
      have c3 := nowL_t gV mD vd (fburn fu 1 a) cn j es hin ls[j] ls (by unfold mget; rw [hf]; rfl) (List.getElem?_eq_getElem hj) hn
      have hr : nowS ls[j] es j = ls[j] := by unfold nowS; rw [hf]
      rw [hr]
      obtain ⟨s, hs⟩ : ∃ s, s = ls[j] := ⟨_, rfl⟩
      rw [← hs] at c3 ⊢
      have hsb := s.len
      refine Triple.enter Try.func16 rfl Try.ntmps16 rfl (fun W => ?_)
      dsimp only [argsF, Nat.reduceAdd]
      repeat' (first
       | refine WPl.nil ?_ | refine WPq.then ?_ | refine WPq.thenR ?_ | refine WPq.thenE ?_ | refine WPq.blockN ?_ | refine WPq.blockR ?_ | refine WPq.blockE ?_ | refine WPq.blockO rfl ?_ | refine WPc.seq ?_ | refine WPc.block ?_ | refine WPc.ret ?_ | refine WPc.exit ?_ | refine WPc.skip ?_ | refine WPc.region ?_
       | (refine isCond ?_; first | refine WPc.cT ?_ | refine WPc.cF ?_ | (refine WPc.cQ (fun hc => ?_) (fun hc => ?_) <;> try exact prA))
       | (refine isC 10 ?_; refine WPl.cV c1 ?_ (hΔ := provsG))
       | (refine isC 16 ?_; refine WPl.cTs (c2) ?_; (try dsimp only [putF, List.cons_append, List.nil_append]))
       | (refine isC 19 ?_; refine WPl.cV c3 ?_ (hΔ := provsG))
       | (refine isOp ?_; first | refine WPl.rd ?_ | refine WPl.sk ?_ | refine WPl.rdB ?_)
       | (refine isAl ?_; refine WPl.nw fun g => ?_)
       | (refine isSt ?_; first | refine WPl.st1 ?_ | refine WPl.stA ?_ | refine WPl.stEB ?_ | refine WPl.stRB ?_)
       | (show WPl _ _ _ _ _ _ _ (⟨_, .indexAddr _ _ _, _, _, _, _⟩ :: _) _; refine WPl.rdX (ReadR.indexE rfl rfl hasA (by first | assumption | omega)) ?_)
       | (show WPl _ _ _ _ _ _ _ (⟨_, .fieldAddr _ _ _, _, _, _, _⟩ :: _) _; refine WPl.rdX (ReadR.fieldE rfl hasA (by first | assumption | omega)) ?_)
       | (show WPl _ _ _ _ _ _ _ (⟨_, .load _ _, _, _, _, _⟩ :: _) _; first | refine WPl.rdX (ReadR.loadE rfl hasA (by assumption)) ?_ | refine WPl.rdX (ReadR.loadES (by assumption) (by first | assumption | omega) rfl hasA) ?_)
       | (show WPl _ _ _ _ _ _ _ (⟨_, .slice _ _ _ _ _, _, _, _, _⟩ :: _) _; first | refine WPl.rdX (ReadR.sliceH rfl rfl hasA (by omega)) ?_ | refine WPl.rdX (ReadR.sliceL rfl rfl hasA (by omega)) ?_ | refine WPl.rdX (ReadR.sliceLH rfl rfl rfl hasA (by omega) (by omega)) ?_)
       | (refine WPl.spQ (fun hc => ?_) (fun hc => ?_) <;> try exact prA)
       | fail)
      refine WPq.asHd (v := .slice (some ⟨g, 0, none⟩) 256 256) (m := s.b.length) (xs := u8s s.b) takeA hasA rfl ?_
      exact WPq.dX (ho := ownsV) (vs := [.slice (some ⟨g, 0, none⟩) 256 256, .int .i64 0]) _ ⟨_, rfl, rfl, rfl⟩
    | some y =>
      obtain ⟨_, hne, hlw⟩ := hok _ (mfind_mem hf)
      obtain ⟨yv, ws⟩ := y
      dsimp only at hne hlw
      have hlt : ws.length - 1 < ws.length := by have := List.length_pos_iff.2 hne; omega
      have hr : nowS ls[j] es j = ws[ws.length - 1] := by
        unfold nowS
        rw [hf]
        show ws.getLastD ls[j] = _
        rw [List.getLastD_eq_getLast?, List.getLast?_eq_getElem?, List.getElem?_eq_getElem hlt]
        rfl
      have c3 := nowW_t gV mD vd (fburn fu 1 a) cn (j : Int) es hin ws[ws.length - 1] yv ws (by rw [mget_of_find hf]) (List.getElem?_eq_getElem hlt) (by omega)
      rw [hr]
      obtain ⟨s, hs⟩ : ∃ s, s = ws[ws.length - 1] := ⟨_, rfl⟩
      rw [← hs] at c3 ⊢
      have hsb := s.len
      refine Triple.enter Try.func16 rfl Try.ntmps16 rfl (fun W => ?_)
      dsimp only [argsF, Nat.reduceAdd]
      refine WPc.bagO hf ?_
      repeat' (first
       | refine WPl.nil ?_ | refine WPq.then ?_ | refine WPq.thenR ?_ | refine WPq.thenE ?_ | refine WPq.blockN ?_ | refine WPq.blockR ?_ | refine WPq.blockE ?_ | refine WPq.blockO rfl ?_ | refine WPc.seq ?_ | refine WPc.block ?_ | refine WPc.ret ?_ | refine WPc.exit ?_ | refine WPc.skip ?_ | refine WPc.region ?_
       | (refine isCond ?_; first | refine WPc.cT ?_ | refine WPc.cF ?_ | (refine WPc.cQ (fun hc => ?_) (fun hc => ?_) <;> try exact prA))
       | (refine isC 10 ?_; refine WPl.cV c1 ?_ (hΔ := provsG))
       | (refine isC 16 ?_; refine WPl.cTs (c2) ?_; (try dsimp only [putF, List.cons_append, List.nil_append]))
       | (refine isC 19 ?_; refine WPl.cV c3 ?_ (hΔ := provsG))
       | (refine isOp ?_; first | refine WPl.rd ?_ | refine WPl.sk ?_ | refine WPl.rdB ?_)
       | (refine isAl ?_; refine WPl.nw fun g => ?_)
       | (refine isSt ?_; first | refine WPl.st1 ?_ | refine WPl.stA ?_ | refine WPl.stEB ?_ | refine WPl.stRB ?_)
       | (show WPl _ _ _ _ _ _ _ (⟨_, .indexAddr _ _ _, _, _, _, _⟩ :: _) _; refine WPl.rdX (ReadR.indexE rfl rfl hasA (by first | assumption | omega)) ?_)
       | (show WPl _ _ _ _ _ _ _ (⟨_, .fieldAddr _ _ _, _, _, _, _⟩ :: _) _; refine WPl.rdX (ReadR.fieldE rfl hasA (by first | assumption | omega)) ?_)
       | (show WPl _ _ _ _ _ _ _ (⟨_, .load _ _, _, _, _, _⟩ :: _) _; first | refine WPl.rdX (ReadR.loadE rfl hasA (by assumption)) ?_ | refine WPl.rdX (ReadR.loadES (by assumption) (by first | assumption | omega) rfl hasA) ?_)
       | (show WPl _ _ _ _ _ _ _ (⟨_, .slice _ _ _ _ _, _, _, _, _⟩ :: _) _; first | refine WPl.rdX (ReadR.sliceH rfl rfl hasA (by omega)) ?_ | refine WPl.rdX (ReadR.sliceL rfl rfl hasA (by omega)) ?_ | refine WPl.rdX (ReadR.sliceLH rfl rfl rfl hasA (by omega) (by omega)) ?_)
       | (refine WPl.spQ (fun hc => ?_) (fun hc => ?_) <;> try exact prA)
       | fail)
      refine WPq.bagI hf ?_
      refine WPq.asHd (v := .slice (some ⟨g, 0, none⟩) 256 256) (m := s.b.length) (xs := u8s s.b) takeA hasA rfl ?_
      exact WPq.dX (ho := ownsV) (vs := [.slice (some ⟨g, 0, none⟩) 256 256, .int .i64 0]) _ ⟨_, rfl, rfl, rfl⟩
end
end Go.Proofs.Ytepmikgjnmjheaa
/- Layer 3 (dev): contracts: Write. -/
namespace Go.Proofs.Ytepmikgjnmjheaa
open Go.RowKit
set_option linter.unusedSimpArgs false
set_option linter.unusedVariables false
set_option maxRecDepth 20000
set_option maxHeartbeats 4000000
attribute [local irreducible] WPc WPl WPq ReadR OpT BinR HasS bx rdN rowN Take Takes Prov Triple ResF BuildP Done ag Int.decLt Int.decLe Int.instDecidableEq
attribute [local irreducible] mp rmp rg rgo bag vrow secs mput mget mfind mdel
section
variable (gV mD : Nat) (vd : Value) (fu : List Int) (cn : Int) (ls : List Sec) (es : List (Int × Vs))
theorem writeNo_t (i : Int) (bv : Value) (l : List UInt8) (hi : i < 0 ∨ (ls.length : Int) ≤ i ∨ l.length ≠ 256) (hn : ls.length ≤ 1000000) (hl : l.length ≤ 1000000) :
    Triple Try.prog 13 #[hD gV, .int .i64 i, bv] [rbx gV 79 (dvc fu vd mD cn), rdN vd ls.length (secs ls), rb bv l] (RVal (.int .i64 1)) := by
  have c1 := has_t gV mD vd fu cn i ls hn
  by_cases h : 0 ≤ i ∧ i < (ls.length : Int)
  · rw [show (decide (0 ≤ i) && decide (i < (ls.length : Int))) = true by simp; omega] at c1
    have hl2 : ¬ (l.length : Int) = 256 := by omega
    refine Triple.enter Try.func13 rfl Try.ntmps13 rfl (fun W => ?_)
    dsimp only [argsF, Nat.reduceAdd]
    repeat' (first
     | refine WPl.nil ?_ | refine WPq.then ?_ | refine WPq.thenR ?_ | refine WPq.thenE ?_ | refine WPq.blockN ?_ | refine WPq.blockR ?_ | refine WPq.blockE ?_ | refine WPq.blockO rfl ?_ | refine WPc.seq ?_ | refine WPc.block ?_ | refine WPc.ret ?_ | refine WPc.exit ?_ | refine WPc.skip ?_ | refine WPc.region ?_
     | (refine isReg 5 ?_; refine WPc.drA [([], [26, 27, 28, 29, 30, 31, 32, 33, 34, 35, 36, 37]), ([0], [22, 26, 27, 28, 29, 30, 31, 32, 33, 34, 35, 36, 37]), ([0, 1], [22, 23, 26, 27, 28, 29, 30, 31, 32, 33, 34, 35, 36, 37]), ([0, 1, 2], [22, 23, 24, 26, 27, 28, 29, 30, 31, 32, 33, 34, 35, 36, 37]), ([], [22, 23, 24, 25, 27, 28, 29, 30, 31, 32, 33, 34, 35, 36, 37]), ([], [22, 23, 24, 25, 26, 31, 33, 34, 35, 36]), ([5], [22, 23, 24, 25, 26, 27, 31, 33, 34, 35, 36]), ([5, 6], [22, 23, 24, 25, 26, 27, 28, 31, 33, 34, 35, 36]), ([5, 6, 7], [22, 23, 24, 25, 26, 27, 28, 29, 31, 33, 34, 35, 36]), ([], [22, 23, 24, 25, 26, 27, 28, 29, 30, 33, 34, 35, 36]), ([5, 6, 7, 8, 9], [22, 23, 24, 25, 26, 27, 28, 29, 30, 31, 33, 34, 35, 36]), ([], [22, 23, 24, 25, 26, 27, 28, 29, 30, 31, 32]), ([11], [22, 23, 24, 25, 26, 27, 28, 29, 30, 31, 32, 33]), ([11, 12], [22, 23, 24, 25, 26, 27, 28, 29, 30, 31, 32, 33, 34]), ([11, 12, 13], [22, 23, 24, 25, 26, 27, 28, 29, 30, 31, 32, 33, 34, 35]), ([5, 6, 7, 8, 9, 10, 11, 12, 13, 14], [22, 23, 24, 25, 26, 27, 28, 29, 30, 31, 32, 33, 34, 35, 36]), ([0, 1, 2, 3, 4, 5, 6, 7, 8, 9, 10, 11, 12, 13, 14, 15], [22, 23, 24, 25, 26, 27, 28, 29, 30, 31, 32, 33, 34, 35, 36, 37])] [] (Γx := []) ?_; dsimp only [prev0, List.length_nil, List.length_cons])
     | (refine gAny ?_; first | (refine gOp ?_; first | refine RGl.rdA ?_ | refine RGl.rdX (fun e hk => by (try dsimp only [bndR, ensR, oksR, fcutR, List.append_nil, List.nil_append, List.cons_append, List.append_assoc] at hk ⊢); exact readB) ?_) | (refine gLit ?_; refine RGl.litA ?_) | (refine gApp ?_; refine RGl.appA ?_) | (refine RGl.fin (fun e hk => ?_); (try dsimp only [bndA, ensAR, oksA, List.append_nil, List.nil_append, List.cons_append, List.append_assoc] at hk ⊢); (repeat (obtain ⟨hk1, hk⟩ := hk))) | fail)
     | (refine isCond ?_; first | refine WPc.cT ?_ | refine WPc.cF ?_ | (refine WPc.cQ (fun hc => ?_) (fun hc => ?_) <;> try first | exact prA | (exfalso; first | omega)))
     | (refine isC 10 ?_; refine WPl.cV c1 ?_ (hΔ := provsG))
     | (refine isOp ?_; first | refine WPl.rd ?_ | refine WPl.sk ?_ | refine WPl.rdB ?_)
     | (refine isSt ?_; first | refine WPl.st1 ?_ | refine WPl.stA ?_ | refine WPl.stEB ?_ | refine WPl.stRB ?_)
     | (show WPl _ _ _ _ _ _ _ (⟨_, .indexAddr _ _ _, _, _, _, _⟩ :: _) _; refine WPl.rdX (ReadR.indexE rfl rfl hasA (by first | assumption | omega)) ?_)
     | (show WPl _ _ _ _ _ _ _ (⟨_, .fieldAddr _ _ _, _, _, _, _⟩ :: _) _; refine WPl.rdX (ReadR.fieldE rfl hasA (by first | assumption | omega)) ?_)
     | (show WPl _ _ _ _ _ _ _ (⟨_, .load _ _, _, _, _, _⟩ :: _) _; first | refine WPl.rdX (ReadR.loadE rfl hasA (by assumption)) ?_ | refine WPl.rdX (ReadR.loadES (by assumption) (by first | assumption | omega) rfl hasA) ?_)
     | (show WPl _ _ _ _ _ _ _ (⟨_, .slice _ _ _ _ _, _, _, _, _⟩ :: _) _; first | refine WPl.rdX (ReadR.sliceH rfl rfl hasA (by omega)) ?_ | refine WPl.rdX (ReadR.sliceL rfl rfl hasA (by omega)) ?_ | refine WPl.rdX (ReadR.sliceLH rfl rfl rfl hasA (by omega) (by omega)) ?_)
     | (refine WPl.spQ (fun hc => ?_) (fun hc => ?_) <;> try first | exact prA | (exfalso; first | omega))
     | fail)
    all_goals exact WPq.dV
  · rw [show (decide (0 ≤ i) && decide (i < (ls.length : Int))) = false by simp; omega] at c1
    refine Triple.enter Try.func13 rfl Try.ntmps13 rfl (fun W => ?_)
    dsimp only [argsF, Nat.reduceAdd]
    repeat' (first
     | refine WPl.nil ?_ | refine WPq.then ?_ | refine WPq.thenR ?_ | refine WPq.thenE ?_ | refine WPq.blockN ?_ | refine WPq.blockR ?_ | refine WPq.blockE ?_ | refine WPq.blockO rfl ?_ | refine WPc.seq ?_ | refine WPc.block ?_ | refine WPc.ret ?_ | refine WPc.exit ?_ | refine WPc.skip ?_ | refine WPc.region ?_
     | (refine isReg 5 ?_; refine WPc.drA [([], [26, 27, 28, 29, 30, 31, 32, 33, 34, 35, 36, 37]), ([0], [22, 26, 27, 28, 29, 30, 31, 32, 33, 34, 35, 36, 37]), ([0, 1], [22, 23, 26, 27, 28, 29, 30, 31, 32, 33, 34, 35, 36, 37]), ([0, 1, 2], [22, 23, 24, 26, 27, 28, 29, 30, 31, 32, 33, 34, 35, 36, 37]), ([], [22, 23, 24, 25, 27, 28, 29, 30, 31, 32, 33, 34, 35, 36, 37]), ([], [22, 23, 24, 25, 26, 31, 33, 34, 35, 36]), ([5], [22, 23, 24, 25, 26, 27, 31, 33, 34, 35, 36]), ([5, 6], [22, 23, 24, 25, 26, 27, 28, 31, 33, 34, 35, 36]), ([5, 6, 7], [22, 23, 24, 25, 26, 27, 28, 29, 31, 33, 34, 35, 36]), ([], [22, 23, 24, 25, 26, 27, 28, 29, 30, 33, 34, 35, 36]), ([5, 6, 7, 8, 9], [22, 23, 24, 25, 26, 27, 28, 29, 30, 31, 33, 34, 35, 36]), ([], [22, 23, 24, 25, 26, 27, 28, 29, 30, 31, 32]), ([11], [22, 23, 24, 25, 26, 27, 28, 29, 30, 31, 32, 33]), ([11, 12], [22, 23, 24, 25, 26, 27, 28, 29, 30, 31, 32, 33, 34]), ([11, 12, 13], [22, 23, 24, 25, 26, 27, 28, 29, 30, 31, 32, 33, 34, 35]), ([5, 6, 7, 8, 9, 10, 11, 12, 13, 14], [22, 23, 24, 25, 26, 27, 28, 29, 30, 31, 32, 33, 34, 35, 36]), ([0, 1, 2, 3, 4, 5, 6, 7, 8, 9, 10, 11, 12, 13, 14, 15], [22, 23, 24, 25, 26, 27, 28, 29, 30, 31, 32, 33, 34, 35, 36, 37])] [] (Γx := []) ?_; dsimp only [prev0, List.length_nil, List.length_cons])
     | (refine gAny ?_; first | (refine gOp ?_; first | refine RGl.rdA ?_ | refine RGl.rdX (fun e hk => by (try dsimp only [bndR, ensR, oksR, fcutR, List.append_nil, List.nil_append, List.cons_append, List.append_assoc] at hk ⊢); exact readB) ?_) | (refine gLit ?_; refine RGl.litA ?_) | (refine gApp ?_; refine RGl.appA ?_) | (refine RGl.fin (fun e hk => ?_); (try dsimp only [bndA, ensAR, oksA, List.append_nil, List.nil_append, List.cons_append, List.append_assoc] at hk ⊢); (repeat (obtain ⟨hk1, hk⟩ := hk))) | fail)
     | (refine isCond ?_; first | refine WPc.cT ?_ | refine WPc.cF ?_ | (refine WPc.cQ (fun hc => ?_) (fun hc => ?_) <;> try exact prA))
     | (refine isC 10 ?_; refine WPl.cV c1 ?_ (hΔ := provsG))
     | (refine isOp ?_; first | refine WPl.rd ?_ | refine WPl.sk ?_ | refine WPl.rdB ?_)
     | (refine isSt ?_; first | refine WPl.st1 ?_ | refine WPl.stA ?_ | refine WPl.stEB ?_ | refine WPl.stRB ?_)
     | (show WPl _ _ _ _ _ _ _ (⟨_, .indexAddr _ _ _, _, _, _, _⟩ :: _) _; refine WPl.rdX (ReadR.indexE rfl rfl hasA (by first | assumption | omega)) ?_)
     | (show WPl _ _ _ _ _ _ _ (⟨_, .fieldAddr _ _ _, _, _, _, _⟩ :: _) _; refine WPl.rdX (ReadR.fieldE rfl hasA (by first | assumption | omega)) ?_)
     | (show WPl _ _ _ _ _ _ _ (⟨_, .load _ _, _, _, _, _⟩ :: _) _; first | refine WPl.rdX (ReadR.loadE rfl hasA (by assumption)) ?_ | refine WPl.rdX (ReadR.loadES (by assumption) (by first | assumption | omega) rfl hasA) ?_)
     | (show WPl _ _ _ _ _ _ _ (⟨_, .slice _ _ _ _ _, _, _, _, _⟩ :: _) _; first | refine WPl.rdX (ReadR.sliceH rfl rfl hasA (by omega)) ?_ | refine WPl.rdX (ReadR.sliceL rfl rfl hasA (by omega)) ?_ | refine WPl.rdX (ReadR.sliceLH rfl rfl rfl hasA (by omega) (by omega)) ?_)
     | (refine WPl.spQ (fun hc => ?_) (fun hc => ?_) <;> try exact prA)
     | fail)
    all_goals exact WPq.dV
def RWrite (gV mD : Nat) (vd : Value) (fu : List Int) (ls : List Sec) (es : List (Int × Vs)) (cn : Int) (j : Nat) (ws : List Sec) : Value → List Asn → Prop := fun v Γ => ∃ wv, v = .int .i64 0 ∧ Γ = [bx gV 79 (dvc fu vd mD cn), rowN 81 256 vd ls.length (secs ls), mp secM mD (mput es (j : Int) ⟨wv, ws⟩), bag (mput es (j : Int) ⟨wv, ws⟩)]
theorem writeF_t (j : Nat) (bv : Value) (l : List UInt8) (hj : j < ls.length) (hl : l.length = 256) (hn : ls.length ≤ 1000000) (h4 : fu.length = 4) (ha : fu[2]? = some 0) :
    Triple Try.prog 13 #[hD gV, .int .i64 (j : Int), bv] [(bx gV 79 (dvc fu vd mD cn)), (rowN 81 256 vd (List.length ls) (secs ls)), rb bv l] (RTurns (.int .i64 3) [(bx gV 79 (dvc (fburn fu 2 0) vd mD cn)), (rowN 81 256 vd (List.length ls) (secs ls))]) := by
  have c1 := has_t gV mD vd fu cn (j : Int) ls hn
  rw [show (decide (0 ≤ (j : Int)) && decide ((j : Int) < (ls.length : Int))) = true by simp; omega] at c1
  have c2 := burns_t gV mD vd fu cn 2 0 h4 (by omega) ha (by omega) (by omega)
  rw [show decide ((0 : Int) = 0) = true by simp] at c2
  have hl2 : (l.length : Int) = 256 := by omega
  refine Triple.enter Try.func13 rfl Try.ntmps13 rfl (fun W => ?_)
  dsimp only [argsF, Nat.reduceAdd]
  repeat' (first
   | refine WPl.nil ?_ | refine WPq.then ?_ | refine WPq.thenR ?_ | refine WPq.thenE ?_ | refine WPq.blockN ?_ | refine WPq.blockR ?_ | refine WPq.blockE ?_ | refine WPq.blockO rfl ?_ | refine WPc.seq ?_ | refine WPc.block ?_ | refine WPc.ret ?_ | refine WPc.exit ?_ | refine WPc.skip ?_ | refine WPc.region ?_
   | (refine isReg 5 ?_; refine WPc.drA [([], [26, 27, 28, 29, 30, 31, 32, 33, 34, 35, 36, 37]), ([0], [22, 26, 27, 28, 29, 30, 31, 32, 33, 34, 35, 36, 37]), ([0, 1], [22, 23, 26, 27, 28, 29, 30, 31, 32, 33, 34, 35, 36, 37]), ([0, 1, 2], [22, 23, 24, 26, 27, 28, 29, 30, 31, 32, 33, 34, 35, 36, 37]), ([], [22, 23, 24, 25, 27, 28, 29, 30, 31, 32, 33, 34, 35, 36, 37]), ([], [22, 23, 24, 25, 26, 31, 33, 34, 35, 36]), ([5], [22, 23, 24, 25, 26, 27, 31, 33, 34, 35, 36]), ([5, 6], [22, 23, 24, 25, 26, 27, 28, 31, 33, 34, 35, 36]), ([5, 6, 7], [22, 23, 24, 25, 26, 27, 28, 29, 31, 33, 34, 35, 36]), ([], [22, 23, 24, 25, 26, 27, 28, 29, 30, 33, 34, 35, 36]), ([5, 6, 7, 8, 9], [22, 23, 24, 25, 26, 27, 28, 29, 30, 31, 33, 34, 35, 36]), ([], [22, 23, 24, 25, 26, 27, 28, 29, 30, 31, 32]), ([11], [22, 23, 24, 25, 26, 27, 28, 29, 30, 31, 32, 33]), ([11, 12], [22, 23, 24, 25, 26, 27, 28, 29, 30, 31, 32, 33, 34]), ([11, 12, 13], [22, 23, 24, 25, 26, 27, 28, 29, 30, 31, 32, 33, 34, 35]), ([5, 6, 7, 8, 9, 10, 11, 12, 13, 14], [22, 23, 24, 25, 26, 27, 28, 29, 30, 31, 32, 33, 34, 35, 36]), ([0, 1, 2, 3, 4, 5, 6, 7, 8, 9, 10, 11, 12, 13, 14, 15], [22, 23, 24, 25, 26, 27, 28, 29, 30, 31, 32, 33, 34, 35, 36, 37])] [] (Γx := []) ?_; dsimp only [prev0, List.length_nil, List.length_cons])
   | (refine gAny ?_; first | (refine gC 21 ?_; refine RGl.turns (fun e hk => by (try dsimp only [bndR, ensR, oksR, fcutR, List.append_nil, List.nil_append, List.cons_append, List.append_assoc] at hk ⊢); exact OpT.callTs (c2)) ?_) | (refine gOp ?_; first | refine RGl.rdA ?_ | refine RGl.rdX (fun e hk => by (try dsimp only [bndR, ensR, oksR, fcutR, List.append_nil, List.nil_append, List.cons_append, List.append_assoc] at hk ⊢); exact readB) ?_) | (refine gLit ?_; refine RGl.litA ?_) | (refine gApp ?_; refine RGl.appA ?_) | (refine RGl.fin (fun e hk => ?_); (try dsimp only [bndA, ensAR, oksA, List.append_nil, List.nil_append, List.cons_append, List.append_assoc] at hk ⊢); (repeat (obtain ⟨hk1, hk⟩ := hk))) | fail)
   | (refine isCond ?_; first | refine WPc.cT ?_ | refine WPc.cF ?_ | (refine WPc.cQ (fun hc => ?_) (fun hc => ?_) <;> try first | exact prA | (exfalso; first | omega)))
   | (refine isC 10 ?_; refine WPl.cV c1 ?_ (hΔ := provsG))
   | (refine isC 21 ?_; refine WPl.cTs (c2) ?_; (try dsimp only [putF, List.cons_append, List.nil_append]))
   | (refine isOp ?_; first | refine WPl.rd ?_ | refine WPl.sk ?_ | refine WPl.rdB ?_)
   | (refine isSt ?_; first | refine WPl.st1 ?_ | refine WPl.stA ?_ | refine WPl.stEB ?_ | refine WPl.stRB ?_)
   | (show WPl _ _ _ _ _ _ _ (⟨_, .indexAddr _ _ _, _, _, _, _⟩ :: _) _; refine WPl.rdX (ReadR.indexE rfl rfl hasA (by first | assumption | omega)) ?_)
   | (show WPl _ _ _ _ _ _ _ (⟨_, .fieldAddr _ _ _, _, _, _, _⟩ :: _) _; refine WPl.rdX (ReadR.fieldE rfl hasA (by first | assumption | omega)) ?_)
   | (show WPl _ _ _ _ _ _ _ (⟨_, .load _ _, _, _, _, _⟩ :: _) _; first | refine WPl.rdX (ReadR.loadE rfl hasA (by assumption)) ?_ | refine WPl.rdX (ReadR.loadES (by assumption) (by first | assumption | omega) rfl hasA) ?_)
   | (show WPl _ _ _ _ _ _ _ (⟨_, .slice _ _ _ _ _, _, _, _, _⟩ :: _) _; first | refine WPl.rdX (ReadR.sliceH rfl rfl hasA (by omega)) ?_ | refine WPl.rdX (ReadR.sliceL rfl rfl hasA (by omega)) ?_ | refine WPl.rdX (ReadR.sliceLH rfl rfl rfl hasA (by omega) (by omega)) ?_)
   | (refine WPl.spQ (fun hc => ?_) (fun hc => ?_) <;> try first | exact prA | (exfalso; first | omega))
   | fail)
  all_goals exact WPq.dTs
theorem write_t (j : Nat) (a : Int) (bv : Value) (s : Sec) (hj : j < ls.length) (hn : ls.length ≤ 1000000) (h4 : fu.length = 4) (ha : fu[2]? = some a) (hlo : -1 ≤ a) (hhi : a ≤ 9223372036854775807) (h0 : a ≠ 0) (hcn : 0 ≤ cn ∧ cn ≤ 1000000) (hlw : (mget secM es (j : Int)).ws.length ≤ 100000) :
    Triple Try.prog 13 #[hD gV, .int .i64 (j : Int), bv] [(bx gV 79 (dvc fu vd mD cn)), (rowN 81 256 vd (List.length ls) (secs ls)), mp secM mD es, bag es, rb bv s.b] (RWrite gV mD vd (fburn fu 2 a) ls es (cn + 1) j ((mget secM es (j : Int)).ws ++ [s])) := by
  have c1 := has_t gV mD vd fu cn (j : Int) ls hn
  rw [show (decide (0 ≤ (j : Int)) && decide ((j : Int) < (ls.length : Int))) = true by simp; omega] at c1
  have c2 := burns_t gV mD vd fu cn 2 a h4 (by omega) ha hlo hhi
  rw [show decide (a = 0) = false by simpa using h0] at c2
  have hin : in64 (j : Int) := by unfold in64; omega
  have hwf : secM.wf (j : Int) := hin
  have hsb := s.len
  have hl2 : (s.b.length : Int) = 256 := by omega
  obtain ⟨y, hy⟩ : ∃ y, y = mget secM es (j : Int) := ⟨_, rfl⟩
  have hc0 : secM.vc (mget secM es (j : Int)) = y.v := by rw [← hy]; rfl
  rw [← hy] at hlw ⊢
  have hfk : FOk [(256, u8s s.b)] := secC_ok s
  have hone : ∀ u ∈ u8s s.b, u.oneCell' = true := u8s_one _
  refine Triple.enter Try.func13 rfl Try.ntmps13 rfl (fun W => ?_)
  dsimp only [argsF, Nat.reduceAdd]
  refine WPc.vsOut (j : Int) ?_
  rw [← hy]
  repeat' (first
   | refine WPl.nil ?_ | refine WPq.then ?_ | refine WPq.thenR ?_ | refine WPq.thenE ?_ | refine WPq.blockN ?_ | refine WPq.blockR ?_ | refine WPq.blockE ?_ | refine WPq.blockO rfl ?_ | refine WPc.seq ?_ | refine WPc.block ?_ | refine WPc.ret ?_ | refine WPc.exit ?_ | refine WPc.skip ?_ | refine WPc.region ?_
   | (refine isReg 5 ?_; refine WPc.drA [([17, 18], [26, 27, 28, 29, 30, 31, 32, 33, 34, 35, 36, 37]), ([0, 17, 18], [22, 26, 27, 28, 29, 30, 31, 32, 33, 34, 35, 36, 37]), ([0, 1, 17, 18], [22, 23, 26, 27, 28, 29, 30, 31, 32, 33, 34, 35, 36, 37]), ([0, 1, 2, 17, 18], [22, 23, 24, 26, 27, 28, 29, 30, 31, 32, 33, 34, 35, 36, 37]), ([17, 18], [22, 23, 24, 25, 27, 28, 29, 30, 31, 32, 33, 34, 35, 36, 37]), ([17, 18], [22, 23, 24, 25, 26, 31, 33, 34, 35, 36]), ([5, 17, 18], [22, 23, 24, 25, 26, 27, 31, 33, 34, 35, 36]), ([5, 6, 17, 18], [22, 23, 24, 25, 26, 27, 28, 31, 33, 34, 35, 36]), ([5, 6, 7, 17, 18], [22, 23, 24, 25, 26, 27, 28, 29, 31, 33, 34, 35, 36]), ([17, 18], [22, 23, 24, 25, 26, 27, 28, 29, 30, 33, 34, 35, 36]), ([5, 6, 7, 8, 9, 17, 18], [22, 23, 24, 25, 26, 27, 28, 29, 30, 31, 33, 34, 35, 36]), ([17, 18], [22, 23, 24, 25, 26, 27, 28, 29, 30, 31, 32]), ([11, 17, 18], [22, 23, 24, 25, 26, 27, 28, 29, 30, 31, 32, 33]), ([11, 12, 17, 18], [22, 23, 24, 25, 26, 27, 28, 29, 30, 31, 32, 33, 34]), ([11, 12, 13, 17, 18], [22, 23, 24, 25, 26, 27, 28, 29, 30, 31, 32, 33, 34, 35]), ([5, 6, 7, 8, 9, 10, 11, 12, 13, 14, 17, 18], [22, 23, 24, 25, 26, 27, 28, 29, 30, 31, 32, 33, 34, 35, 36]), ([0, 1, 2, 3, 4, 5, 6, 7, 8, 9, 10, 11, 12, 13, 14, 15, 17, 18], [22, 23, 24, 25, 26, 27, 28, 29, 30, 31, 32, 33, 34, 35, 36, 37])] [(17, 15), (18, 16), (17, 5), (17, 6), (17, 7), (17, 8), (17, 9), (17, 10), (17, 11), (17, 12), (17, 13), (17, 14), (18, 0), (18, 1), (18, 2), (18, 3), (18, 4), (18, 5), (18, 6), (18, 7), (18, 8), (18, 9), (18, 10), (18, 11), (18, 12), (18, 13), (18, 14), (18, 15)] (Γx := [rowN 81 256 y.v y.ws.length (secs y.ws), mp secM mD es]) (hox := ownsA) ?_; dsimp only [prev0, List.length_nil, List.length_cons])
   | (refine gAny ?_; first | (refine gC 21 ?_; refine RGl.turns (fun e hk => by (try dsimp only [bndR, ensR, oksR, fcutR, List.append_nil, List.nil_append, List.cons_append, List.append_assoc] at hk ⊢); exact OpT.callTs (c2)) ?_) | (refine gD 36 ?_; refine RGl.row (Γ1 := fun _ => []) (fun e hk => by (try dsimp only [bndR, ensR, oksR, fcutR, List.append_nil, List.nil_append, List.cons_append, List.append_assoc] at hk ⊢); exact OpT.buildS1 (ds := [(256, u8s s.b)]) rfl hfk (by first | assumption | rfl) rfl) ?_) | (refine gD 37 ?_; refine RGl.row (Γ1 := fun e => [rowN 81 256 y.v y.ws.length (secs y.ws)]) (m := fun e => y.ws.length + 1) (xs := fun e => secs y.ws ++ u8s s.b) (fun e hk => by (try dsimp only [bndR, ensR, oksR, fcutR, List.append_nil, List.nil_append, List.cons_append, List.append_assoc] at hk ⊢); exact OpT.appendN (m := y.ws.length) (m2 := 1) (xs := secs y.ws) (ys := u8s s.b) rfl rfl takesA (hasA) (by rw [u8s_length, hsb]) hone (by omega)) ?_) | (refine gD 32 ?_; refine RGl.rdX (fun e hk => by (try dsimp only [bndR, ensR, oksR, fcutR, List.append_nil, List.nil_append, List.cons_append, List.append_assoc] at hk ⊢); exact ReadR.look hwf rfl rfl memA hc0) ?_) | (refine gD 34 ?_; refine RGl.rdX (fun e hk => by (try dsimp only [bndR, ensR, oksR, fcutR, List.append_nil, List.nil_append, List.cons_append, List.append_assoc] at hk ⊢); exact ReadR.toArr rfl hasA (by omega) (by omega)) ?_) | (refine gD 35 ?_; refine RGl.rdX (fun e hk => by (try dsimp only [bndR, ensR, oksR, fcutR, List.append_nil, List.nil_append, List.cons_append, List.append_assoc] at hk ⊢); exact ReadR.loadEA0 rfl hasA hsb) ?_) | (refine gOp ?_; (show RGl _ _ _ _ _ _ _ _ (⟨_, .mapUpdate _ _ _ _, _, _, _, _⟩ :: _) _ _; refine RGl.turn (fun e hk => by (try dsimp only [bndR, ensR, oksR, fcutR, List.append_nil, List.nil_append, List.cons_append, List.append_assoc] at hk ⊢); exact OpT.mput (M := secM) (k := (j : Int)) (v := Vs.mk (e 15).1 (y.ws ++ [s])) hwf rfl rfl rfl takesA) ?_)) | (refine gOp ?_; first | refine RGl.rdA ?_ | refine RGl.rdX (fun e hk => by (try dsimp only [bndR, ensR, oksR, fcutR, List.append_nil, List.nil_append, List.cons_append, List.append_assoc] at hk ⊢); exact readB) ?_) | (refine gLit ?_; refine RGl.litA ?_) | (refine gApp ?_; refine RGl.appA ?_) | (refine RGl.fin (fun e hk => ?_); (try dsimp only [bndA, ensAR, oksA, List.append_nil, List.nil_append, List.cons_append, List.append_assoc] at hk ⊢); (repeat (obtain ⟨hk1, hk⟩ := hk))) | fail)
   | (refine isCond ?_; first | refine WPc.cT ?_ | refine WPc.cF ?_ | (refine WPc.cQ (fun hc => ?_) (fun hc => ?_) <;> try first | exact prA | (exfalso; first | omega)))
   | (refine isC 10 ?_; refine WPl.cV c1 ?_ (hΔ := provsG))
   | (refine isC 21 ?_; refine WPl.cTs (c2) ?_; (try dsimp only [putF, List.cons_append, List.nil_append]))
   | (refine isOp ?_; first | refine WPl.rd ?_ | refine WPl.sk ?_ | refine WPl.rdB ?_)
   | (refine isSt ?_; first | refine WPl.st1 ?_ | refine WPl.stA ?_ | refine WPl.stEB ?_ | refine WPl.stRB ?_)
   | (show WPl _ _ _ _ _ _ _ (⟨_, .indexAddr _ _ _, _, _, _, _⟩ :: _) _; refine WPl.rdX (ReadR.indexE rfl rfl hasA (by first | assumption | omega)) ?_)
   | (show WPl _ _ _ _ _ _ _ (⟨_, .fieldAddr _ _ _, _, _, _, _⟩ :: _) _; refine WPl.rdX (ReadR.fieldE rfl hasA (by first | assumption | omega)) ?_)
   | (show WPl _ _ _ _ _ _ _ (⟨_, .load _ _, _, _, _, _⟩ :: _) _; first | refine WPl.rdX (ReadR.loadE rfl hasA (by assumption)) ?_ | refine WPl.rdX (ReadR.loadES (by assumption) (by first | assumption | omega) rfl hasA) ?_)
   | (show WPl _ _ _ _ _ _ _ (⟨_, .slice _ _ _ _ _, _, _, _, _⟩ :: _) _; first | refine WPl.rdX (ReadR.sliceH rfl rfl hasA (by omega)) ?_ | refine WPl.rdX (ReadR.sliceL rfl rfl hasA (by omega)) ?_ | refine WPl.rdX (ReadR.sliceLH rfl rfl rfl hasA (by omega) (by omega)) ?_)
   | (refine WPl.spQ (fun hc => ?_) (fun hc => ?_) <;> try first | exact prA | (exfalso; first | omega))
   | fail)
  have hrow : rowN 81 256 (e 15).1 (Vs.mk (e 15).1 (y.ws ++ [s])).ws.length (secs (Vs.mk (e 15).1 (y.ws ++ [s])).ws) = rowN 81 256 (e 15).1 (y.ws.length + 1) (secs y.ws ++ u8s s.b) := by
    show rowN 81 256 (e 15).1 (y.ws ++ [s]).length (secs (y.ws ++ [s])) = _
    rw [secs_app, secs_1, List.length_append]; rfl
  refine WPq.vsIn (j : Int) ⟨(e 15).1, y.ws ++ [s]⟩ (by rw [hrow]; exact takesA) ?_
  exact WPq.dX (ho := ownsV) (vs := [.int .i64 0]) [bx gV 79 (dvc (fburn fu 2 a) vd mD (cn + 1)), rowN 81 256 vd ls.length (secs ls), mp secM mD (mput es (j : Int) ⟨(e 15).1, y.ws ++ [s]⟩), bag (mput es (j : Int) ⟨(e 15).1, y.ws ++ [s]⟩)] ⟨(e 15).1, rfl, rfl⟩
end
end Go.Proofs.Ytepmikgjnmjheaa
/- Layer 3 (dev): contracts: Flush. -/
namespace Go.Proofs.Ytepmikgjnmjheaa
open Go.RowKit
set_option linter.unusedSimpArgs false
set_option linter.unusedVariables false
set_option maxRecDepth 20000
set_option maxHeartbeats 4000000
attribute [local irreducible] WPc WPl WPq ReadR OpT BinR HasS bx rdN rowN Take Takes Prov Triple ResF BuildP Done ag Int.decLt Int.decLe Int.instDecidableEq
attribute [local irreducible] mp rmp rg rgo bag vrow secs mput mget mfind mdel
def nowAll (ls : List Sec) (es : List (Int × Vs)) : List Sec := ls.mapIdx fun j s => nowS s es j
theorem nowAll_at {ls : List Sec} {es : List (Int × Vs)} {j : Nat} : (nowAll ls es)[j]? = (ls[j]?).map (fun s => nowS s es j) := by unfold nowAll; simp
theorem mhas_any {es : List (Int × Vs)} {i : Int} : mhas es i = es.any (fun y => decide (y.1 = i)) := by
  unfold mhas
  induction es with
  | nil => with_unfolding_all rfl
  | cons a l ih =>
    rw [List.any_cons, ← ih, show mfind (a :: l) i = if a.1 = i then some a.2 else mfind l i by with_unfolding_all rfl]
    by_cases h : a.1 = i <;> simp [h]
theorem nowS_none {es : List (Int × Vs)} {j : Nat} {s : Sec} (h : mhas es (j : Int) = false) : nowS s es j = s := by
  have : mfind es (j : Int) = none := by unfold mhas at h; simpa using h
  unfold nowS; rw [this]
/-- The state of Flush's loop: td is left. -/
def FlI (ls : List Sec) (es : List (Int × Vs)) (cur : List Sec) (td : List (Int × Vs)) : Prop := cur.length = ls.length ∧ ∀ j : Nat, cur[j]? = if mhas td (j : Int) = true then ls[j]? else (nowAll ls es)[j]?
theorem FlI.start {ls : List Sec} {es : List (Int × Vs)} : FlI ls es ls es := by
  refine ⟨rfl, fun j => ?_⟩
  by_cases h : mhas es (j : Int) = true
  · rw [if_pos h]
  · rw [if_neg h, nowAll_at]
    have h2 : ∀ s, nowS s es j = s := fun s => nowS_none (by simpa using h)
    cases ls[j]? with
    | none => rfl
    | some s => simp [h2]
theorem FlI.stop {ls : List Sec} {es : List (Int × Vs)} {cur : List Sec} (h : FlI ls es cur []) : cur = nowAll ls es := by
  apply List.ext_getElem?
  intro j
  rw [h.2 j, mhas_any]; rfl
theorem FlI.step {ls : List Sec} {es : List (Int × Vs)} {cur : List Sec} {A B : List (Int × Vs)} {jj : Nat} {yv : Vs} {s : Sec} (h : FlI ls es cur (A ++ ((jj : Int), yv) :: B)) (hj : jj < ls.length) (hn : ((A ++ ((jj : Int), yv) :: B).map (·.1)).Nodup) (hs : ∀ t, nowS t es jj = s) : FlI ls es (cur.set jj s) (A ++ B) := by
  refine ⟨by rw [List.length_set]; exact h.1, fun j => ?_⟩
  rw [List.getElem?_set]
  by_cases e : jj = j
  · subst e
    rw [if_pos rfl, if_pos (by rw [h.1]; exact hj)]
    have : mhas (A ++ B) (jj : Int) = false := by
      rw [mhas_any, List.any_eq_false]
      intro x hx
      rw [List.map_append, List.map_cons, List.nodup_append, List.nodup_cons] at hn
      obtain ⟨_, ⟨h2, _⟩, h3⟩ := hn
      simp only [decide_eq_true_eq]
      intro hxe
      rcases List.mem_append.1 hx with hx | hx
      · exact h3 _ (List.mem_map.2 ⟨x, hx, rfl⟩) _ (List.mem_cons_self ..) hxe
      · exact h2 (List.mem_map.2 ⟨x, hx, hxe⟩)
    rw [this, if_neg (by simp), nowAll_at, List.getElem?_eq_getElem hj, Option.map_some, hs]
  · rw [if_neg e, h.2 j]
    have : mhas (A ++ ((jj : Int), yv) :: B) (j : Int) = mhas (A ++ B) (j : Int) := by
      rw [mhas_any, mhas_any, List.any_append, List.any_append, List.any_cons]
      have : decide ((jj : Int) = (j : Int)) = false := by simpa using fun h => e (by omega)
      rw [this, Bool.false_or]
    rw [this]
section
variable (gV mD : Nat) (vd : Value) (fu : List Int) (cn : Int) (ls : List Sec) (es : List (Int × Vs))
theorem flushF_t (h4 : fu.length = 4) (ha : fu[3]? = some 0) :
    Triple Try.prog 15 #[hD gV] [(bx gV 79 (dvc fu vd mD cn))] (RTurns (.int .i64 3) [(bx gV 79 (dvc (fburn fu 3 0) vd mD cn))]) := by
  have c2 := burns_t gV mD vd fu cn 3 0 h4 (by omega) ha (by omega) (by omega)
  rw [show decide ((0 : Int) = 0) = true by simp] at c2
  refine Triple.enter Try.func15 rfl Try.ntmps15 rfl (fun W => ?_)
  dsimp only [argsF, Nat.reduceAdd]
  repeat' (first
   | refine WPl.nil ?_ | refine WPq.then ?_ | refine WPq.thenR ?_ | refine WPq.thenE ?_ | refine WPq.blockN ?_ | refine WPq.blockR ?_ | refine WPq.blockE ?_ | refine WPq.blockO rfl ?_ | refine WPc.seq ?_ | refine WPc.block ?_ | refine WPc.ret ?_ | refine WPc.exit ?_ | refine WPc.skip ?_ | refine WPc.region ?_
   | (refine isReg 8 ?_; refine WPc.drA [([], [25, 26, 27, 28]), ([0], [21, 25, 26, 27, 28]), ([0, 1], [21, 22, 25, 26, 27, 28]), ([0, 1, 2], [21, 22, 23, 25, 26, 27, 28]), ([], [21, 22, 23, 24, 26, 27, 28]), ([], [21, 22, 23, 24, 25, 27]), ([], [21, 22, 23, 24, 25, 26]), ([5, 6], [21, 22, 23, 24, 25, 26, 27]), ([0, 1, 2, 3, 4, 5, 6, 7], [21, 22, 23, 24, 25, 26, 27, 28]), ([0, 1, 2, 3, 4, 5, 6, 7, 8], [21, 22, 23, 24, 25, 26, 27, 28, 29])] [] (Γx := []) ?_; dsimp only [prev0, List.length_nil, List.length_cons])
   | (refine gAny ?_; first | (refine gC 11 ?_; refine RGl.turns (fun e hk => by (try dsimp only [bndR, ensR, oksR, fcutR, List.append_nil, List.nil_append, List.cons_append, List.append_assoc] at hk ⊢); exact OpT.callTs (c2)) ?_) | (refine gD 6 ?_; refine RGl.rdX (fun e hk => by (try dsimp only [bndR, ensR, oksR, fcutR, List.append_nil, List.nil_append, List.cons_append, List.append_assoc] at hk ⊢); exact readP) ?_) | (refine gOp ?_; first | refine RGl.rdA ?_ | refine RGl.rdX (fun e hk => by (try dsimp only [bndR, ensR, oksR, fcutR, List.append_nil, List.nil_append, List.cons_append, List.append_assoc] at hk ⊢); exact readB) ?_) | (refine gSt ?_; refine RGl.stA ?_) | (refine RGl.fin (fun e hk => ?_); (try dsimp only [bndA, ensAR, oksA, List.append_nil, List.nil_append, List.cons_append, List.append_assoc] at hk ⊢); (repeat (obtain ⟨hk1, hk⟩ := hk))) | fail)
   | (refine isCond ?_; first | refine WPc.cT ?_ | refine WPc.cF ?_ | (refine WPc.cQ (fun hc => ?_) (fun hc => ?_) <;> try exact prA))
   | (refine isD 6 ?_; refine WPl.rdX (readP) ?_)
   | (refine isC 11 ?_; refine WPl.cTs (c2) ?_; (try dsimp only [putF, List.cons_append, List.nil_append]))
   | (refine isOp ?_; first | refine WPl.rd ?_ | refine WPl.sk ?_ | refine WPl.rdB ?_)
   | (refine isSt ?_; first | refine WPl.st1 ?_ | refine WPl.stA ?_ | refine WPl.stEB ?_ | refine WPl.stRB ?_)
   | (show WPl _ _ _ _ _ _ _ (⟨_, .indexAddr _ _ _, _, _, _, _⟩ :: _) _; refine WPl.rdX (ReadR.indexE rfl rfl hasA (by first | assumption | omega)) ?_)
   | (show WPl _ _ _ _ _ _ _ (⟨_, .fieldAddr _ _ _, _, _, _, _⟩ :: _) _; refine WPl.rdX (ReadR.fieldE rfl hasA (by first | assumption | omega)) ?_)
   | (show WPl _ _ _ _ _ _ _ (⟨_, .load _ _, _, _, _, _⟩ :: _) _; first | refine WPl.rdX (ReadR.loadE rfl hasA (by assumption)) ?_ | refine WPl.rdX (ReadR.loadES (by assumption) (by first | assumption | omega) rfl hasA) ?_)
   | (show WPl _ _ _ _ _ _ _ (⟨_, .slice _ _ _ _ _, _, _, _, _⟩ :: _) _; first | refine WPl.rdX (ReadR.sliceH rfl rfl hasA (by omega)) ?_ | refine WPl.rdX (ReadR.sliceL rfl rfl hasA (by omega)) ?_ | refine WPl.rdX (ReadR.sliceLH rfl rfl rfl hasA (by omega) (by omega)) ?_)
   | (refine WPl.spQ (fun hc => ?_) (fun hc => ?_) <;> try exact prA)
   | fail)
  all_goals exact WPq.dTs
theorem flush_t (a : Int) (hn : ls.length ≤ 1000000) (h4 : fu.length = 4) (ha : fu[3]? = some a) (hlo : -1 ≤ a) (hhi : a ≤ 9223372036854775807) (h0 : a ≠ 0) (hok : EOk ls.length es) :
    Triple Try.prog 15 #[hD gV] [(bx gV 79 (dvc fu vd mD cn)), (rowN 81 256 vd (List.length ls) (secs ls)), mp secM mD es, bag es] (RTurns (.int .i64 0) [(bx gV 79 (dvc (fburn fu 3 a) vd mD cn)), rowN 81 256 vd ls.length (secs (nowAll ls es)), mp secM mD [], bag []]) := by
  have c2 := burns_t gV mD vd fu cn 3 a h4 (by omega) ha hlo hhi
  rw [show decide (a = 0) = false by simpa using h0] at c2
  refine Triple.enter Try.func15 rfl Try.ntmps15 rfl (fun W => ?_)
  dsimp only [argsF, Nat.reduceAdd]
  refine WPc.mkeys (M := secM) (m := mD) (l := es) memA fun hnd _ => ?_
  repeat' (first
   | refine WPl.nil ?_ | refine WPq.then ?_ | refine WPq.thenR ?_ | refine WPq.thenE ?_ | refine WPq.blockN ?_ | refine WPq.blockR ?_ | refine WPq.blockE ?_ | refine WPq.blockO rfl ?_ | refine WPc.seq ?_ | refine WPc.block ?_ | refine WPc.ret ?_ | refine WPc.exit ?_ | refine WPc.skip ?_ | refine WPc.region ?_
   | (refine isReg 8 ?_; refine WPc.drA [([], [25, 26, 27, 28]), ([0], [21, 25, 26, 27, 28]), ([0, 1], [21, 22, 25, 26, 27, 28]), ([0, 1, 2], [21, 22, 23, 25, 26, 27, 28]), ([], [21, 22, 23, 24, 26, 27, 28]), ([], [21, 22, 23, 24, 25, 27]), ([], [21, 22, 23, 24, 25, 26]), ([5, 6], [21, 22, 23, 24, 25, 26, 27]), ([0, 1, 2, 3, 4, 5, 6, 7], [21, 22, 23, 24, 25, 26, 27, 28]), ([0, 1, 2, 3, 4, 5, 6, 7, 8], [21, 22, 23, 24, 25, 26, 27, 28, 29])] [] (Γx := []) ?_; dsimp only [prev0, List.length_nil, List.length_cons])
   | (refine gAny ?_; first | (refine gC 11 ?_; refine RGl.turns (fun e hk => by (try dsimp only [bndR, ensR, oksR, fcutR, List.append_nil, List.nil_append, List.cons_append, List.append_assoc] at hk ⊢); exact OpT.callTs (c2)) ?_) | (refine gD 6 ?_; refine RGl.rdX (fun e hk => by (try dsimp only [bndR, ensR, oksR, fcutR, List.append_nil, List.nil_append, List.cons_append, List.append_assoc] at hk ⊢); exact readP) ?_) | (refine gOp ?_; first | refine RGl.rdA ?_ | refine RGl.rdX (fun e hk => by (try dsimp only [bndR, ensR, oksR, fcutR, List.append_nil, List.nil_append, List.cons_append, List.append_assoc] at hk ⊢); exact readB) ?_) | (refine gSt ?_; refine RGl.stA ?_) | (refine RGl.fin (fun e hk => ?_); (try dsimp only [bndA, ensAR, oksA, List.append_nil, List.nil_append, List.cons_append, List.append_assoc] at hk ⊢); (repeat (obtain ⟨hk1, hk⟩ := hk))) | fail)
   | (refine isCond ?_; first | refine WPc.cT ?_ | refine WPc.cF ?_ | (refine WPc.cQ (fun hc => ?_) (fun hc => ?_) <;> try exact prA))
   | (refine isD 6 ?_; refine WPl.rdX (readP) ?_)
   | (refine isC 11 ?_; refine WPl.cTs (c2) ?_; (try dsimp only [putF, List.cons_append, List.nil_append]))
   | (refine isD 16 ?_; refine WPl.mrange (M := secM) (l := es) fun r => ?_)
   | (refine isOp ?_; first | refine WPl.rd ?_ | refine WPl.sk ?_ | refine WPl.rdB ?_)
   | (refine isSt ?_; first | refine WPl.st1 ?_ | refine WPl.stA ?_ | refine WPl.stEB ?_ | refine WPl.stRB ?_)
   | (show WPl _ _ _ _ _ _ _ (⟨_, .indexAddr _ _ _, _, _, _, _⟩ :: _) _; refine WPl.rdX (ReadR.indexE rfl rfl hasA (by first | assumption | omega)) ?_)
   | (show WPl _ _ _ _ _ _ _ (⟨_, .fieldAddr _ _ _, _, _, _, _⟩ :: _) _; refine WPl.rdX (ReadR.fieldE rfl hasA (by first | assumption | omega)) ?_)
   | (show WPl _ _ _ _ _ _ _ (⟨_, .load _ _, _, _, _, _⟩ :: _) _; first | refine WPl.rdX (ReadR.loadE rfl hasA (by assumption)) ?_ | refine WPl.rdX (ReadR.loadES (by assumption) (by first | assumption | omega) rfl hasA) ?_)
   | (show WPl _ _ _ _ _ _ _ (⟨_, .slice _ _ _ _ _, _, _, _, _⟩ :: _) _; first | refine WPl.rdX (ReadR.sliceH rfl rfl hasA (by omega)) ?_ | refine WPl.rdX (ReadR.sliceL rfl rfl hasA (by omega)) ?_ | refine WPl.rdX (ReadR.sliceLH rfl rfl rfl hasA (by omega) (by omega)) ?_)
   | (refine WPl.spQ (fun hc => ?_) (fun hc => ?_) <;> try exact prA)
   | fail)
  first | refine WPc.loop (σ := List Sec × List (Int × Vs) × Option (Int × Vs)) (fun st => FlI ls es st.1 st.2.1) (fun st => [(bx gV 79 (dvc (fburn fu 3 a) vd mD cn)), rowN 81 256 vd ls.length (secs st.1), rg secM mD r es st.2.1 st.2.2, bag es]) (fun st => [(0, hD gV), (16, .pointer (some ⟨r, 0, none⟩))]) (fun st => st.2.1.length) ((ls, es, none)) ?_ takesA frsA (fun st km hx hk => ?_)
  · exact .start
  obtain ⟨cur, td, cu⟩ := st
  dsimp only at hx hk ⊢
  have hkm := hk
  have hsl := secs_len cur
  have hcl := hx.1
  refine WPc.rgsub (M := secM) (m := mD) (r := r) (l := es) (td := td) (c := cu) memA fun hsub _ hwf => ?_
  repeat' (first
   | refine WPl.nil ?_ | refine WPq.then ?_ | refine WPq.thenR ?_ | refine WPq.thenE ?_ | refine WPq.blockN ?_ | refine WPq.blockR ?_ | refine WPq.blockE ?_ | refine WPq.blockO rfl ?_ | refine WPc.seq ?_ | refine WPc.block ?_ | refine WPc.ret ?_ | refine WPc.exit ?_ | refine WPc.skip ?_ | refine WPc.region ?_
   | (refine isReg 8 ?_; refine WPc.drA [([], [25, 26, 27, 28]), ([0], [21, 25, 26, 27, 28]), ([0, 1], [21, 22, 25, 26, 27, 28]), ([0, 1, 2], [21, 22, 23, 25, 26, 27, 28]), ([], [21, 22, 23, 24, 26, 27, 28]), ([], [21, 22, 23, 24, 25, 27]), ([], [21, 22, 23, 24, 25, 26]), ([5, 6], [21, 22, 23, 24, 25, 26, 27]), ([0, 1, 2, 3, 4, 5, 6, 7], [21, 22, 23, 24, 25, 26, 27, 28]), ([0, 1, 2, 3, 4, 5, 6, 7, 8], [21, 22, 23, 24, 25, 26, 27, 28, 29])] [] (Γx := []) ?_; dsimp only [prev0, List.length_nil, List.length_cons])
   | (refine gAny ?_; first | (refine gOp ?_; first | refine RGl.rdA ?_ | refine RGl.rdX (fun e hk => by (try dsimp only [bndR, ensR, oksR, fcutR, List.append_nil, List.nil_append, List.cons_append, List.append_assoc] at hk ⊢); exact readB) ?_) | (refine gSt ?_; refine RGl.stA ?_) | (refine RGl.fin (fun e hk => ?_); (try dsimp only [bndA, ensAR, oksA, List.append_nil, List.nil_append, List.cons_append, List.append_assoc] at hk ⊢); (repeat (obtain ⟨hk1, hk⟩ := hk))) | fail)
   | (refine isCond ?_; first | refine WPc.cT ?_ | refine WPc.cF ?_ | (refine WPc.cQ (fun hc => ?_) (fun hc => ?_) <;> try exact prA))
   | (refine isD 17 ?_; refine WPl.mnext (M := secM) (fun k => .int .i64 k) (fun s => s.v) (fun h0 => ?_) (fun A y B hAB => ?_))
   | (refine isOp ?_; first | refine WPl.rd ?_ | refine WPl.sk ?_ | refine WPl.rdB ?_)
   | (refine isSt ?_; first | refine WPl.st1 ?_ | refine WPl.stA ?_ | refine WPl.stEB ?_ | refine WPl.stRB ?_)
   | (show WPl _ _ _ _ _ _ _ (⟨_, .indexAddr _ _ _, _, _, _, _⟩ :: _) _; refine WPl.rdX (ReadR.indexE rfl rfl hasA (by first | assumption | omega)) ?_)
   | (show WPl _ _ _ _ _ _ _ (⟨_, .fieldAddr _ _ _, _, _, _, _⟩ :: _) _; refine WPl.rdX (ReadR.fieldE rfl hasA (by first | assumption | omega)) ?_)
   | (show WPl _ _ _ _ _ _ _ (⟨_, .load _ _, _, _, _, _⟩ :: _) _; first | refine WPl.rdX (ReadR.loadE rfl hasA (by assumption)) ?_ | refine WPl.rdX (ReadR.loadES (by assumption) (by first | assumption | omega) rfl hasA) ?_)
   | (show WPl _ _ _ _ _ _ _ (⟨_, .slice _ _ _ _ _, _, _, _, _⟩ :: _) _; first | refine WPl.rdX (ReadR.sliceH rfl rfl hasA (by omega)) ?_ | refine WPl.rdX (ReadR.sliceL rfl rfl hasA (by omega)) ?_ | refine WPl.rdX (ReadR.sliceLH rfl rfl rfl hasA (by omega) (by omega)) ?_)
   | (refine WPl.spQ (fun hc => ?_) (fun hc => ?_) <;> try exact prA)
   | fail)
  · refine WPl.rgOut (M := secM) (m := mD) (r := r) (l := es) (td := td) (c := cu) ?_
    subst h0
    obtain rfl := hx.stop
    repeat' (first
     | refine WPl.nil ?_ | refine WPq.then ?_ | refine WPq.thenR ?_ | refine WPq.thenE ?_ | refine WPq.blockN ?_ | refine WPq.blockR ?_ | refine WPq.blockE ?_ | refine WPq.blockO rfl ?_ | refine WPc.seq ?_ | refine WPc.block ?_ | refine WPc.ret ?_ | refine WPc.exit ?_ | refine WPc.skip ?_ | refine WPc.region ?_
     | (refine isReg 8 ?_; refine WPc.drA [([], [25, 26, 27, 28]), ([0], [21, 25, 26, 27, 28]), ([0, 1], [21, 22, 25, 26, 27, 28]), ([0, 1, 2], [21, 22, 23, 25, 26, 27, 28]), ([], [21, 22, 23, 24, 26, 27, 28]), ([], [21, 22, 23, 24, 25, 27]), ([], [21, 22, 23, 24, 25, 26]), ([5, 6], [21, 22, 23, 24, 25, 26, 27]), ([0, 1, 2, 3, 4, 5, 6, 7], [21, 22, 23, 24, 25, 26, 27, 28]), ([0, 1, 2, 3, 4, 5, 6, 7, 8], [21, 22, 23, 24, 25, 26, 27, 28, 29])] [] (Γx := []) ?_; dsimp only [prev0, List.length_nil, List.length_cons])
     | (refine gAny ?_; first | (refine gOp ?_; first | refine RGl.rdA ?_ | refine RGl.rdX (fun e hk => by (try dsimp only [bndR, ensR, oksR, fcutR, List.append_nil, List.nil_append, List.cons_append, List.append_assoc] at hk ⊢); exact readB) ?_) | (refine gSt ?_; refine RGl.stA ?_) | (refine RGl.fin (fun e hk => ?_); (try dsimp only [bndA, ensAR, oksA, List.append_nil, List.nil_append, List.cons_append, List.append_assoc] at hk ⊢); (repeat (obtain ⟨hk1, hk⟩ := hk))) | fail)
     | (refine isCond ?_; first | refine WPc.cT ?_ | refine WPc.cF ?_ | (refine WPc.cQ (fun hc => ?_) (fun hc => ?_) <;> try exact prA))
     | (show WPl _ _ _ _ _ _ _ (⟨none, .call ⟨.builtin .clear, _, _⟩, _, _, _, _⟩ :: _) _; refine WPl.clearM (M := secM) ?_)
     | (refine isOp ?_; first | refine WPl.rd ?_ | refine WPl.sk ?_ | refine WPl.rdB ?_)
     | (refine isSt ?_; first | refine WPl.st1 ?_ | refine WPl.stA ?_ | refine WPl.stEB ?_ | refine WPl.stRB ?_)
     | (show WPl _ _ _ _ _ _ _ (⟨_, .indexAddr _ _ _, _, _, _, _⟩ :: _) _; refine WPl.rdX (ReadR.indexE rfl rfl hasA (by first | assumption | omega)) ?_)
     | (show WPl _ _ _ _ _ _ _ (⟨_, .fieldAddr _ _ _, _, _, _, _⟩ :: _) _; refine WPl.rdX (ReadR.fieldE rfl hasA (by first | assumption | omega)) ?_)
     | (show WPl _ _ _ _ _ _ _ (⟨_, .load _ _, _, _, _, _⟩ :: _) _; first | refine WPl.rdX (ReadR.loadE rfl hasA (by assumption)) ?_ | refine WPl.rdX (ReadR.loadES (by assumption) (by first | assumption | omega) rfl hasA) ?_)
     | (show WPl _ _ _ _ _ _ _ (⟨_, .slice _ _ _ _ _, _, _, _, _⟩ :: _) _; first | refine WPl.rdX (ReadR.sliceH rfl rfl hasA (by omega)) ?_ | refine WPl.rdX (ReadR.sliceL rfl rfl hasA (by omega)) ?_ | refine WPl.rdX (ReadR.sliceLH rfl rfl rfl hasA (by omega) (by omega)) ?_)
     | (refine WPl.spQ (fun hc => ?_) (fun hc => ?_) <;> try exact prA)
     | fail)
    all_goals refine WPq.bag0 ?_
    exact WPq.dTp (ho := ownsV)
  · obtain ⟨yk, yv, ws⟩ := y
    have hmem : (yk, Vs.mk yv ws) ∈ es := hsub.subset (by rw [hAB]; simp)
    obtain ⟨⟨jj, hjk, hjl⟩, hne, hlw⟩ := hok _ hmem
    dsimp only at hjk hjl hne hlw ⊢
    subst hjk
    have hfy : mfind es (jj : Int) = some ⟨yv, ws⟩ := mfind_at hnd hmem
    have hlt : ws.length - 1 < ws.length := by have := List.length_pos_iff.2 hne; omega
    have hin : in64 (jj : Int) := by unfold in64; omega
    have hr : ∀ t, nowS t es jj = ws[ws.length - 1] := by
      intro t
      unfold nowS
      rw [hfy]
      show ws.getLastD t = _
      rw [List.getLastD_eq_getLast?, List.getLast?_eq_getElem?, List.getElem?_eq_getElem hlt]
      rfl
    have c3 := nowW_t gV mD vd (fburn fu 3 a) cn (jj : Int) es hin ws[ws.length - 1] yv ws (by rw [mget_of_find hfy]) (List.getElem?_eq_getElem hlt) (by omega)
    obtain ⟨s, hs⟩ : ∃ s, s = ws[ws.length - 1] := ⟨_, rfl⟩
    rw [← hs] at c3 hr
    have hsb := s.len
    have hfs := secC_ok s
    have hset := secs_set s (show jj < cur.length by omega)
    have hi8 : jj * 256 + 256 ≤ (secs cur).length := by omega
    refine WPl.bagO hfy ?_
    repeat' (first
     | refine WPl.nil ?_ | refine WPq.then ?_ | refine WPq.thenR ?_ | refine WPq.thenE ?_ | refine WPq.blockN ?_ | refine WPq.blockR ?_ | refine WPq.blockE ?_ | refine WPq.blockO rfl ?_ | refine WPc.seq ?_ | refine WPc.block ?_ | refine WPc.ret ?_ | refine WPc.exit ?_ | refine WPc.skip ?_ | refine WPc.region ?_
     | (refine isReg 8 ?_; refine WPc.drA [([10], [25, 26, 27, 28]), ([0, 10], [21, 25, 26, 27, 28]), ([0, 1, 10], [21, 22, 25, 26, 27, 28]), ([0, 1, 2, 10], [21, 22, 23, 25, 26, 27, 28]), ([10], [21, 22, 23, 24, 26, 27, 28]), ([10], [21, 22, 23, 24, 25, 27]), ([10], [21, 22, 23, 24, 25, 26]), ([5, 6, 10], [21, 22, 23, 24, 25, 26, 27]), ([0, 1, 2, 3, 4, 5, 6, 7, 10], [21, 22, 23, 24, 25, 26, 27, 28]), ([0, 1, 2, 3, 4, 5, 6, 7, 8, 10], [21, 22, 23, 24, 25, 26, 27, 28, 29])] [(10, 9), (10, 0), (10, 1), (10, 2), (10, 3), (10, 4), (10, 5), (10, 6), (10, 7), (10, 8)] (Γx := [rowN 81 256 vd ls.length (secs cur)]) ?_; dsimp only [prev0, List.length_nil, List.length_cons])
     | (refine gAny ?_; first | (show RGl _ _ _ _ _ _ _ _ (⟨_, .store _ (.tmp 29) _, _, _, _, _⟩ :: _) _ _; refine RGl.turn (fun e hk => by (try dsimp only [bndR, ensR, oksR, fcutR, List.append_nil, List.nil_append, List.cons_append, List.append_assoc] at hk ⊢); exact OpT.storeES rfl rfl takesA hfs (show total (secC s) = 256 from rfl) hi8 (Nat.succ_pos 255)) ?_) | (refine gD 19 ?_; refine RGl.rdX (fun e hk => by (try dsimp only [bndR, ensR, oksR, fcutR, List.append_nil, List.nil_append, List.cons_append, List.append_assoc] at hk ⊢); exact ReadR.entry (kv := .int .i64 (jj : Int)) (vv := yv) rfl rfl memA rfl) ?_) | (refine gOp ?_; (refine gC 28 ?_; refine RGl.vl (fun e hk => OpT.callN c3 (hΔ := by (try dsimp only [bndR, ensR, oksR, fcutR, List.append_nil, List.nil_append, List.cons_append, List.append_assoc] at hk ⊢); exact provsG)) ?_)) | (refine gD 29 ?_; refine RGl.rdX (fun e hk => by (try dsimp only [bndR, ensR, oksR, fcutR, List.append_nil, List.nil_append, List.cons_append, List.append_assoc] at hk ⊢); exact ReadR.indexE rfl rfl hasA (by omega)) ?_) | (refine gOp ?_; first | refine RGl.rdA ?_ | refine RGl.rdX (fun e hk => by (try dsimp only [bndR, ensR, oksR, fcutR, List.append_nil, List.nil_append, List.cons_append, List.append_assoc] at hk ⊢); exact readB) ?_) | (refine gSt ?_; refine RGl.stA ?_) | (refine RGl.fin (fun e hk => ?_); (try dsimp only [bndA, ensAR, oksA, List.append_nil, List.nil_append, List.cons_append, List.append_assoc] at hk ⊢); (repeat (obtain ⟨hk1, hk⟩ := hk))) | fail)
     | (refine isCond ?_; first | refine WPc.cT ?_ | refine WPc.cF ?_ | (refine WPc.cQ (fun hc => ?_) (fun hc => ?_) <;> try exact prA))
     | (refine isD 19 ?_; refine WPl.rdX (ReadR.entry (kv := .int .i64 (jj : Int)) (vv := yv) rfl rfl memA rfl) ?_)
     | (refine isOp ?_; first | refine WPl.rd ?_ | refine WPl.sk ?_ | refine WPl.rdB ?_)
     | (refine isSt ?_; first | refine WPl.st1 ?_ | refine WPl.stA ?_ | refine WPl.stEB ?_ | refine WPl.stRB ?_)
     | (show WPl _ _ _ _ _ _ _ (⟨_, .indexAddr _ _ _, _, _, _, _⟩ :: _) _; refine WPl.rdX (ReadR.indexE rfl rfl hasA (by first | assumption | omega)) ?_)
     | (show WPl _ _ _ _ _ _ _ (⟨_, .fieldAddr _ _ _, _, _, _, _⟩ :: _) _; refine WPl.rdX (ReadR.fieldE rfl hasA (by first | assumption | omega)) ?_)
     | (show WPl _ _ _ _ _ _ _ (⟨_, .load _ _, _, _, _, _⟩ :: _) _; first | refine WPl.rdX (ReadR.loadE rfl hasA (by assumption)) ?_ | refine WPl.rdX (ReadR.loadES (by assumption) (by first | assumption | omega) rfl hasA) ?_)
     | (show WPl _ _ _ _ _ _ _ (⟨_, .slice _ _ _ _ _, _, _, _, _⟩ :: _) _; first | refine WPl.rdX (ReadR.sliceH rfl rfl hasA (by omega)) ?_ | refine WPl.rdX (ReadR.sliceL rfl rfl hasA (by omega)) ?_ | refine WPl.rdX (ReadR.sliceLH rfl rfl rfl hasA (by omega) (by omega)) ?_)
     | (refine WPl.spQ (fun hc => ?_) (fun hc => ?_) <;> try exact prA)
     | fail)
    rw [hset]
    refine WPq.bagI hfy ?_
    exact WPq.rnd (cur.set jj s, A ++ B, some ((jj : Int), ⟨yv, ws⟩)) (FlI.step (hAB ▸ hx) hjl (hAB ▸ (hsub.map _).nodup hnd) hr) (by rw [hkm, hAB]; simp)
end
end Go.Proofs.Ytepmikgjnmjheaa
/- Layer 3 (dev): contracts: Crash. -/
namespace Go.Proofs.Ytepmikgjnmjheaa
open Go.RowKit
set_option linter.unusedSimpArgs false
set_option linter.unusedVariables false
set_option maxRecDepth 20000
set_option maxHeartbeats 4000000
attribute [local irreducible] WPc WPl WPq ReadR OpT BinR HasS bx rdN rowN Take Takes Prov Triple ResF BuildP Done ag Int.decLt Int.decLe Int.instDecidableEq
attribute [local irreducible] mp rmp rg rgo bag vrow secs mput mget mfind mdel intsV skeys
def crash1 (es : List (Int × Vs)) (l : List Int) (cur : List Sec) (k : Nat) (i : Int) : List Sec :=
  match l[k]? with
  | none => cur
  | some a => if a ≤ 0 then cur else cur.set i.toNat ((mget secM es i).ws.getD ((min a (mget secM es i).ws.length).toNat - 1) (secF 0))
def crashT (es : List (Int × Vs)) (l keys : List Int) : Nat → List Sec → List Sec
  | 0, ls => ls
  | k + 1, ls => crash1 es l (crashT es l keys k ls) k (keys.getD k 0)
end Go.Proofs.Ytepmikgjnmjheaa
/- Law 03 (dev): what is written is one byte: contracts; what lives. -/
namespace Go.Proofs.Ytepmikgjnmjheaa
section
open Go.RowKit
set_option linter.unusedSimpArgs false
set_option linter.unusedVariables false
theorem burn4 {k : Nat} (hk : k < 4) : fburn f4 k (-1) = f4 := by
  match k, hk with
  | 0, _ => rfl
  | 1, _ => rfl
  | 2, _ => rfl
  | 3, _ => rfl
end
open Go.RowKit
set_option linter.unusedSimpArgs false
set_option linter.unusedVariables false
set_option maxRecDepth 20000
set_option maxHeartbeats 4000000
attribute [local irreducible] WPc WPl WPq ReadR OpT BinR HasS bx rdN rowN Take Takes Prov Triple ResF BuildP Done ag Int.decLt Int.decLe Int.instDecidableEq
attribute [local irreducible] mp rmp rg rgo bag vrow secs mput mget mfind mdel intsV skeys
def wok (n : Nat) (i : Int) : Bool := decide (0 ≤ i) && decide (i < (n : Int))
/-- What a write of one byte does to what waits. -/
def WStep (n : Nat) (es : List (Int × Vs)) (cn i : Int) (b : UInt8) (es' : List (Int × Vs)) (cn' : Int) : Prop :=
  if wok n i = true then (∃ wv, es' = mput es i ⟨wv, (mget secM es i).ws ++ [secF b]⟩) ∧ cn' = cn + 1 else es' = es ∧ cn' = cn
/-- What waits behind so many writes. -/
structure DOk (n k : Nat) (es : List (Int × Vs)) (cn : Int) : Prop where
  key : ∀ y ∈ es, (∃ j : Nat, y.1 = (j : Int) ∧ j < n) ∧ y.2.ws ≠ [] ∧ y.2.ws.length ≤ k
  len : es.length ≤ k
  c0 : 0 ≤ cn
  c1 : cn ≤ k
theorem DOk.eok {n k : Nat} {es : List (Int × Vs)} {cn : Int} (h : DOk n k es cn) (hk : k ≤ 100000) : EOk n es := fun y hy => ⟨(h.key y hy).1, (h.key y hy).2.1, Nat.le_trans (h.key y hy).2.2 hk⟩
theorem DOk.nil {n k : Nat} {cn : Int} (h0 : 0 ≤ cn) (h1 : cn ≤ k) : DOk n k [] cn := ⟨(fun y hy => by cases hy), Nat.zero_le _, h0, h1⟩
theorem DOk.mget_len {n k : Nat} {es : List (Int × Vs)} {cn : Int} (h : DOk n k es cn) (i : Int) : (mget secM es i).ws.length ≤ k := by
  cases hf : mfind es i with
  | none =>
    have : mget secM es i = ⟨.slice none 0 0, []⟩ := by with_unfolding_all (unfold mget; rw [hf]; rfl)
    rw [this]; exact Nat.zero_le _
  | some y => rw [mget_of_find hf]; exact (h.key _ (mfind_mem hf)).2.2
theorem mem_mput {es : List (Int × Vs)} {i : Int} {y : Vs} {z : Int × Vs} (h : z ∈ mput es i y) : z = (i, y) ∨ z ∈ es := by
  rcases List.mem_cons.1 (mput_perm.mem_iff.1 h) with h | h
  · exact .inl h
  · exact .inr (mdel_sub.subset h)
section
variable (gV mD : Nat) (vd : Value) (cn : Int) (ls : List Sec) (es : List (Int × Vs))
def RWr (gV mD : Nat) (vd : Value) (ls : List Sec) (es : List (Int × Vs)) (cn i : Int) (b : UInt8) : Value → List Asn → Prop := fun v Γ => ∃ es' cn', v = .int .i64 (if wok ls.length i then 0 else 1) ∧ WStep ls.length es cn i b es' cn' ∧ Γ = [bx gV 79 (dvc f4 vd mD cn'), rowN 81 256 vd ls.length (secs ls), mp secM mD es', bag es']
end
/-- The run of 'lives'. -/
def lsL : List Sec := (List.replicate 16 (secF 0)).set 3 (secF 7)
end Go.Proofs.Ytepmikgjnmjheaa
/- What is done to a device; rows that are only read, many at once. -/
namespace Go.Proofs.Ytepmikgjnmjheaa
open Go.RowKit
set_option linter.unusedSimpArgs false
set_option linter.unusedVariables false
structure DA where
  k : Int
  s : Int
  a : Int
  b : UInt8
  lv : Value
  l : List Int
abbrev daC (x : DA) : Ch := [(1, [.int .i64 x.k]), (1, [.int .i64 x.s]), (1, [.int .i64 x.a]), (1, [.int .u8 ((x.b.toNat : Nat) : Int)]), (1, [x.lv])]
def daW (x : DA) : Prop := in64 x.k ∧ in64 x.s ∧ in64 x.a ∧ (∀ y ∈ x.l, in64 y) ∧ x.lv.oneCell' = true
def das (l : List DA) : List Value := (l.map fun x => flat (daC x)).flatten
/-- Rows that are only read. -/
def rds (rs : List (Value × List Value)) : Asn where
  own := false
  fp := fun g => ∃ r ∈ rs, (rdN r.1 r.2.length r.2).fp g
  holds := fun w => ∀ r ∈ rs, (rdN r.1 r.2.length r.2).holds w
  lt := fun w h g hg => by
    obtain ⟨r, hr, hg⟩ := hg
    exact (rdN r.1 r.2.length r.2).lt w (h r hr) g hg
  loc := fun w w' h hl r hr => (rdN r.1 r.2.length r.2).loc w w' (h r hr) fun g hg => hl g ⟨r, hr, hg⟩
def dals (l : List DA) : List (Value × List Value) := l.map fun x => (x.lv, intsV x.l)
end Go.Proofs.Ytepmikgjnmjheaa
/- What is done to a device, opened. -/
namespace Go.Proofs.Ytepmikgjnmjheaa
open Go.ChangeShapes Go.WideShapes Go.ChangeAt Go.RowKit
set_option linter.unusedSimpArgs false
set_option linter.unusedVariables false
end Go.Proofs.Ytepmikgjnmjheaa
/- Laws 03 (dev): Crash that only reads; what is told of nothing that waits. -/
namespace Go.Proofs.Ytepmikgjnmjheaa
section
open Go.RowKit
set_option linter.unusedSimpArgs false
set_option linter.unusedVariables false
theorem Triple.permΓ {P : Program} {f : FuncId} {args : Array Value} {Γ Γ' : List Asn} {R : Value → List Asn → Prop} (hp : Γ'.Perm Γ) (h : Triple P f args Γ R) : Triple P f args Γ' R := by
  intro w hw ha
  refine (h w (fun A hA => hw A (hp.mem_iff.2 hA)) (apart_perm hp ha)).mono ?_
  rintro e w' ⟨v, Γ1, rfl, hR, hP⟩
  have hown : ∀ g, ownFp Γ g → ownFp Γ' g := by
    rintro g ⟨A, hA, ho, hg⟩
    exact ⟨A, hp.mem_iff.2 hA, ho, hg⟩
  exact ⟨v, Γ1, rfl, hR, ⟨hP.mod.weaken fun g _ hg => hown g hg, hP.all, hP.apart, fun A hA g hg => (hP.new A hA g hg).imp id (hown g)⟩⟩
end
open Go.RowKit
set_option linter.unusedSimpArgs false
set_option linter.unusedVariables false
set_option maxRecDepth 20000
set_option maxHeartbeats 4000000
attribute [local irreducible] WPc WPl WPq ReadR OpT BinR HasS bx rdN rowN Take Takes Prov Triple ResF BuildP Done ag Int.decLt Int.decLe Int.instDecidableEq
attribute [local irreducible] mp rmp rg rgo bag vrow secs mput mget mfind mdel intsV skeys
/-! ### One sector that is written -/
def K5 (es : List (Int × Vs)) (ws : List Sec) : Prop := (ws = [] ∧ es = []) ∨ (ws ≠ [] ∧ ∃ wv, es = [((5 : Int), ⟨wv, ws⟩)])
theorem K5.nil : K5 [] [] := .inl ⟨rfl, rfl⟩
def wantK (l : List UInt8) (kept : Int) : UInt8 := if 0 < min kept l.length then l.getD ((min kept l.length).toNat - 1) 0 else 0
end Go.Proofs.Ytepmikgjnmjheaa
/- DevFlushed: the plain facts. -/
namespace Go.Proofs.Ytepmikgjnmjheaa
set_option linter.unusedSimpArgs false
set_option linter.unusedVariables false
def w0 (s : Sec) : UInt8 := s.b.getD 0 0
def wasI (ls : List Sec) (i : Nat) : List UInt8 := (ls.map w0).take i ++ (List.replicate 20 (0 : UInt8)).drop i
/-- What is not dirty does not wait. -/
def DirtyI (es : List (Int × Vs)) (dl : List Bool) : Prop := dl.length = 20 ∧ ∀ j : Nat, dl[j]? = some false → mhas es (j : Int) = false
theorem DirtyI.nil : DirtyI [] (List.replicate 20 false) := ⟨by simp, fun j _ => rfl⟩
theorem DirtyI.put {es es' : List (Int × Vs)} {dl : List Bool} {cn cn' : Int} {j : Nat} {b : UInt8} (h : DirtyI es dl) (hw : wok 20 (j : Int) = true) (hs : WStep 20 es cn (j : Int) b es' cn') : DirtyI es' (dl.set j true) := by
  unfold WStep at hs
  rw [if_pos hw] at hs
  obtain ⟨⟨wv, rfl⟩, rfl⟩ := hs
  refine ⟨by rw [List.length_set]; exact h.1, fun k hk => ?_⟩
  rw [List.getElem?_set] at hk
  split at hk
  · split at hk
    · cases hk
    · cases hk
  · rename_i hne
    rw [mhas_put, h.2 k hk, Bool.or_false, decide_eq_false_iff_not]
    omega
theorem DirtyI.no {es es' : List (Int × Vs)} {dl : List Bool} {cn cn' i : Int} {b : UInt8} (h : DirtyI es dl) (hw : ¬ wok 20 i = true) (hs : WStep 20 es cn i b es' cn') : DirtyI es' dl := by
  unfold WStep at hs
  rw [if_neg hw] at hs
  rw [hs.1]
  exact h
end Go.Proofs.Ytepmikgjnmjheaa
/- Layer 3 (dev): a device as a state: its calls, told by plain functions. -/
namespace Go.Proofs.Ytepmikgjnmjheaa
open Go.RowKit
set_option linter.unusedSimpArgs false
set_option linter.unusedVariables false
set_option maxRecDepth 20000
set_option maxHeartbeats 4000000
attribute [local irreducible] WPc WPl WPq ReadR OpT BinR HasS bx rdN rowN Take Takes Prov Triple ResF BuildP Done ag Int.decLt Int.decLe Int.instDecidableEq
attribute [local irreducible] mp rmp rg rgo bag vrow secs mput mget mfind mdel intsV skeys crashT nowAll fburn fb1
structure DS where
  fu : List Int
  ls : List Sec
  es : List (Int × Vs)
  cn : Int
/-- What a device tells of itself. -/
structure Dv where
  fu : List Int
  ls : List Sec
  ws : Nat → List Sec
  cn : Int
def DS.vw (S : DS) : Dv := ⟨S.fu, S.ls, fun j => (mget secM S.es (j : Int)).ws, S.cn⟩
structure DInv (n k : Nat) (S : DS) : Prop where
  f4 : S.fu.length = 4
  fb : ∀ j, j < 4 → -1 ≤ S.fu.getD j 0 ∧ S.fu.getD j 0 ≤ 9223372036854775807
  nl : S.ls.length = n
  ok : DOk n k S.es S.cn
abbrev dvA (gV mD : Nat) (vd : Value) (S : DS) : List Asn := [bx gV 79 (dvc S.fu vd mD S.cn), rowN 81 256 vd S.ls.length (secs S.ls), mp secM mD S.es, bag S.es]
def RD (gV mD : Nat) (vd : Value) (n k : Nat) (c : Value) (D : Dv) : Value → List Asn → Prop := fun v Γ => ∃ S, v = c ∧ S.vw = D ∧ DInv n k S ∧ Γ = dvA gV mD vd S
def RDr (gV mD : Nat) (vd : Value) (n k : Nat) (b : List UInt8) (er : Int) (D : Dv) : Value → List Asn → Prop := fun v Γ => ∃ S s, v = .tuple #[s, .int .i64 er] ∧ s.oneCell' = true ∧ S.vw = D ∧ DInv n k S ∧ Γ = hdN s b.length (u8s b) :: dvA gV mD vd S
def updW (f : Nat → List Sec) (j : Nat) (l : List Sec) : Nat → List Sec := fun i => if i = j then l else f i
def Dv.fails (D : Dv) (k : Nat) : Bool := decide (D.fu.getD k 0 = 0)
def Dv.burn (D : Dv) (k : Nat) : Dv := { D with fu := fburn D.fu k (D.fu.getD k 0) }
def Dv.now (D : Dv) (j : Nat) : Sec := (D.ws j).getLastD (D.ls.getD j (secF 0))
def Dv.wr (D : Dv) (j : Nat) (s : Sec) : Dv × Int := if D.fails 2 then (D.burn 2, 3) else ({ D.burn 2 with ws := updW D.ws j (D.ws j ++ [s]), cn := D.cn + 1 }, 0)
def Dv.rd (D : Dv) (j : Nat) : Dv × List UInt8 × Int := if D.fails 1 then (D.burn 1, [], 3) else (D.burn 1, (D.now j).b, 0)
def Dv.nows (D : Dv) : List Sec := D.ls.mapIdx fun j _ => D.now j
def Dv.flush (D : Dv) : Dv × Int := if D.fails 3 then (D.burn 3, 3) else ({ D.burn 3 with ls := D.nows, ws := fun _ => [] }, 0)
def fgood (w a : Int) : Bool := decide (1 ≤ w) && decide (w ≤ 3) && decide (0 ≤ a)
def Dv.fail (D : Dv) (w a : Int) : Dv × Int := if fgood w a then ({ D with fu := D.fu.set w.toNat a }, 0) else (D, 1)
def Dv.crash0 (D : Dv) : Dv := { D with fu := f4, ws := fun _ => [] }
theorem getD_some {fu : List Int} {k : Nat} (h : k < fu.length) : fu[k]? = some (fu.getD k 0) := by
  rw [List.getD_eq_getElem?_getD, List.getElem?_eq_getElem h]; rfl
theorem f4_in (j : Nat) (hj : j < 4) : -1 ≤ f4.getD j 0 ∧ f4.getD j 0 ≤ 9223372036854775807 := by
  match j, hj with
  | 0, _ => show (-1 : Int) ≤ -1 ∧ (-1 : Int) ≤ 9223372036854775807; omega
  | 1, _ => show (-1 : Int) ≤ -1 ∧ (-1 : Int) ≤ 9223372036854775807; omega
  | 2, _ => show (-1 : Int) ≤ -1 ∧ (-1 : Int) ≤ 9223372036854775807; omega
  | 3, _ => show (-1 : Int) ≤ -1 ∧ (-1 : Int) ≤ 9223372036854775807; omega
theorem fb1_in {a : Int} (h1 : -1 ≤ a) (h2 : a ≤ 9223372036854775807) : -1 ≤ fb1 a ∧ fb1 a ≤ 9223372036854775807 := by
  with_unfolding_all (unfold fb1; (repeat' split) <;> omega)
theorem set_in {fu : List Int} {k : Nat} {a : Int} (hf : ∀ j, j < 4 → -1 ≤ fu.getD j 0 ∧ fu.getD j 0 ≤ 9223372036854775807) (h4 : fu.length = 4) (ha : -1 ≤ a ∧ a ≤ 9223372036854775807) (j : Nat) (hj : j < 4) : -1 ≤ (fu.set k a).getD j 0 ∧ (fu.set k a).getD j 0 ≤ 9223372036854775807 := by
  rw [List.getD_eq_getElem?_getD, List.getElem?_set]
  split
  · split
    · exact ha
    · rename_i h1 h2; omega
  · rw [← List.getD_eq_getElem?_getD]; exact hf j hj
theorem fburn_len {fu : List Int} {k : Nat} {a : Int} : (fburn fu k a).length = fu.length := by with_unfolding_all (unfold fburn; simp)
theorem DInv.burn {n k : Nat} {S : DS} (h : DInv n k S) {j : Nat} (hj : j < 4) : DInv n k { S with fu := fburn S.fu j (S.fu.getD j 0) } := by
  refine ⟨by rw [fburn_len]; exact h.f4, fun i hi => ?_, h.nl, h.ok⟩
  have := set_in (k := j) h.fb h.f4 (fb1_in (h.fb j hj).1 (h.fb j hj).2) i hi
  with_unfolding_all exact this
theorem DOk.mono {n k k' : Nat} {es : List (Int × Vs)} {cn : Int} (h : DOk n k es cn) (hk : k ≤ k') : DOk n k' es cn := ⟨fun z hz => ⟨(h.key z hz).1, (h.key z hz).2.1, Nat.le_trans (h.key z hz).2.2 hk⟩, Nat.le_trans h.len hk, h.c0, by have := h.c1; omega⟩
theorem DInv.mono {n k k' : Nat} {S : DS} (h : DInv n k S) (hk : k ≤ k') : DInv n k' S := ⟨h.f4, h.fb, h.nl, h.ok.mono hk⟩
theorem DOk.put {n k : Nat} {es : List (Int × Vs)} {cn : Int} (h : DOk n k es cn) {j : Nat} (hj : j < n) (wv : Value) (s : Sec) : DOk n (k + 1) (mput es (j : Int) ⟨wv, (mget secM es (j : Int)).ws ++ [s]⟩) (cn + 1) := by
  refine ⟨fun z hz => ?_, ?_, by have := h.c0; omega, by have := h.c1; omega⟩
  · rcases mem_mput hz with rfl | hz
    · refine ⟨⟨j, rfl, hj⟩, by show _ ++ _ ≠ []; simp, ?_⟩
      have := h.mget_len (j : Int)
      show ((mget secM es (j : Int)).ws ++ [s]).length ≤ _
      rw [List.length_append]
      simpa using this
    · exact ⟨(h.key z hz).1, (h.key z hz).2.1, Nat.le_succ_of_le (h.key z hz).2.2⟩
  · have := h.len
    rw [mput_len]
    split <;> omega
theorem mget_ws {es : List (Int × Vs)} {i : Int} : (mget secM es i).ws = match mfind es i with | some y => y.ws | none => [] := by
  cases h : mfind es i with
  | none => with_unfolding_all (unfold mget; rw [h]; rfl)
  | some y => rw [mget_of_find h]
theorem mgetw_put {es : List (Int × Vs)} {i j : Int} {y : Vs} : (mget secM (mput es i y) j).ws = if i = j then y.ws else (mget secM es j).ws := by
  by_cases h : i = j
  · rw [mget_ws, mfind_put, if_pos h, if_pos h]
  · rw [mget_ws, mfind_put, if_neg h, if_neg h, mget_ws]
theorem nowS_get {es : List (Int × Vs)} {j : Nat} {s : Sec} : nowS s es j = ((mget secM es (j : Int)).ws).getLastD s := by
  rw [mget_ws]
  with_unfolding_all (unfold nowS; cases mfind es (j : Int) <;> rfl)
theorem nowS_vw {S : DS} {j : Nat} {s : Sec} (hs : S.ls[j]? = some s) : nowS s S.es j = S.vw.now j := by
  rw [nowS_get]
  show _ = ((mget secM S.es (j : Int)).ws).getLastD (S.ls.getD j (secF 0))
  rw [List.getD_eq_getElem?_getD, hs]; rfl
theorem nowAll_vw {S : DS} : nowAll S.ls S.es = S.vw.nows := by
  apply List.ext_getElem?
  intro j
  rw [nowAll_at]
  show _ = (List.mapIdx (fun j _ => S.vw.now j) S.ls)[j]?
  rw [List.getElem?_mapIdx]
  cases h : S.ls[j]? with
  | none => rfl
  | some s => show some (nowS s S.es j) = some (S.vw.now j); rw [nowS_vw h]
section
variable (gV mD : Nat) (vd : Value) (n k : Nat) (S : DS)
theorem dnew_t (hn : 16 ≤ n) (hn2 : n ≤ 1600) : Triple Try.prog 12 #[.int .i64 (n : Int)] [] (fun v Γ => ∃ gV mD vd S, v = .tuple #[hD gV, .int .i64 0] ∧ vd.oneCell' = true ∧ S.vw = ⟨f4, List.replicate n (secF 0), fun _ => [], 0⟩ ∧ DInv n 0 S ∧ Γ = dvA gV mD vd S) := by
  refine (new_t n hn hn2).mono ?_
  rintro v Γ ⟨gV, mD, vd, rfl, hv, rfl⟩
  refine ⟨gV, mD, vd, ⟨f4, List.replicate n (secF 0), [], 0⟩, rfl, hv, by with_unfolding_all rfl, ⟨rfl, f4_in, List.length_replicate, .nil (by dsimp only; omega) (by dsimp only; omega)⟩, rfl⟩
theorem dwr_t (j : Nat) (bv : Value) (s : Sec) (h : DInv n k S) (hn : n ≤ 100000) (hk : k ≤ 90000) (hj : j < n) :
    Triple Try.prog 13 #[hD gV, .int .i64 (j : Int), bv] ([rb bv s.b] ++ dvA gV mD vd S) (RD gV mD vd n (k + 1) (.int .i64 (S.vw.wr j s).2) (S.vw.wr j s).1) := by
  have h2 := h.fb 2 (by omega)
  have hg := getD_some (fu := S.fu) (k := 2) (by rw [h.f4]; omega)
  have hnl := h.nl
  refine Triple.permΓ (List.perm_append_comm (l₁ := [rb bv s.b])) ?_
  by_cases h0 : S.fu.getD 2 0 = 0
  · have hf : S.vw.fails 2 = true := by show decide (S.fu.getD 2 0 = 0) = true; rw [decide_eq_true h0]
    have hw : S.vw.wr j s = (S.vw.burn 2, 3) := by unfold Dv.wr; rw [if_pos hf]
    rw [hw]
    have c := writeF_t gV mD vd S.fu S.cn S.ls j bv s.b (by omega) s.len (by omega) h.f4 (by rw [hg, h0])
    refine Triple.mono (Triple.permΓ ?_ (Triple.frameT (Γf := [mp secM mD S.es, bag S.es]) c ownsV)) ?_
    · exact (List.Perm.append_left [bx gV 79 (dvc S.fu vd mD S.cn), rowN 81 256 vd S.ls.length (secs S.ls)] (List.perm_append_comm (l₁ := [mp secM mD S.es, bag S.es]) (l₂ := [rb bv s.b])))
    · rintro v Γ' ⟨Γ1, ⟨rfl, rfl⟩, rfl⟩
      have := h.burn (j := 2) (by omega)
      rw [h0] at this
      exact ⟨_, rfl, by show _ = Dv.mk (fburn S.fu 2 (S.fu.getD 2 0)) S.ls S.vw.ws S.cn; rw [h0]; rfl, this.mono (Nat.le_succ _), rfl⟩
  · have hf : S.vw.fails 2 = false := by show decide (S.fu.getD 2 0 = 0) = false; rw [decide_eq_false h0]
    have hw : S.vw.wr j s = ({ S.vw.burn 2 with ws := updW S.vw.ws j (S.vw.ws j ++ [s]), cn := S.vw.cn + 1 }, 0) := by unfold Dv.wr; rw [if_neg (by rw [hf]; simp)]
    rw [hw]
    have hc0 := h.ok.c0
    have hc1 := h.ok.c1
    have c := write_t gV mD vd S.fu S.cn S.ls S.es j (S.fu.getD 2 0) bv s (by omega) (by omega) h.f4 hg h2.1 h2.2 h0 ⟨hc0, by omega⟩ (Nat.le_trans (h.ok.mget_len _) (by omega))
    refine Triple.mono c ?_
    rintro v Γ' ⟨wv, rfl, rfl⟩
    refine ⟨⟨fburn S.fu 2 (S.fu.getD 2 0), S.ls, mput S.es (j : Int) ⟨wv, (mget secM S.es (j : Int)).ws ++ [s]⟩, S.cn + 1⟩, rfl, ?_, ⟨(h.burn (j := 2) (by omega)).f4, (h.burn (j := 2) (by omega)).fb, h.nl, h.ok.put hj wv s⟩, rfl⟩
    show Dv.mk _ _ _ _ = Dv.mk _ _ _ _
    congr 1
    funext i
    show (mget secM (mput S.es (j : Int) _) (i : Int)).ws = updW _ j _ i
    rw [mgetw_put]
    unfold updW
    by_cases hij : i = j
    · subst hij; rw [if_pos rfl, if_pos rfl]; rfl
    · rw [if_neg (by omega), if_neg hij]; rfl
theorem drd_t (j : Nat) (h : DInv n k S) (hn : n ≤ 100000) (hk : k ≤ 100000) (hj : j < n) :
    Triple Try.prog 16 #[hD gV, .int .i64 (j : Int)] (dvA gV mD vd S) (RDr gV mD vd n k (S.vw.rd j).2.1 (S.vw.rd j).2.2 (S.vw.rd j).1) := by
  have h2 := h.fb 1 (by omega)
  have hg := getD_some (fu := S.fu) (k := 1) (by rw [h.f4]; omega)
  have hnl := h.nl
  have hjl : j < S.ls.length := by omega
  have c := read_t gV mD vd S.fu S.cn S.ls S.es j (S.fu.getD 1 0) hjl (by omega) h.f4 hg h2.1 h2.2 (by rw [hnl]; exact h.ok.eok hk)
  rw [nowS_vw (List.getElem?_eq_getElem hjl)] at c
  refine c.mono ?_
  rintro v Γ' ⟨s, rfl, hs, rfl⟩
  have hi := h.burn (j := 1) (by omega)
  by_cases h0 : S.fu.getD 1 0 = 0
  · have hf : S.vw.fails 1 = true := by show decide (S.fu.getD 1 0 = 0) = true; rw [decide_eq_true h0]
    have hw : S.vw.rd j = (S.vw.burn 1, [], 3) := by unfold Dv.rd; rw [if_pos hf]
    rw [hw, if_pos h0, if_pos h0]
    exact ⟨_, s, rfl, hs, rfl, hi, rfl⟩
  · have hf : S.vw.fails 1 = false := by show decide (S.fu.getD 1 0 = 0) = false; rw [decide_eq_false h0]
    have hw : S.vw.rd j = (S.vw.burn 1, (S.vw.now j).b, 0) := by unfold Dv.rd; rw [if_neg (by rw [hf]; simp)]
    rw [hw, if_neg h0, if_neg h0]
    exact ⟨_, s, rfl, hs, rfl, hi, rfl⟩
theorem dfl_t (h : DInv n k S) (hn : n ≤ 100000) (hk : k ≤ 100000) :
    Triple Try.prog 15 #[hD gV] (dvA gV mD vd S) (RD gV mD vd n k (.int .i64 S.vw.flush.2) S.vw.flush.1) := by
  have h2 := h.fb 3 (by omega)
  have hg := getD_some (fu := S.fu) (k := 3) (by rw [h.f4]; omega)
  have hnl := h.nl
  have hi := h.burn (j := 3) (by omega)
  by_cases h0 : S.fu.getD 3 0 = 0
  · have hf : S.vw.fails 3 = true := by show decide (S.fu.getD 3 0 = 0) = true; rw [decide_eq_true h0]
    have hw : S.vw.flush = (S.vw.burn 3, 3) := by unfold Dv.flush; rw [if_pos hf]
    rw [hw]
    have c := flushF_t gV mD vd S.fu S.cn h.f4 (by rw [hg, h0])
    refine Triple.mono (Triple.frameT (Γf := [rowN 81 256 vd S.ls.length (secs S.ls), mp secM mD S.es, bag S.es]) c ownsV) ?_
    rintro v Γ' ⟨Γ1, ⟨rfl, rfl⟩, rfl⟩
    rw [h0] at hi
    exact ⟨_, rfl, by show _ = Dv.mk (fburn S.fu 3 (S.fu.getD 3 0)) S.ls S.vw.ws S.cn; rw [h0]; rfl, hi, rfl⟩
  · have hf : S.vw.fails 3 = false := by show decide (S.fu.getD 3 0 = 0) = false; rw [decide_eq_false h0]
    have hw : S.vw.flush = ({ S.vw.burn 3 with ls := S.vw.nows, ws := fun _ => [] }, 0) := by unfold Dv.flush; rw [if_neg (by rw [hf]; simp)]
    rw [hw]
    have c := flush_t gV mD vd S.fu S.cn S.ls S.es (S.fu.getD 3 0) (by omega) h.f4 hg h2.1 h2.2 h0 (by rw [hnl]; exact h.ok.eok hk)
    rw [nowAll_vw] at c
    refine c.mono ?_
    rintro v Γ' ⟨rfl, rfl⟩
    have hl : S.vw.nows.length = S.ls.length := by unfold Dv.nows; rw [List.length_mapIdx]; rfl
    refine ⟨⟨fburn S.fu 3 (S.fu.getD 3 0), S.vw.nows, [], S.cn⟩, rfl, ?_, ⟨hi.f4, hi.fb, by show S.vw.nows.length = n; rw [hl, hnl], ⟨(fun y hy => by cases hy), Nat.zero_le _, h.ok.c0, h.ok.c1⟩⟩, ?_⟩
    · show Dv.mk _ _ _ _ = Dv.mk _ _ _ _
      congr 1
      with_unfolding_all rfl
    · show _ = [_, rowN _ 256 vd S.vw.nows.length _, _, _]
      rw [hl]
theorem dfail_t (w a : Int) (h : DInv n k S) (ha : in64 a) :
    Triple Try.prog 28 #[hD gV, .int .i64 w, .int .i64 a] (dvA gV mD vd S) (RD gV mD vd n k (.int .i64 (S.vw.fail w a).2) (S.vw.fail w a).1) := by
  by_cases hg : fgood w a = true
  · have hw : S.vw.fail w a = ({ S.vw with fu := S.vw.fu.set w.toNat a }, 0) := by unfold Dv.fail; rw [if_pos hg]
    rw [hw]
    unfold fgood at hg
    rw [Bool.and_eq_true, Bool.and_eq_true, decide_eq_true_eq, decide_eq_true_eq, decide_eq_true_eq] at hg
    obtain ⟨⟨g1, g2⟩, g3⟩ := hg
    obtain ⟨j, rfl⟩ : ∃ j : Nat, w = (j : Int) := ⟨w.toNat, by omega⟩
    have hjl : j < (intsV S.fu).length := by rw [intsV_len, h.f4]; omega
    have hj4 : j < 4 := by omega
    refine Triple.enter Try.func28 rfl Try.ntmps28 rfl (fun W => ?_)
    dsimp only [argsF, Nat.reduceAdd]
    repeat' (first
     | refine WPl.nil ?_ | refine WPq.then ?_ | refine WPq.thenR ?_ | refine WPq.thenE ?_ | refine WPq.blockN ?_ | refine WPq.blockR ?_ | refine WPq.blockE ?_ | refine WPq.blockO rfl ?_ | refine WPc.seq ?_ | refine WPc.block ?_ | refine WPc.ret ?_ | refine WPc.exit ?_ | refine WPc.skip ?_ | refine WPc.region ?_
     | (refine isCond ?_; first | refine WPc.cT ?_ | refine WPc.cF ?_ | (refine WPc.cQ (fun hc => ?_) (fun hc => ?_) <;> try exact prA))
     | (refine isD 8 ?_; refine WPl.rdX (readP) ?_)
     | (refine isD 11 ?_; refine WPl.rdX (ReadR.binE rfl rfl BinR.lss (congrArg Value.bool (decide_eq_false (by omega)))) ?_)
     | (refine isD 15 ?_; refine WPl.rdX (ReadR.binE rfl rfl BinR.gtr (congrArg Value.bool (decide_eq_false (by omega)))) ?_)
     | (refine isD 19 ?_; refine WPl.rdX (ReadR.binE rfl rfl BinR.lss (congrArg Value.bool (decide_eq_false (by omega)))) ?_)
     | (show WPl _ _ _ _ _ _ _ (⟨none, .store _ (.tmp 26) _, _, _, _, _⟩ :: _) _; refine WPl.turn (.cons takeA .nil) rfl rfl (OpT.storeR (i := j) rfl rfl (.cons takeA .nil) rfl rfl hjl rfl) ?_)
     | (refine isOp ?_; first | refine WPl.rd ?_ | refine WPl.sk ?_ | refine WPl.rdB ?_)
     | (refine isSt ?_; first | refine WPl.st1 ?_ | refine WPl.stA ?_ | refine WPl.stEB ?_ | refine WPl.stRB ?_)
     | (show WPl _ _ _ _ _ _ _ (⟨_, .indexAddr _ _ _, _, _, _, _⟩ :: _) _; refine WPl.rdX (ReadR.indexE rfl rfl hasA (by first | assumption | omega)) ?_)
     | (show WPl _ _ _ _ _ _ _ (⟨_, .fieldAddr _ _ _, _, _, _, _⟩ :: _) _; refine WPl.rdX (ReadR.fieldE rfl hasA (by first | assumption | omega)) ?_)
     | (show WPl _ _ _ _ _ _ _ (⟨_, .load _ _, _, _, _, _⟩ :: _) _; first | refine WPl.rdX (ReadR.loadE rfl hasA (by assumption)) ?_ | refine WPl.rdX (ReadR.loadES (by assumption) (by first | assumption | omega) rfl hasA) ?_)
     | (show WPl _ _ _ _ _ _ _ (⟨_, .slice _ _ _ _ _, _, _, _, _⟩ :: _) _; first | refine WPl.rdX (ReadR.sliceH rfl rfl hasA (by omega)) ?_ | refine WPl.rdX (ReadR.sliceL rfl rfl hasA (by omega)) ?_ | refine WPl.rdX (ReadR.sliceLH rfl rfl rfl hasA (by omega) (by omega)) ?_)
     | (refine WPl.spQ (fun hc => ?_) (fun hc => ?_) <;> try exact prA)
     | fail)
    have h2 : dvc (S.fu.set j a) vd mD S.cn = [(4, (intsV S.fu).set j (.int .i64 a)), (1, [vd]), (1, [.map (some mD)]), (1, [.int .i64 S.cn])] := by rw [intsV_set]
    exact WPq.dX (ho := ownsV) (vs := [.int .i64 0]) [bx gV 79 [(4, (intsV S.fu).set j (.int .i64 a)), (1, [vd]), (1, [.map (some mD)]), (1, [.int .i64 S.cn])], rowN 81 256 vd S.ls.length (secs S.ls), mp secM mD S.es, bag S.es] ⟨{ S with fu := S.fu.set j a }, rfl, rfl, ⟨by show (S.fu.set j a).length = 4; rw [List.length_set]; exact h.f4, fun i hi => set_in h.fb h.f4 ⟨by omega, ha.2⟩ i hi, h.nl, h.ok⟩, by show _ = [bx gV _ (dvc (S.fu.set j a) vd mD S.cn), _, _, _]; rw [h2]⟩
  · have hw : S.vw.fail w a = (S.vw, 1) := by unfold Dv.fail; rw [if_neg hg]
    rw [hw]
    unfold fgood at hg
    rw [Bool.and_eq_true, Bool.and_eq_true, decide_eq_true_eq, decide_eq_true_eq, decide_eq_true_eq] at hg
    refine Triple.enter Try.func28 rfl Try.ntmps28 rfl (fun W => ?_)
    dsimp only [argsF, Nat.reduceAdd]
    by_cases g1 : w < 1
    · skip
      repeat' (first
       | refine WPl.nil ?_ | refine WPq.then ?_ | refine WPq.thenR ?_ | refine WPq.thenE ?_ | refine WPq.blockN ?_ | refine WPq.blockR ?_ | refine WPq.blockE ?_ | refine WPq.blockO rfl ?_ | refine WPc.seq ?_ | refine WPc.block ?_ | refine WPc.ret ?_ | refine WPc.exit ?_ | refine WPc.skip ?_ | refine WPc.region ?_
       | (refine isCond ?_; first | refine WPc.cT ?_ | refine WPc.cF ?_ | (refine WPc.cQ (fun hc => ?_) (fun hc => ?_) <;> try exact prA))
       | (refine isD 8 ?_; refine WPl.rdX (readP) ?_)
       | (refine isD 11 ?_; refine WPl.rdX (ReadR.binE rfl rfl BinR.lss (congrArg Value.bool (decide_eq_true g1))) ?_)
       | (refine isOp ?_; first | refine WPl.rd ?_ | refine WPl.sk ?_ | refine WPl.rdB ?_)
       | (refine isSt ?_; first | refine WPl.st1 ?_ | refine WPl.stA ?_ | refine WPl.stEB ?_ | refine WPl.stRB ?_)
       | (show WPl _ _ _ _ _ _ _ (⟨_, .indexAddr _ _ _, _, _, _, _⟩ :: _) _; refine WPl.rdX (ReadR.indexE rfl rfl hasA (by first | assumption | omega)) ?_)
       | (show WPl _ _ _ _ _ _ _ (⟨_, .fieldAddr _ _ _, _, _, _, _⟩ :: _) _; refine WPl.rdX (ReadR.fieldE rfl hasA (by first | assumption | omega)) ?_)
       | (show WPl _ _ _ _ _ _ _ (⟨_, .load _ _, _, _, _, _⟩ :: _) _; first | refine WPl.rdX (ReadR.loadE rfl hasA (by assumption)) ?_ | refine WPl.rdX (ReadR.loadES (by assumption) (by first | assumption | omega) rfl hasA) ?_)
       | (show WPl _ _ _ _ _ _ _ (⟨_, .slice _ _ _ _ _, _, _, _, _⟩ :: _) _; first | refine WPl.rdX (ReadR.sliceH rfl rfl hasA (by omega)) ?_ | refine WPl.rdX (ReadR.sliceL rfl rfl hasA (by omega)) ?_ | refine WPl.rdX (ReadR.sliceLH rfl rfl rfl hasA (by omega) (by omega)) ?_)
       | (refine WPl.spQ (fun hc => ?_) (fun hc => ?_) <;> try exact prA)
       | fail)
      exact WPq.dX (ho := ownsV) (vs := [.int .i64 1]) (dvA gV mD vd S) ⟨S, rfl, rfl, h, rfl⟩
    by_cases g2 : w > 3
    · skip
      repeat' (first
       | refine WPl.nil ?_ | refine WPq.then ?_ | refine WPq.thenR ?_ | refine WPq.thenE ?_ | refine WPq.blockN ?_ | refine WPq.blockR ?_ | refine WPq.blockE ?_ | refine WPq.blockO rfl ?_ | refine WPc.seq ?_ | refine WPc.block ?_ | refine WPc.ret ?_ | refine WPc.exit ?_ | refine WPc.skip ?_ | refine WPc.region ?_
       | (refine isCond ?_; first | refine WPc.cT ?_ | refine WPc.cF ?_ | (refine WPc.cQ (fun hc => ?_) (fun hc => ?_) <;> try exact prA))
       | (refine isD 8 ?_; refine WPl.rdX (readP) ?_)
       | (refine isD 11 ?_; refine WPl.rdX (ReadR.binE rfl rfl BinR.lss (congrArg Value.bool (decide_eq_false g1))) ?_)
       | (refine isD 15 ?_; refine WPl.rdX (ReadR.binE rfl rfl BinR.gtr (congrArg Value.bool (decide_eq_true g2))) ?_)
       | (refine isOp ?_; first | refine WPl.rd ?_ | refine WPl.sk ?_ | refine WPl.rdB ?_)
       | (refine isSt ?_; first | refine WPl.st1 ?_ | refine WPl.stA ?_ | refine WPl.stEB ?_ | refine WPl.stRB ?_)
       | (show WPl _ _ _ _ _ _ _ (⟨_, .indexAddr _ _ _, _, _, _, _⟩ :: _) _; refine WPl.rdX (ReadR.indexE rfl rfl hasA (by first | assumption | omega)) ?_)
       | (show WPl _ _ _ _ _ _ _ (⟨_, .fieldAddr _ _ _, _, _, _, _⟩ :: _) _; refine WPl.rdX (ReadR.fieldE rfl hasA (by first | assumption | omega)) ?_)
       | (show WPl _ _ _ _ _ _ _ (⟨_, .load _ _, _, _, _, _⟩ :: _) _; first | refine WPl.rdX (ReadR.loadE rfl hasA (by assumption)) ?_ | refine WPl.rdX (ReadR.loadES (by assumption) (by first | assumption | omega) rfl hasA) ?_)
       | (show WPl _ _ _ _ _ _ _ (⟨_, .slice _ _ _ _ _, _, _, _, _⟩ :: _) _; first | refine WPl.rdX (ReadR.sliceH rfl rfl hasA (by omega)) ?_ | refine WPl.rdX (ReadR.sliceL rfl rfl hasA (by omega)) ?_ | refine WPl.rdX (ReadR.sliceLH rfl rfl rfl hasA (by omega) (by omega)) ?_)
       | (refine WPl.spQ (fun hc => ?_) (fun hc => ?_) <;> try exact prA)
       | fail)
      exact WPq.dX (ho := ownsV) (vs := [.int .i64 1]) (dvA gV mD vd S) ⟨S, rfl, rfl, h, rfl⟩
    · have g3 : a < 0 := by omega
      repeat' (first
       | refine WPl.nil ?_ | refine WPq.then ?_ | refine WPq.thenR ?_ | refine WPq.thenE ?_ | refine WPq.blockN ?_ | refine WPq.blockR ?_ | refine WPq.blockE ?_ | refine WPq.blockO rfl ?_ | refine WPc.seq ?_ | refine WPc.block ?_ | refine WPc.ret ?_ | refine WPc.exit ?_ | refine WPc.skip ?_ | refine WPc.region ?_
       | (refine isCond ?_; first | refine WPc.cT ?_ | refine WPc.cF ?_ | (refine WPc.cQ (fun hc => ?_) (fun hc => ?_) <;> try exact prA))
       | (refine isD 8 ?_; refine WPl.rdX (readP) ?_)
       | (refine isD 11 ?_; refine WPl.rdX (ReadR.binE rfl rfl BinR.lss (congrArg Value.bool (decide_eq_false g1))) ?_)
       | (refine isD 15 ?_; refine WPl.rdX (ReadR.binE rfl rfl BinR.gtr (congrArg Value.bool (decide_eq_false g2))) ?_)
       | (refine isD 19 ?_; refine WPl.rdX (ReadR.binE rfl rfl BinR.lss (congrArg Value.bool (decide_eq_true g3))) ?_)
       | (refine isOp ?_; first | refine WPl.rd ?_ | refine WPl.sk ?_ | refine WPl.rdB ?_)
       | (refine isSt ?_; first | refine WPl.st1 ?_ | refine WPl.stA ?_ | refine WPl.stEB ?_ | refine WPl.stRB ?_)
       | (show WPl _ _ _ _ _ _ _ (⟨_, .indexAddr _ _ _, _, _, _, _⟩ :: _) _; refine WPl.rdX (ReadR.indexE rfl rfl hasA (by first | assumption | omega)) ?_)
       | (show WPl _ _ _ _ _ _ _ (⟨_, .fieldAddr _ _ _, _, _, _, _⟩ :: _) _; refine WPl.rdX (ReadR.fieldE rfl hasA (by first | assumption | omega)) ?_)
       | (show WPl _ _ _ _ _ _ _ (⟨_, .load _ _, _, _, _, _⟩ :: _) _; first | refine WPl.rdX (ReadR.loadE rfl hasA (by assumption)) ?_ | refine WPl.rdX (ReadR.loadES (by assumption) (by first | assumption | omega) rfl hasA) ?_)
       | (show WPl _ _ _ _ _ _ _ (⟨_, .slice _ _ _ _ _, _, _, _, _⟩ :: _) _; first | refine WPl.rdX (ReadR.sliceH rfl rfl hasA (by omega)) ?_ | refine WPl.rdX (ReadR.sliceL rfl rfl hasA (by omega)) ?_ | refine WPl.rdX (ReadR.sliceLH rfl rfl rfl hasA (by omega) (by omega)) ?_)
       | (refine WPl.spQ (fun hc => ?_) (fun hc => ?_) <;> try exact prA)
       | fail)
      exact WPq.dX (ho := ownsV) (vs := [.int .i64 1]) (dvA gV mD vd S) ⟨S, rfl, rfl, h, rfl⟩
end
end Go.Proofs.Ytepmikgjnmjheaa
