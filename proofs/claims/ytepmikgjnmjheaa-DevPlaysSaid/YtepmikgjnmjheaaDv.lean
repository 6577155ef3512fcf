/- Layer 3 (dev): what a device stands for: sectors that last, rows of sectors that wait; rows of sectors, bags of rows. -/
import Derived.Test.YtepmikgjnmjheaaDs
namespace Go.Proofs.Ytepmikgjnmjheaa
open Go.RowKit Go.Sort
set_option linter.unusedSimpArgs false
set_option linter.unusedVariables false
set_option linter.unusedSectionVars false

structure Sec where
  b : List UInt8
  len : b.length = 256
abbrev secC (s : Sec) : Ch := [(256, u8s s.b)]
theorem secC_len (s : Sec) : (flat (secC s)).length = 256 := by show (u8s s.b).length = 256; rw [u8s_length]; exact s.len
def secs (l : List Sec) : List Value := (l.map fun s => flat (secC s)).flatten
theorem secs_len (l : List Sec) : (secs l).length = l.length * 256 := rows_len secC_len
theorem secs_one (l : List Sec) : ∀ v ∈ secs l, v.oneCell' = true := by
  intro v hv
  unfold secs at hv
  rw [List.mem_flatten] at hv
  obtain ⟨x, hx, hv⟩ := hv
  obtain ⟨s, _, rfl⟩ := List.mem_map.1 hx
  exact u8s_one _ v hv
theorem secs_app (l k : List Sec) : secs (l ++ k) = secs l ++ secs k := by unfold secs; rw [List.map_append, List.flatten_append]
theorem secs_1 (s : Sec) : secs [s] = u8s s.b := by simp [secs, flat]
theorem secs_at {l : List Sec} {i : Nat} {s : Sec} (h : l[i]? = some s) : ((secs l).drop (i * 256)).take 256 = u8s s.b := rows_drop secC_len h
theorem secC_ok (s : Sec) : FOk (secC s) := FOk.bytes s.len .nil
theorem secs_set {l : List Sec} {i : Nat} (s : Sec) (h : i < l.length) : (secs l).take (i * 256) ++ flat (secC s) ++ (secs l).drop (i * 256 + 256) = secs (l.set i s) := by
  induction l generalizing i with
  | nil => cases h
  | cons x l ih =>
    have hx : (flat (secC x)).length = 256 := secC_len x
    have hc : secs (x :: l) = flat (secC x) ++ secs l := rfl
    cases i with
    | zero =>
      rw [hc, Nat.zero_mul, List.take_zero, List.nil_append, Nat.zero_add, List.set_cons_zero]
      show _ = flat (secC s) ++ secs l
      congr 1
      rw [← hx, List.drop_left]
    | succ i =>
      have hi : i < l.length := by simpa using h
      rw [hc, List.set_cons_succ]
      show _ = flat (secC x) ++ secs (l.set i s)
      rw [← ih hi, show (i + 1) * 256 = 256 + i * 256 by omega, ← hx, List.take_length_add_append, Nat.add_assoc, List.drop_length_add_append, List.append_assoc, List.append_assoc, List.append_assoc]
def secF (b : UInt8) : Sec := ⟨List.replicate 256 b, List.length_replicate⟩
structure Vs where
  v : Value
  ws : List Sec
def secM : MK Int Vs := ⟨fun k => .int .i64 k, fun x => x.v, ⟨.slice none 0 0, []⟩, in64⟩
instance secI : MapI Try.prog 76 secM :=
  mapI_int (kT := 3) (eT := 75) (by kernel_rfl) (by kernel_rfl) (by kernel_rfl) (fun _ => rfl) (fun _ h => h) (by kernel_rfl)
instance secEN : EltN Try.prog 81 256 := ⟨by kernel_rfl⟩
def vrow (x : Int × Vs) : Asn := rowN 81 256 x.2.v x.2.ws.length (secs x.2.ws)
def bag (es : List (Int × Vs)) : Asn := star (es.map vrow)
theorem bag_own {es : List (Int × Vs)} : (bag es).own = true := rfl
theorem vrows_own {es : List (Int × Vs)} : ∀ A, A ∈ es.map vrow → A.own = true := by
  intro A hA
  obtain ⟨x, _, rfl⟩ := List.mem_map.1 hA
  rfl
section
variable {P : Program} {n : Nat} {W : World} {S : Nat → Prop} {Γ : List Asn} {F : List (Nat × Value)} {Q : Exit → Act → World → Prop} {ops : Array Oper} {os : List Oper}
variable {ty : TypeId} {pos : String} {af : Array Edge} {gd : Option (Nat × Bool)}
theorem Good.bagOut {es es' : List (Int × Vs)} {x : Int × Vs} {Γf : List Asn} {w : World} (hp : es.Perm (x :: es')) (h : Good W S (bag es :: Γf) w) : Good W S (vrow x :: bag es' :: Γf) w := by
  have h1 := h.open' vrows_own
  have hq : (es.map vrow ++ Γf).Perm (es'.map vrow ++ (vrow x :: Γf)) := by
    refine ((hp.map vrow).append_right Γf).trans ?_
    rw [List.map_cons, List.cons_append]
    exact (List.perm_middle (a := vrow x) (l₁ := es'.map vrow) (l₂ := Γf)).symm
  have h2 := (h1.perm hq).close vrows_own
  exact h2.perm (.swap ..)
theorem Good.bagIn {es es' : List (Int × Vs)} {x : Int × Vs} {Γf : List Asn} {w : World} (hp : es.Perm (x :: es')) (h : Good W S (vrow x :: bag es' :: Γf) w) : Good W S (bag es :: Γf) w := by
  have h1 := (h.perm (.swap (bag es') (vrow x) Γf)).open' vrows_own
  have hq : (es'.map vrow ++ (vrow x :: Γf)).Perm (es.map vrow ++ Γf) := by
    refine .symm (((hp.map vrow).append_right Γf).trans ?_)
    rw [List.map_cons, List.cons_append]
    exact (List.perm_middle (a := vrow x) (l₁ := es'.map vrow) (l₂ := Γf)).symm
  exact (h1.perm hq).close vrows_own
theorem Good.bag0 {w : World} (h : Good W S Γ w) : Good W S (bag [] :: Γ) w := Good.close (Γ1 := []) (by intro A hA; cases hA) h
theorem Good.tail {A : Asn} {w : World} (h : Good W S (A :: Γ) w) : Good W S Γ w := (h.perm (List.perm_append_comm (l₁ := [A]) (l₂ := Γ))).left
theorem nilRow_out {es : List (Int × Vs)} {i : Int} {w : World} (h0 : mhas es i = false) : mget secM es i = ⟨.slice none 0 0, []⟩ ∧ mdel es i = es := by
  have hf : mfind es i = none := by unfold mhas at h0; simpa using h0
  exact ⟨by unfold mget; rw [hf]; rfl, (mfind_none (mfind_none_of hf)).2.2⟩
theorem mdel_perm {es : List (Int × Vs)} {i : Int} {y : Vs} (h : mfind es i = some y) : es.Perm ((i, y) :: mdel es i) := by
  induction es with
  | nil => cases h
  | cons a l ih =>
    unfold mfind at h
    unfold mdel
    by_cases ha : a.1 = i
    · rw [if_pos ha] at h ⊢
      cases h
      rw [← ha]
    · rw [if_neg ha] at h ⊢
      exact ((ih h).cons a).trans (.swap ..)
theorem mput_perm {es : List (Int × Vs)} {i : Int} {y : Vs} : (mput es i y).Perm ((i, y) :: mdel es i) := by
  induction es with
  | nil => exact .refl _
  | cons a l ih =>
    unfold mput mdel
    by_cases ha : a.1 = i
    · rw [if_pos ha, if_pos ha]
    · rw [if_neg ha, if_neg ha]
      exact (ih.cons a).trans (.swap ..)
/-- The row of one key, taken out. -/
theorem Good.vsOut {es : List (Int × Vs)} {Γf : List Asn} {w : World} (i : Int) (h : Good W S (bag es :: Γf) w) : Good W S (rowN 81 256 (mget secM es i).v (mget secM es i).ws.length (secs (mget secM es i).ws) :: bag (mdel es i) :: Γf) w := by
  cases hf : mfind es i with
  | none =>
    have h0 : mhas es i = false := by unfold mhas; rw [hf]; rfl
    obtain ⟨h1, h2⟩ := nilRow_out (w := w) h0
    rw [h1, h2]
    refine ⟨h.mod, fun A hA => ?_, List.pairwise_cons.2 ⟨fun B _ _ g hg' _ => (by cases (show (none : Option Nat) = some g from hg')), h.apart⟩, fun A hA ho g hg' => ?_⟩
    · rcases List.mem_cons.1 hA with rfl | hA
      · exact World.ownsRow_nil w 0 _ 256
      · exact h.all A hA
    · rcases List.mem_cons.1 hA with rfl | hA
      · exact (by cases (show (none : Option Nat) = some g from hg'))
      · exact h.mine A hA ho g hg'
  | some y =>
    have : mget secM es i = y := by unfold mget; rw [hf]; rfl
    rw [this]
    exact h.bagOut (mdel_perm hf)
theorem Good.vsIn {es : List (Int × Vs)} {Γf : List Asn} {w : World} (i : Int) (y : Vs) (h : Good W S (rowN 81 256 y.v y.ws.length (secs y.ws) :: bag (mdel es i) :: Γf) w) : Good W S (bag (mput es i y) :: Γf) w := h.bagIn (x := (i, y)) mput_perm
theorem Good.vsBack {es : List (Int × Vs)} {Γf : List Asn} {w : World} (i : Int) (h : Good W S (rowN 81 256 (mget secM es i).v (mget secM es i).ws.length (secs (mget secM es i).ws) :: bag (mdel es i) :: Γf) w) : Good W S (bag es :: Γf) w := by
  cases hf : mfind es i with
  | none =>
    have h0 : mhas es i = false := by unfold mhas; rw [hf]; rfl
    obtain ⟨h1, h2⟩ := nilRow_out (w := w) h0
    rw [h1, h2] at h
    exact h.tail
  | some y =>
    have : mget secM es i = y := by unfold mget; rw [hf]; rfl
    rw [this] at h
    exact h.bagIn (x := (i, y)) (mdel_perm hf)
theorem WPc.vsOut {c : Code} {es : List (Int × Vs)} {Γf : List Asn} (i : Int) (k : WPc P n W S (rowN 81 256 (mget secM es i).v (mget secM es i).ws.length (secs (mget secM es i).ws) :: bag (mdel es i) :: Γf) F c Q) (hp : Take Γ (bag es) Γf := by first | exact takeA | fail) : WPc P n W S Γ F c Q := fun a w hf hg => k a w hf ((hg.perm hp).vsOut i)
theorem WPq.vsIn {e : Exit} {es : List (Int × Vs)} {Γf : List Asn} (i : Int) (y : Vs) (hp : Takes Γ [rowN 81 256 y.v y.ws.length (secs y.ws), bag (mdel es i)] Γf) (k : WPq n W S (bag (mput es i y) :: Γf) F Q e) : WPq n W S Γ F Q e := fun a w hf hg => k a w hf ((hg.perm hp).vsIn i y)
theorem WPq.vsBack {e : Exit} {es : List (Int × Vs)} {Γf : List Asn} (i : Int) (hp : Takes Γ [rowN 81 256 (mget secM es i).v (mget secM es i).ws.length (secs (mget secM es i).ws), bag (mdel es i)] Γf) (k : WPq n W S (bag es :: Γf) F Q e) : WPq n W S Γ F Q e := fun a w hf hg => k a w hf ((hg.perm hp).vsBack i)
theorem WPc.vsIn {c : Code} {es : List (Int × Vs)} {Γf : List Asn} (i : Int) (y : Vs) (hp : Takes Γ [rowN 81 256 y.v y.ws.length (secs y.ws), bag (mdel es i)] Γf) (k : WPc P n W S (bag (mput es i y) :: Γf) F c Q) : WPc P n W S Γ F c Q := fun a w hf hg => k a w hf ((hg.perm hp).vsIn i y)
theorem WPc.vsBack {c : Code} {es : List (Int × Vs)} {Γf : List Asn} (i : Int) (hp : Takes Γ [rowN 81 256 (mget secM es i).v (mget secM es i).ws.length (secs (mget secM es i).ws), bag (mdel es i)] Γf) (k : WPc P n W S (bag es :: Γf) F c Q) : WPc P n W S Γ F c Q := fun a w hf hg => k a w hf ((hg.perm hp).vsBack i)
theorem WPc.bag0 {c : Code} (k : WPc P n W S (bag [] :: Γ) F c Q) : WPc P n W S Γ F c Q := fun a w hf hg => k a w hf hg.bag0
theorem WPl.bag0 (k : WPl P n W S (bag [] :: Γ) F ops os Q) : WPl P n W S Γ F ops os Q := fun a w hf hg => k a w hf hg.bag0
theorem ReadR.lookO {K V : Type} [DecidableEq K] {T : TypeId} {M : MK K V} [h : MapI P T M] {d : Option Tmp} {x i : Operand} {g : Nat} {l : List (K × V)} {k : K} {c : Value} (hkw : M.wf k) (hm : rmp M g l ∈ Γ) (hc : M.vc (mget M l k) = c) (hx : evF F x = some (.map (some g))) (hi : evF F i = some (M.kc k)) :
    ReadR P n Γ F ⟨d, .lookup T x i false, ty, pos, af, gd⟩ c := fun ρ w hf hw => by
  have h0 : (rmp M g l).holds w := hw _ hm
  have h1 : (mp M g l).holds w := h0
  have := run_mlook (P := P) (T := T) h1 k hkw false
  subst hc
  simp [execOp, hf.eval hx, hf.eval hi, this]
theorem mget_of_find {es : List (Int × Vs)} {i : Int} {y : Vs} (h : mfind es i = some y) : mget secM es i = y := by unfold mget; rw [h]; rfl
theorem WPc.bagO {c : Code} {es : List (Int × Vs)} {Γf : List Asn} {i : Int} {y : Vs} (hf : mfind es i = some y) (k : WPc P n W S (rowN 81 256 y.v y.ws.length (secs y.ws) :: bag (mdel es i) :: Γf) F c Q) (hp : Take Γ (bag es) Γf := by first | exact takeA | fail) : WPc P n W S Γ F c Q := fun a w hf' hg => k a w hf' ((hg.perm hp).bagOut (x := (i, y)) (mdel_perm hf))
theorem WPl.bagO {es : List (Int × Vs)} {Γf : List Asn} {i : Int} {y : Vs} (hf : mfind es i = some y) (k : WPl P n W S (rowN 81 256 y.v y.ws.length (secs y.ws) :: bag (Go.Proofs.Ytepmikgjnmjheaa.mdel es i) :: Γf) F ops os Q) (hp : Take Γ (bag es) Γf := by first | exact takeA | fail) : WPl P n W S Γ F ops os Q := fun a w hf' hg => k a w hf' ((hg.perm hp).bagOut (x := (i, y)) (mdel_perm hf))
theorem WPq.bagI {e : Exit} {es : List (Int × Vs)} {Γf : List Asn} {i : Int} {y : Vs} (hf : mfind es i = some y) (k : WPq n W S (bag es :: Γf) F Q e) (hp : Takes Γ [rowN 81 256 y.v y.ws.length (secs y.ws), bag (mdel es i)] Γf := by first | exact takesA | fail) : WPq n W S Γ F Q e := fun a w hf' hg => k a w hf' ((hg.perm hp).bagIn (x := (i, y)) (mdel_perm hf))
theorem WPq.bag0 {e : Exit} (k : WPq n W S (bag [] :: Γ) F Q e) : WPq n W S Γ F Q e := fun a w hf hg => k a w hf hg.bag0
theorem WPq.nilHd {e : Exit} (k : WPq n W S (hdN (.slice none 0 0) 0 [] :: Γ) F Q e) : WPq n W S Γ F Q e := fun a w hf hg => k a w hf ⟨hg.mod, fun A hA => by
    rcases List.mem_cons.1 hA with rfl | hA
    · exact .inl ⟨rfl, rfl, rfl⟩
    · exact hg.all A hA, List.pairwise_cons.2 ⟨fun B _ _ g hg' _ => (hg'.1 rfl).elim, hg.apart⟩, fun A hA ho g hg' => by
    rcases List.mem_cons.1 hA with rfl | hA
    · exact (hg'.1 rfl).elim
    · exact hg.mine A hA ho g hg'⟩
theorem Prov.rg {K V : Type} [DecidableEq K] {M : MK K V} {Γ : List Asn} {m r : Nat} {l td : List (K × V)} {c : Option (K × V)} (h : Go.Proofs.Ytepmikgjnmjheaa.rg M m r l td c ∈ Γ) : Prov Γ (Go.Proofs.Ytepmikgjnmjheaa.rmp M m l) := ⟨rfl, fun w hw => rg_mp (hw _ h)⟩
theorem provsG {Γ Δ : List Asn} (h : Provs Γ Δ := by ((repeat' (first | exact Provs.nil | apply Provs.cons | exact Prov.bx memA | exact Prov.mp memA | exact Prov.rbx memA | exact Prov.rmp memA | exact Prov.rg memA | exact provA | fail)) <;> fail)) : Provs Γ Δ := h
theorem ownsV {Γ : List Asn} (h : ∀ A, A ∈ Γ → A.own = true := by ((repeat' (first | exact own_nil | refine own_cons (by first | exact bx_own | exact rowN_own | exact mp_own | exact bag_own | exact rg_own | exact rfl) ?_ | fail)) <;> fail)) : ∀ A, A ∈ Γ → A.own = true := h
theorem WPl.boxC {d : Nat} {T : TypeId} {x : Operand} (cs : Ch) (hk : FOk cs) (hx : evF F x = some (ag cs)) (k : ∀ g, WPl P n W S (bx g T cs :: Γ) ((d, .pointer (some ⟨g, 0, none⟩)) :: F) ops os Q) (hlt : Nat.blt d n = true := by first | rfl | fail) (hw : wantG F ops gd = some true := by first | rfl | fail) :
    WPl P n W S Γ F ops (⟨some d, .box T x, ty, pos, af, gd⟩ :: os) Q :=
  WPl.op .nil hlt hw (OpT.boxA hx hk) (by rintro v Γ' ⟨g, rfl, rfl⟩; exact k g)
/-- clear, of a map. -/
theorem OpT.clearM {K V : Type} [DecidableEq K] {T : TypeId} {M : MK K V} [h : MapI P T M] {d : Option Tmp} {x : Operand} {g : Nat} {l : List (K × V)} {Γf : List Asn} (hx : evF F x = some (.map (some g))) (hp : Takes Γ [mp M g l] Γf) :
    OpT P n Γ F ⟨d, .call { callee := .builtin .clear, args := #[x], argTypes := #[T] }, ty, pos, af, gd⟩ [mp M g l] (RLeave [mp M g []]) := fun ρ w hf hw _ => by
  obtain ⟨kT, eT, hu, _⟩ := h.law
  obtain ⟨es, clock, hb, _⟩ := hw _ (hp.mem_iff.2 (List.mem_cons_self ..))
  have : (execOp ρ.eval ⟨d, .call { callee := .builtin .clear, args := #[x], argTypes := #[T] }, ty, pos, af, gd⟩).run P w = .ok (.value (.tuple #[])) (ChangeMaps.setBlock w g (.map #[] clock)) := by
    simp [execOp, resolve, invoke, builtin, hf.eval hx, Builtin.clear_, run_underlying hu, MapKept.run_getObj_map hb, MapKept.run_setObj_map _ hb, Sem.run_bind, Result.andThen, ChangeMaps.setBlock]
  unfold DoesW
  rw [this]
  have hg : ownFp [mp M g l] g := ⟨_, List.mem_singleton.2 rfl, rfl, rfl⟩
  exact ⟨_, rfl, .one (mod_block hg _ _) ⟨#[], clock, block_set hb, rfl, .nil, fun e he => by simp at he, .nil, fun x hx => by cases hx⟩ fun g' hg' => .inr (by cases hg'; exact hg)⟩
theorem WPl.clearM {K V : Type} [DecidableEq K] {T : TypeId} {M : MK K V} [h : MapI P T M] {x : Operand} {g : Nat} {l : List (K × V)} {Γf : List Asn} (k : WPl P n W S (mp M g [] :: Γf) F ops os Q) (hx : evF F x = some (.map (some g)) := by first | rfl | fail) (hp : Take Γ (mp M g l) Γf := by first | exact takeA | fail) (hw : wantG F ops gd = some true := by first | rfl | fail) :
    WPl P n W S Γ F ops (⟨none, .call { callee := .builtin .clear, args := #[x], argTypes := #[T] }, ty, pos, af, gd⟩ :: os) Q := WPl.turn (.cons hp .nil) rfl hw (OpT.clearM (h := h) hx (.cons hp .nil)) k
/-- make, of structs. -/
theorem OpT.makeN {T e : TypeId} {sz : Nat} [hT : SliI P T e] [he : EltN P e sz] {d : Option Tmp} {x y : Operand} {k1 k2 : IntKind} {m : Nat} (hx : evF F x = some (.int k1 (Int.ofNat m))) (hy : evF F y = some (.int k2 (Int.ofNat m))) (hm : m ≤ 1000000000) :
    OpT P n Γ F ⟨d, .makeSlice T x y, ty, pos, af, gd⟩ [] (RRow e sz m (clr P e m)) := fun ρ w hf hw _ => by
  obtain ⟨i0, z, hi, hz0, hz1, hzs, hby, hsz⟩ := he.parts
  have hb : (i0.bytes : Int) * (m : Int) ≤ 281474976710656 := by
    have : i0.bytes * m ≤ 512 * 1000000000 := Nat.mul_le_mul hby hm
    have h2 : ((i0.bytes * m : Nat) : Int) ≤ 281474976710656 := by omega
    rwa [Int.natCast_mul] at h2
  have hrun := run_make (P := P) w T e i0 z hT.und hi hz0 k1 k2 (m : Int) (m : Int) (by omega) (Int.le_refl _) hb (by omega)
  simp only [Int.toNat_natCast, hz1] at hrun
  have hcl : clr P e m = (Builtin.zeroCells z.cells m).toList := by unfold clr; rw [hi]; simp [hz0]
  have he2 : madeCells z.cells (m * sz) = Builtin.zeroCells z.cells m := by unfold madeCells Builtin.zeroCells; rw [hzs]
  have : (execOp ρ.eval ⟨d, .makeSlice T x y, ty, pos, af, gd⟩).run P w = .ok (.value (.slice (some ⟨w.heap.size, 0, none⟩) m m)) (w.alloc (.cells (madeCells z.cells (m * sz)) e)) := by
    simp only [execOp, hf.eval hx, hf.eval hy]
    simp only [Int.ofNat_eq_natCast, Sem.run_bind, hrun, Result.andThen_ok, Sem.run_pure]
  unfold DoesW
  rw [this]
  have hl : (clr P e m).length = m * sz := by rw [hcl, ← he2, Array.length_toList, size_madeCells]
  refine ⟨_, ⟨rfl, rfl⟩, .one (Mod.alloc _ _ _) ⟨hl, .inr ⟨w.heap.size, m, _, rfl, Nat.zero_le _, alloc_new _ _, Nat.le_refl _, by unfold maxLen; omega, by rw [size_madeCells], ?_⟩⟩ fun g hg => .inl ?_⟩
  · rw [he2, ← hcl, ← hl]
    exact List.take_length
  · cases hg; exact Nat.le_refl _
theorem WPl.mkN {d : Nat} {T e : TypeId} {sz : Nat} [hT : SliI P T e] [he : EltN P e sz] {x y : Operand} {k1 k2 : IntKind} (m : Nat) (hm : m ≤ 1000000000) (k : ∀ v, v.oneCell' = true → WPl P n W S (rowN e sz v m (clr P e m) :: Γ) ((d, v) :: F) ops os Q) (hx : evF F x = some (.int k1 (Int.ofNat m)) := by first | rfl | fail) (hy : evF F y = some (.int k2 (Int.ofNat m)) := by first | rfl | fail) (hlt : Nat.blt d n = true := by first | rfl | fail) (hw : wantG F ops gd = some true := by first | rfl | fail) :
    WPl P n W S Γ F ops (⟨some d, .makeSlice T x y, ty, pos, af, gd⟩ :: os) Q := WPl.row .nil rfl hlt hw (OpT.makeN hx hy hm) k
end
theorem zero_rep {N : Nat} (hN : 0 < N) (x : Value) (m : Nat) : (Builtin.zeroCells (List.replicate N x).toArray m).toList = List.replicate (m * N) x := by
  apply List.ext_getElem
  · simp [Builtin.zeroCells]
  · intro i h1 h2
    have hlt : i % N < N := Nat.mod_lt _ hN
    simp only [Builtin.zeroCells, Array.toList_map, List.getElem_map, Array.getElem_toList, Array.getElem_range, List.size_toArray, List.length_replicate, List.getElem_replicate]
    rw [getElem!_pos _ _ (by simpa using hlt)]
    simp
theorem rep_flat {α : Type} (N m : Nat) (x : α) : List.replicate (m * N) x = (List.replicate m (List.replicate N x)).flatten := by
  induction m with
  | zero => simp
  | succ m ih => rw [List.replicate_succ, List.flatten_cons, ← ih, Nat.succ_mul, Nat.add_comm, List.replicate_append_replicate]
theorem secs_rep (m : Nat) (s : Sec) : secs (List.replicate m s) = (List.replicate m (u8s s.b)).flatten := by
  unfold secs; rw [List.map_replicate]; rfl
theorem u8s_rep (N : Nat) (b : UInt8) : u8s (List.replicate N b) = List.replicate N (Value.int .u8 ((b.toNat : Nat) : Int)) := by unfold u8s; rw [List.map_replicate]
theorem clr_secs (m : Nat) : clr Try.prog 81 m = secs (List.replicate m (secF 0)) := by
  have hz : ((Try.prog.info? 81).bind (·.zero)).map (fun z => z.cells) = some (List.replicate 256 (Value.int .u8 0)).toArray := by kernel_rfl
  unfold clr
  cases h : (Try.prog.info? 81).bind (·.zero) with
  | none => rw [h] at hz; cases hz
  | some z =>
    rw [h] at hz
    have hz2 : z.cells = (List.replicate 256 (Value.int .u8 0)).toArray := Option.some.inj hz
    show (Builtin.zeroCells z.cells m).toList = _
    rw [hz2, zero_rep (by omega), rep_flat, secs_rep]
    show _ = (List.replicate m (u8s (List.replicate 256 0))).flatten
    rw [u8s_rep]
    rfl
end Go.Proofs.Ytepmikgjnmjheaa
