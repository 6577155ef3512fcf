/- Maps of keys of integers and bools: that they are such; what stands in them. -/
import Derived.Test.YtpjfkomicehinaaMq
import Derived.Test.YtpjfkomicehinaaTy
namespace Go.Proofs.Ytpjfkomicehinaa
open Go.RowKit
set_option linter.unusedSimpArgs false
set_option linter.unusedVariables false

def in64 (n : Int) : Prop := -9223372036854775808 ≤ n ∧ n ≤ 9223372036854775807
theorem in64_wf {n : Int} (h : in64 n) : inR (.int .i64 n) := by
  unfold inR in64 at *
  simp [Lit.wf, IntKind.min, IntKind.max, IntKind.signed, IntKind.bits]
  omega
theorem run_zero {P : Program} {T : TypeId} {z : Value} (h : (P.info? T).bind (·.zero) = some z) (w : World) : (zeroValue T).run P w = .ok z w := by
  cases hi : P.info? T with
  | none => rw [hi] at h; cases h
  | some i =>
    rw [hi] at h
    simp only [Option.bind_some] at h
    simp [zeroValue, typeInfo, hi, h, Sem.run_bind]
theorem mapI_of {K V : Type} {P : Program} {T kT eT : TypeId} {ks : List (Option IntKind)} {M : MK K V} (kc : K → Ch) (hM : ∀ k, M.kc k = ag (kc k)) (hu : P.underlying T = some (.map kT eT)) (hE : EqI P kT ks) (hkt : P.keyType kT = true) (hsz : Nat.ble 8 (P.types.size + 1) = true) (hc : P.cellsOf kT = ks.length) (hl : laidOutB P = true) (hrow : kT < P.types.size) (hka : P.keyTypeAt 5 kT = true)
    (hw : (match P.underlying kT with | some (.array _ _) | some (.struct _) => true | _ => false) = true) (hs : ∀ k, M.wf k → Shp ks (flat (kc k)) ∧ ∀ v ∈ flat (kc k), inR v) (hz : (P.info? eT).bind (·.zero) = some (M.vc M.v0)) (hi : ∀ a b, flat (kc a) = flat (kc b) → a = b) : MapI P T M where
  law := ⟨kT, eT, hu, .of_law (deep_law_laid hl (m := 5) (by omega) hrow hka hw), fun k hk => by
    rw [hM]
    exact keyOf_shp hE.ty hkt (Nat.le_of_ble_eq_true hsz) hc (hs k hk).1 (hs k hk).2, fun w => run_zero hz w⟩
  inj := fun a b h => by
    rw [hM, hM] at h
    unfold ag at h
    apply hi
    simpa using h
theorem flatten_at {α : Type} {sz : Nat} : ∀ {l : List (List α)} {i o : Nat}, (∀ x ∈ l, x.length = sz) → o < sz → l.flatten[i * sz + o]? = (l[i]?).bind (fun x => x[o]?)
  | [], i, o, _, _ => by simp
  | x :: l, i, o, h, ho => by
    have hx := h x (List.mem_cons_self ..)
    cases i with
    | zero => rw [List.flatten_cons, Nat.zero_mul, Nat.zero_add, List.getElem?_append_left (by omega)]; simp
    | succ i =>
      rw [List.flatten_cons, List.getElem?_append_right (by rw [Nat.succ_mul]; omega), show (i + 1) * sz + o - x.length = i * sz + o by rw [Nat.succ_mul]; omega]
      rw [flatten_at (fun y hy => h y (List.mem_cons_of_mem _ hy)) ho]
      simp
theorem flatten_len {α : Type} {sz : Nat} : ∀ {l : List (List α)}, (∀ x ∈ l, x.length = sz) → l.flatten.length = l.length * sz
  | [], _ => by simp
  | x :: l, h => by
    rw [List.flatten_cons, List.length_append, h x (List.mem_cons_self ..), flatten_len fun y hy => h y (List.mem_cons_of_mem _ hy), List.length_cons, Nat.succ_mul]
    omega
theorem rows_at {α : Type} {c : α → Ch} {sz : Nat} {l : List α} {i o : Nat} {x : α} {u : Value} (hc : ∀ x, (flat (c x)).length = sz) (hx : l[i]? = some x) (ho : o < sz) (hu : (flat (c x))[o]? = some u) : (l.map fun x => flat (c x)).flatten[i * sz + o]? = some u := by
  rw [flatten_at (by intro y hy; obtain ⟨z, _, rfl⟩ := List.mem_map.1 hy; exact hc z) ho, List.getElem?_map, hx]
  exact hu
theorem rows_len {α : Type} {c : α → Ch} {sz : Nat} {l : List α} (hc : ∀ x, (flat (c x)).length = sz) : (l.map fun x => flat (c x)).flatten.length = l.length * sz := by
  rw [flatten_len (sz := sz) (by intro y hy; obtain ⟨z, _, rfl⟩ := List.mem_map.1 hy; exact hc z), List.length_map]
section
variable {P : Program} {n : Nat} {Γ : List Asn} {F : List (Nat × Value)} {ops : Array Oper} {eats : List (Nat × Nat)} {K : Prev → Prop} {j : Nat} {os : List Oper} {o : Oper} {D bad : List Nat} {Ds : List (List Nat × List Nat)} {prev : Prev}
/-- In a drawn region: what gives a value, and turns several. -/
theorem RGl.turns {c : Env → Value} {Γ1 Γ2 : Env → List Asn} (h : ∀ e, oksR D e prev → OpT P n (ensR eats D j e prev ++ Γ) (bndR D e prev ++ fcutR bad F) o (Γ1 e) (RTurns (c e) (Γ2 e)))
    (k : RGl P n Γ F ops eats K (j + 1) os Ds ((j, o.dst, ⟨fun e _ => c e, fun e _ => Γ2 e, fun _ _ => True⟩) :: prev)) (hs : ∀ e, ∀ A, A ∈ Γ1 e → A ∈ eaten1R eats j e prev := by intro e A hA; first | exact hA | simpa [eaten1R, psp, or_comm] using hA) (hw : ∀ e, wantG (bndR D e prev ++ fcutR bad F) ops o.guard = some true := by intro e; first | rfl | fail) (hi : ∀ e, c (mask D e) = c e ∧ Γ2 (mask D e) = Γ2 e := by intro e; first | exact ⟨rfl, rfl⟩ | fail) :
    RGl P n Γ F ops eats K j (o :: os) ((D, bad) :: Ds) prev :=
  RGl.stepR (fun e he => .op (hw e) (h e he) (hs e) (by rintro v Γ' ⟨rfl, rfl⟩; exact ⟨rfl, rfl, trivial⟩)) (fun e _ => ⟨(hi e).1, (hi e).2, rfl⟩) k
theorem OpT.callTs {d : Option Tmp} {f : FuncId} {xs : List Operand} {ts : Array TypeId} {ty : TypeId} {pos : String} {af : Array Edge} {gd : Option (Nat × Bool)} {vs : List Value} {Γo Γf : List Asn} {R : Value → List Asn → Prop}
    (h : Triple P f vs.toArray Γo R) (hx : evFs F xs vs := by (try dsimp only [bndR, ensR, oksR, fcutR, List.append_nil, List.nil_append, List.cons_append, List.append_assoc]); exact evsA) (hp : Takes Γ Γo Γf := by (try dsimp only [bndR, ensR, oksR, fcutR, List.append_nil, List.nil_append, List.cons_append, List.append_assoc]); exact takesA) (hc : isCode P f = true := by kernel_rfl) : OpT P n Γ F ⟨d, .call { callee := .value (.func f), args := xs.toArray, argTypes := ts }, ty, pos, af, gd⟩ Γo R := by
  intro ρ w hf hw ha
  unfold DoesW
  rw [run_call hc, hx.map hf]
  refine (Triple.frame (Δ := []) (Γo := Γo) (Γf := Γf) h (fun A hA => hw A (hp.mem_iff.2 hA)) (apart_perm hp ha) .nil (fun A hA => by cases hA)).mono ?_
  rintro e w' ⟨v, Γ', he, hR, hp⟩
  exact ⟨v, he, Γ', hR, hp⟩
end
variable {K V : Type} [DecidableEq K]
theorem mget_of {M : MK K V} {l : List (K × V)} {k : K} : mget M l k = (mfind l k).getD M.v0 := rfl
theorem mhas_put {l : List (K × V)} {k k' : K} {vd : V} : mhas (mput l k vd) k' = (decide (k = k') || mhas l k') := by
  unfold mhas; rw [mfind_put]; by_cases h : k = k' <;> simp [h]
theorem mput_len {l : List (K × V)} {k : K} {vd : V} : (mput l k vd).length = if mhas l k then l.length else l.length + 1 := by
  induction l with
  | nil => rfl
  | cons a l ih =>
    unfold mput mhas mfind
    by_cases h : a.1 = k
    · simp [h]
    · simp only [if_neg h, List.length_cons, ih]
      unfold mhas
      split <;> rfl
theorem mfind_none_of {l : List (K × V)} {k : K} (h : mfind l k = none) : ∀ a ∈ l, a.1 ≠ k := by
  induction l with
  | nil => intro a ha; cases ha
  | cons b l ih =>
    unfold mfind at h
    split at h
    · cases h
    · rename_i hb
      intro a ha
      rcases List.mem_cons.1 ha with rfl | ha
      · exact hb
      · exact ih h a ha
theorem mfind_mem {l : List (K × V)} {k : K} {vd : V} (h : mfind l k = some vd) : (k, vd) ∈ l := by
  induction l with
  | nil => cases h
  | cons b l ih =>
    unfold mfind at h
    split at h
    · rename_i hb
      cases h
      rw [← hb]
      exact List.mem_cons_self ..
    · exact List.mem_cons_of_mem _ (ih h)
theorem mfind_del {l : List (K × V)} {k k' : K} (hn : (l.map (·.1)).Nodup) : mfind (mdel l k) k' = if k = k' then none else mfind l k' := by
  induction l with
  | nil => simp [mdel, mfind]
  | cons b l ih =>
    rw [List.map_cons, List.nodup_cons] at hn
    unfold mdel
    by_cases h : b.1 = k
    · rw [if_pos h]
      by_cases h2 : k = k'
      · rw [if_pos h2]
        cases hm : mfind l k' with
        | none => rfl
        | some vd => exact absurd (List.mem_map.2 ⟨_, mfind_mem hm, (h.trans h2).symm⟩) hn.1
      · rw [if_neg h2]
        unfold mfind
        rw [if_neg (fun hh => h2 (h.symm.trans hh))]
        cases l with
        | nil => rfl
        | cons c l => rfl
    · rw [if_neg h]
      unfold mfind
      rw [ih hn.2]
      by_cases h2 : k = k'
      · rw [if_pos h2, if_pos h2, if_neg (fun hh => h (hh.trans h2.symm))]
      · rw [if_neg h2, if_neg h2]
theorem mdel_len {l : List (K × V)} {k : K} : (mdel l k).length = if mhas l k then l.length - 1 else l.length := by
  induction l with
  | nil => rfl
  | cons b l ih =>
    unfold mdel mhas mfind
    by_cases h : b.1 = k
    · simp [h]
    · simp only [if_neg h, List.length_cons, ih]
      unfold mhas
      split
      · rename_i hm
        have : 0 < l.length := by
          cases l with
          | nil => cases hm
          | cons _ _ => simp
        omega
      · rfl
end Go.Proofs.Ytpjfkomicehinaa
