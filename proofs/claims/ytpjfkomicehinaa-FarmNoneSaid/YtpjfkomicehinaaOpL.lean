/- Slices of structs of integers and bools that came in, opened. -/
import Derived.Test.YtpjfkomicehinaaOa
import Derived.Test.YtpjfkomicehinaaMr
namespace Go.Proofs.Ytpjfkomicehinaa
open Go.ChangeShapes Go.WideShapes Go.ChangeAt Go.RowKit
set_option linter.unusedSimpArgs false
set_option linter.unusedVariables false
section
variable {H : Type} {enc : TypeId × Value → H} {P : Program} {W : World}
theorem mapM_get {α β : Type} {f : α → Option β} : ∀ {l : List α} {r : List β}, l.mapM f = some r → r.length = l.length ∧ ∀ (j : Nat) (x : α), l[j]? = some x → f x = r[j]?
  | [], r, h => by
    simp only [List.mapM_nil, Option.pure_def, Option.some.injEq] at h
    subst h
    exact ⟨rfl, fun j x hx => by simp at hx⟩
  | a :: l, r, h => by
    rw [List.mapM_cons] at h
    cases ha : f a with
    | none => rw [ha] at h; cases h
    | some y =>
      rw [ha] at h
      cases hl : l.mapM f with
      | none => rw [hl] at h; cases h
      | some ys =>
        rw [hl] at h
        obtain rfl : y :: ys = r := by simpa using h
        obtain ⟨h1, h2⟩ := mapM_get hl
        refine ⟨by simp [h1], fun j x hx => ?_⟩
        cases j with
        | zero => simp at hx; subst hx; simpa using ha
        | succ j => simpa using h2 j x (by simpa using hx)
theorem cells_get {b0 : Nat} {a : Addr} {n : Nat} {cs : List Value} (h : W.cells? b0 a n = some cs) : cs.length = n ∧ ∀ j, j < n → W.cell? (a.add j) = cs[j]? := by
  unfold World.cells? at h
  split at h
  · obtain ⟨h1, h2⟩ := mapM_get h
    refine ⟨by simpa using h1, fun j hj => h2 j j ?_⟩
    rw [List.getElem?_range hj]
  · cases h
theorem open_rows {v : Value} {d : DataW H} {p : List MemPlace} {base : Nat} {t e : TypeId} {ks : List (Option IntKind)} (fuel : Nat) (ht : P.underlying t = some (.slice e)) (hk : flatK P fuel e = some ks) (hc : P.cellsOf e = ks.length) (h0 : 0 < ks.length)
    (hval : Value.okWide P W .any base t v) (h : DataW.Trod enc P W 0 (fun _ => true) true t v d p) : ∃ ess : List (List Value), (rdN v ess.length ess.flatten).holds W ∧ ∀ es ∈ ess, Fits ks es := by
  obtain ⟨a0, len0, cap0, rfl⟩ := okWide_slice ht hval
  obtain ⟨f2, hf⟩ := h
  rcases DataW.trod_slice ht hf with ⟨hcs, _⟩ | ⟨a, len, cap, elems, rest, n, _, hcs, _, hb, hl, hm, hlen, hel, _⟩
  · simp [Value.cells] at hcs
    obtain ⟨rfl, rfl, rfl⟩ := hcs
    exact ⟨[], .inl ⟨rfl, rfl, rfl⟩, by simp⟩
  · simp [Value.cells] at hcs
    obtain ⟨rfl, rfl, rfl⟩ := hcs
    have hex : ∀ i, i < len0 → ∃ cs, W.cells? 0 (a.add (i * ks.length)) ks.length = some cs ∧ Fits ks cs := by
      intro i hi
      have h1 := hel i hi
      rw [hc, List.getElem?_eq_getElem (by omega), Option.bind_eq_some_iff] at h1
      obtain ⟨cs, h2, h3⟩ := h1
      exact ⟨cs, h2, flat_cells fuel n e ks cs _ hk h3⟩
    obtain ⟨ess, h1, h2⟩ : ∃ ess : List (List Value), ess.length = len0 ∧ ∀ i, i < len0 → ∃ cs, ess[i]? = some cs ∧ W.cells? 0 (a.add (i * ks.length)) ks.length = some cs ∧ Fits ks cs := by
      refine ⟨(List.range len0).map fun i => if hi : i < len0 then (hex i hi).choose else [], by simp, fun i hi => ⟨(hex i hi).choose, ?_, (hex i hi).choose_spec⟩⟩
      simp [hi]
    have hfit : ∀ es ∈ ess, Fits ks es := by
      intro es hes
      obtain ⟨i, hi⟩ := List.getElem?_of_mem hes
      obtain ⟨cs, g1, g2, g3⟩ := h2 i (by have := (List.getElem?_eq_some_iff.1 hi).1; omega)
      rw [hi] at g1
      cases g1
      exact g3
    refine ⟨ess, .inr ⟨a, cap0, by rw [h1], by omega, hm, fun j u hj => ?_⟩, hfit⟩
    have hfl := flatten_len fun x hx => (hfit x hx).length
    have hj' : j < ess.length * ks.length := by have := (List.getElem?_eq_some_iff.1 hj).1; omega
    have hi : j / ks.length < len0 := by rw [← h1]; exact (Nat.div_lt_iff_lt_mul h0).2 hj'
    have ho := Nat.mod_lt j h0
    have hjj : j / ks.length * ks.length + j % ks.length = j := by rw [Nat.mul_comm]; exact Nat.div_add_mod ..
    obtain ⟨cs, g1, g2, g3⟩ := h2 _ hi
    rw [← hjj, flatten_at (fun x hx => (hfit x hx).length) ho, g1] at hj
    have := (cells_get g2).2 _ ho
    rw [add_add, hjj] at this
    rw [this]
    exact hj
theorem list_of {α β : Type} {c : α → β} {p : α → Prop} : ∀ {l : List β}, (∀ x ∈ l, ∃ y, x = c y ∧ p y) → ∃ r : List α, l = r.map c ∧ ∀ y ∈ r, p y
  | [], _ => ⟨[], rfl, by simp⟩
  | x :: l, h => by
    obtain ⟨y, rfl, hy⟩ := h x (List.mem_cons_self ..)
    obtain ⟨r, rfl, hr⟩ := list_of fun z hz => h z (List.mem_cons_of_mem _ hz)
    exact ⟨y :: r, rfl, fun z hz => by
      rcases List.mem_cons.1 hz with rfl | hz
      · exact hy
      · exact hr z hz⟩
theorem open_list {α : Type} {v : Value} {d : DataW H} {p : List MemPlace} {base : Nat} {t e : TypeId} {ks : List (Option IntKind)} (c : α → Ch) (q : α → Prop) (hq : ∀ es, Fits ks es → ∃ x, es = flat (c x) ∧ q x) (fuel : Nat) (ht : P.underlying t = some (.slice e)) (hk : flatK P fuel e = some ks) (hc : P.cellsOf e = ks.length) (h0 : 0 < ks.length)
    (hval : Value.okWide P W .any base t v) (h : DataW.Trod enc P W 0 (fun _ => true) true t v d p) : ∃ l : List α, (rdN v l.length (l.map fun x => flat (c x)).flatten).holds W ∧ ∀ x ∈ l, q x := by
  obtain ⟨ess, h1, h2⟩ := open_rows fuel ht hk hc h0 hval h
  obtain ⟨r, rfl, hr⟩ := list_of (c := fun x => flat (c x)) (p := q) fun es hes => hq es (h2 es hes)
  exact ⟨r, by simpa using h1, hr⟩
/-- Reports of health. -/
theorem fits_rep {es : List Value} (h : Fits [some .i64, some .i64, some .i64] es) : ∃ x : Int × Int × Int, es = flat ([(1, [.int .i64 x.1]), (1, [.int .i64 x.2.1]), (1, [.int .i64 x.2.2])] : Ch) ∧ (in64 x.1 ∧ in64 x.2.1 ∧ in64 x.2.2) := by
  obtain ⟨n1, r1, rfl, a1, b1, k1⟩ := fits_i64 h
  obtain ⟨n2, r2, rfl, a2, b2, k2⟩ := fits_i64 k1
  obtain ⟨n3, r3, rfl, a3, b3, k3⟩ := fits_i64 k2
  obtain rfl := fits_nil k3
  exact ⟨(n1, n2, n3), rfl, ⟨a1, b1⟩, ⟨a2, b2⟩, a3, b3⟩
end
end Go.Proofs.Ytpjfkomicehinaa
