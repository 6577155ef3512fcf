/- (Without bytes.) What came in, opened: an argument's reading gives its shape (as separation tells it). -/
import Derived.Test.YtpjfkomicehinaaAdr
import Derived.ProofKit
import Derived.OpenShut
import Derived.ShutString
import Derived.ChangeOld
namespace Go.Proofs.Ytpjfkomicehinaa
open Go.ChangeShapes Go.WideShapes Go.ChangeAt Go.RowKit
set_option linter.unusedSimpArgs false
set_option linter.unusedVariables false

theorem Try.own : ownKnob Try.prog.godebug = none := by kernel_rfl
theorem Try.laidOut : laidOutB Try.prog = true := by kernel_rfl

section
variable {H : Type} {enc : TypeId × Value → H} {P : Program} {W : World} {base : Nat} {v : Value} {d : DataW H} {p : List MemPlace} {t : TypeId}

theorem open_nat {k : IntKind} (ht : P.underlying t = some (.int k)) (hk : k.signed = false) (hval : Value.okWide P W .any base t v) (h : DataW.Trod enc P W 0 (fun _ => true) true t v d p) :
    ∃ n : Nat, v = .int k n ∧ n < 2 ^ k.bits := by
  obtain ⟨n, rfl, _, _, hw⟩ := open_int ht hval h
  cases k <;> simp [IntKind.signed] at hk
  · have := bounds_u8 hw; exact ⟨n.toNat, by rw [Int.toNat_of_nonneg (by omega)], by simp [IntKind.bits]; omega⟩
  · have := bounds_u16 hw; exact ⟨n.toNat, by rw [Int.toNat_of_nonneg (by omega)], by simp [IntKind.bits]; omega⟩
  · have := bounds_u32 hw; exact ⟨n.toNat, by rw [Int.toNat_of_nonneg (by omega)], by simp [IntKind.bits]; omega⟩
  · have := bounds_u64 hw; exact ⟨n.toNat, by rw [Int.toNat_of_nonneg (by omega)], by simp [IntKind.bits]; omega⟩

theorem open_i64 (ht : P.underlying t = some (.int .i64)) (hval : Value.okWide P W .any base t v) (h : DataW.Trod enc P W 0 (fun _ => true) true t v d p) :
    ∃ n : Int, v = .int .i64 n ∧ -9223372036854775808 ≤ n ∧ n ≤ 9223372036854775807 := by
  obtain ⟨n, rfl, _, _, hw⟩ := open_int ht hval h
  have := bounds_i64 hw
  exact ⟨n, rfl, by omega, by omega⟩

theorem open_boolv (ht : P.underlying t = some .bool) (hval : Value.okWide P W .any base t v) (h : DataW.Trod enc P W 0 (fun _ => true) true t v d p) : ∃ b : Bool, v = .bool b := by
  obtain ⟨b, rfl, _, _⟩ := open_bool ht hval h
  exact ⟨b, rfl⟩

theorem spot_none {w : World} {x : Addr} {u : Value} (h0 : w.cell? (x.add 0) = some u) : x.spot = none := by
  cases hs : x.spot with
  | none => rfl
  | some s =>
    simp only [Addr.add, if_true] at h0
    unfold World.cell? at h0
    split at h0
    · simp [hs] at h0
    · cases h0

theorem add_spot {x : Addr} (hsp : x.spot = none) (i : Nat) : x.add i = ⟨x.block, x.off + i, none⟩ := by
  cases x with
  | mk b o s =>
    simp only at hsp
    subst hsp
    unfold Addr.add
    split
    · rename_i h; subst h; rfl
    · rfl

theorem addr_eta {x : Addr} (hsp : x.spot = none) : x = ⟨x.block, x.off, none⟩ := by
  cases x with
  | mk b o s => simp only at hsp; subst hsp; rfl

end

/-! ### Values that hold integers and bools alone -/

/-- Cells of given kinds (none: a bool). -/
def Fits : List (Option IntKind) → List Value → Prop
  | [], [] => True
  | none :: ks, v :: vs => (∃ b, v = .bool b) ∧ Fits ks vs
  | some k :: ks, v :: vs => (∃ n, v = .int k n ∧ (Lit.int k n).wf = true) ∧ Fits ks vs
  | _, _ => False

theorem Fits.append : ∀ {ks ks' : List (Option IntKind)} {vs vs' : List Value}, Fits ks vs → Fits ks' vs' → Fits (ks ++ ks') (vs ++ vs')
  | [], _, [], _, _, h => h
  | none :: _, _, _ :: _, _, h, h' => ⟨h.1, Fits.append h.2 h'⟩
  | some _ :: _, _, _ :: _, _, h, h' => ⟨h.1, Fits.append h.2 h'⟩
  | [], _, _ :: _, _, h, _ => h.elim
  | none :: _, _, [], _, h, _ => h.elim
  | some _ :: _, _, [], _, h, _ => h.elim

theorem Fits.length : ∀ {ks : List (Option IntKind)} {vs : List Value}, Fits ks vs → vs.length = ks.length
  | [], [], _ => rfl
  | none :: _, _ :: _, h => by simp [Fits.length h.2]
  | some _ :: _, _ :: _, h => by simp [Fits.length h.2]
  | [], _ :: _, h => h.elim
  | none :: _, [], h => h.elim
  | some _ :: _, [], h => h.elim

/-- The kinds of a type's cells, where it holds integers and bools alone. -/
def flatK (P : Program) : Nat → TypeId → Option (List (Option IntKind))
  | 0, _ => none
  | fuel + 1, t =>
    match P.underlying t with
    | some .bool => some [none]
    | some (.int k) => some [some k]
    | some (.struct fs) => (fs.toList.foldr (fun f acc => fun off => if f.offset = off then (flatK P fuel f.type).bind fun ks => if P.cellsOf f.type = ks.length then (acc (off + ks.length)).map (ks ++ ·) else none else none) (fun off => if P.cellsOf t = off then some [] else none)) 0
    | some (.array n e) => (flatK P fuel e).bind fun ks => if P.cellsOf e = ks.length ∧ P.cellsOf t = n * ks.length then some (List.replicate n ks).flatten else none
    | _ => none

theorem mapM_each {α β : Type} {f : α → Option β} : ∀ {l : List α} {r : List β}, l.mapM f = some r → ∀ x ∈ l, ∃ y, f x = some y
  | [], _, _, _, h => (by cases h)
  | a :: l, r, h, x, hx => by
    rw [List.mapM_cons] at h
    cases ha : f a with
    | none => rw [ha] at h; cases h
    | some y =>
      rw [ha] at h
      cases hl : l.mapM f with
      | none => rw [hl] at h; cases h
      | some ys =>
        rcases List.mem_cons.1 hx with rfl | hx
        · exact ⟨y, ha⟩
        · exact mapM_each hl x hx

section
variable {H : Type} {enc : TypeId × Value → H} {P : Program} {W : World}

theorem flat_fields {spare : Nat → Bool} {held : Bool} {base fuel f2 : Nat} (ih : ∀ t ks cs x, flatK P fuel t = some ks → DataW.trod enc P W base spare held f2 t cs = some x → Fits ks cs) (tot : Nat) (cs : List Value) :
    ∀ (fs : List Field) (off : Nat) (ks : List (Option IntKind)),
      (fs.foldr (fun f acc => fun off => if f.offset = off then (flatK P fuel f.type).bind fun ks => if P.cellsOf f.type = ks.length then (acc (off + ks.length)).map (ks ++ ·) else none else none) (fun off => if tot = off then some [] else none)) off = some ks →
      (∀ f ∈ fs, ∃ y, DataW.trod enc P W base spare held f2 f.type ((cs.drop f.offset).take (P.cellsOf f.type)) = some y) → cs.length = tot → Fits ks (cs.drop off)
  | [], off, ks, h, _, hl => by
    simp only [List.foldr_nil] at h
    split at h
    · cases h
      rw [List.drop_eq_nil_of_le (by omega)]
      trivial
    · cases h
  | f :: fs, off, ks, h, hall, hl => by
    simp only [List.foldr_cons] at h
    split at h
    · rename_i hoff
      cases hk : flatK P fuel f.type with
      | none => rw [hk] at h; cases h
      | some k1 =>
        rw [hk] at h
        simp only [Option.bind_some] at h
        split at h
        · rename_i hc
          rw [Option.map_eq_some_iff] at h
          obtain ⟨k2, h2, rfl⟩ := h
          obtain ⟨y, hy⟩ := hall f (List.mem_cons_self ..)
          have f1 := ih _ _ _ _ hk hy
          have r := flat_fields ih tot cs fs (off + k1.length) k2 h2 (fun g hg => hall g (List.mem_cons_of_mem _ hg)) hl
          rw [hoff, hc] at f1
          have e : cs.drop off = (cs.drop off).take k1.length ++ cs.drop (off + k1.length) := by
            rw [← List.drop_drop, List.take_append_drop]
          rw [e]
          exact f1.append r
        · cases h
    · cases h

theorem flat_cells {spare : Nat → Bool} {held : Bool} {base : Nat} : ∀ (fuel : Nat) (f2 : Nat) (t : TypeId) (ks : List (Option IntKind)) (cs : List Value) (x : DataW H × List MemPlace),
    flatK P fuel t = some ks → DataW.trod enc P W base spare held f2 t cs = some x → Fits ks cs
  | 0, _, _, _, _, _, h, _ => (by cases h)
  | fuel + 1, 0, _, _, _, _, _, h => (by cases h)
  | fuel + 1, f2 + 1, t, ks, cs, x, h, hx => by
    unfold flatK at h
    cases ht : P.underlying t with
    | none => rw [ht] at h; cases h
    | some d =>
      rw [ht] at h
      cases d with
      | bool =>
        cases h
        unfold DataW.trod at hx
        rw [ht] at hx
        split at hx <;> simp_all [Fits]
      | int k =>
        cases h
        obtain ⟨n, hc, _, hw⟩ := DataW.trod_int ht hx
        subst hc
        exact ⟨⟨n, rfl, hw⟩, trivial⟩
      | struct fs =>
        simp only at h
        unfold DataW.trod at hx
        rw [ht] at hx
        simp only at hx
        split at hx
        · rename_i hlen
          rw [Option.map_eq_some_iff] at hx
          obtain ⟨ys, hys, _⟩ := hx
          have := flat_fields (fun t ks cs x => flat_cells fuel f2 t ks cs x) (P.cellsOf t) cs fs.toList 0 ks h (fun f hf => mapM_each hys f hf) hlen
          simpa using this
        · cases hx
      | array n e =>
        simp only at h
        unfold DataW.trod at hx
        rw [ht] at hx
        simp only at hx
        split at hx
        · rename_i hlen
          rw [Option.map_eq_some_iff] at hx
          obtain ⟨ys, hys, _⟩ := hx
          cases hk : flatK P fuel e with
          | none => rw [hk] at h; cases h
          | some k1 =>
            rw [hk] at h
            simp only [Option.bind_some] at h
            split at h
            · rename_i hc
              cases h
              rw [hc.2] at hlen
              rw [hc.1] at hys
              have each : ∀ i, i < n → Fits k1 ((cs.drop (i * k1.length)).take k1.length) := by
                intro i hi
                obtain ⟨y, hy⟩ := mapM_each hys i (by simpa using hi)
                exact flat_cells fuel f2 _ _ _ _ hk hy
              have all : ∀ m, m ≤ n → Fits (List.replicate m k1).flatten (cs.take (m * k1.length)) := by
                intro m
                induction m with
                | zero => intro _; simp [Fits]
                | succ m ihm =>
                  intro hm
                  rw [List.replicate_succ', List.flatten_append, Nat.succ_mul, List.take_add]
                  refine (ihm (by omega)).append ?_
                  simpa using each m (by omega)
              have := all n (Nat.le_refl _)
              rwa [List.take_of_length_le (by omega)] at this
            · cases h
        · cases hx
      | _ => cases h

/-- A value of integers and bools alone that came in. -/
theorem open_flat {v : Value} {d : DataW H} {p : List MemPlace} {t : TypeId} {ks : List (Option IntKind)} (fuel : Nat) (hk : flatK P fuel t = some ks)
    (h : DataW.Trod enc P W 0 (fun _ => true) true t v d p) : Fits ks v.cells.toList := by
  obtain ⟨f2, hf⟩ := h
  exact flat_cells fuel f2 t ks _ _ hk hf

theorem agg_of_array {v : Value} {base : Nat} {t e : TypeId} {n : Nat} (ht : P.underlying t = some (.array n e)) (hval : Value.okWide P W .any base t v) : ∃ cs, v = .agg cs := by
  unfold Value.okWide at hval
  rw [ht] at hval
  obtain ⟨cs, h, _⟩ := hval
  exact ⟨cs, h⟩
theorem agg_of_struct {v : Value} {base : Nat} {t : TypeId} {fs : Array Field} (ht : P.underlying t = some (.struct fs)) (hval : Value.okWide P W .any base t v) : ∃ cs, v = .agg cs := by
  unfold Value.okWide at hval
  rw [ht] at hval
  obtain ⟨cs, h, _⟩ := hval
  exact ⟨cs, h⟩

theorem Fits.split : ∀ {ks ks' : List (Option IntKind)} {vs : List Value}, Fits (ks ++ ks') vs → ∃ v1 v2, vs = v1 ++ v2 ∧ Fits ks v1 ∧ Fits ks' v2
  | [], _, vs, h => ⟨[], vs, rfl, trivial, h⟩
  | none :: ks, ks', v :: vs, h => by
    obtain ⟨v1, v2, rfl, h1, h2⟩ := Fits.split h.2
    exact ⟨v :: v1, v2, rfl, ⟨h.1, h1⟩, h2⟩
  | some k :: ks, ks', v :: vs, h => by
    obtain ⟨v1, v2, rfl, h1, h2⟩ := Fits.split h.2
    exact ⟨v :: v1, v2, rfl, ⟨h.1, h1⟩, h2⟩
  | none :: _, _, [], h => h.elim
  | some _ :: _, _, [], h => h.elim

theorem fits_int {k : IntKind} : ∀ {vs : List Value}, Fits [some k] vs → ∃ n, vs = [.int k n] ∧ (Lit.int k n).wf = true
  | [_], ⟨⟨n, rfl, hw⟩, _⟩ => ⟨n, rfl, hw⟩

/-- The kinds of an address's cells. -/
def adKinds : List (Option IntKind) := none :: List.replicate 16 (some .u8)
theorem fits_uint {k : IntKind} (hk : k.signed = false) {ks : List (Option IntKind)} : ∀ {vs : List Value}, Fits (some k :: ks) vs → ∃ (n : Nat) (r : List Value), vs = .int k (n : Int) :: r ∧ n < 2 ^ k.bits ∧ Fits ks r
  | v :: r, h => by
    obtain ⟨⟨n, rfl, hw⟩, h⟩ := h
    cases k <;> simp [IntKind.signed] at hk
    · have := bounds_u8 hw; exact ⟨n.toNat, r, by rw [Int.toNat_of_nonneg (by omega)], by simp [IntKind.bits]; omega, h⟩
    · have := bounds_u16 hw; exact ⟨n.toNat, r, by rw [Int.toNat_of_nonneg (by omega)], by simp [IntKind.bits]; omega, h⟩
    · have := bounds_u32 hw; exact ⟨n.toNat, r, by rw [Int.toNat_of_nonneg (by omega)], by simp [IntKind.bits]; omega, h⟩
    · have := bounds_u64 hw; exact ⟨n.toNat, r, by rw [Int.toNat_of_nonneg (by omega)], by simp [IntKind.bits]; omega, h⟩

theorem fits_nil : ∀ {vs : List Value}, Fits [] vs → vs = []
  | [], _ => rfl

/-- The kinds of a flow's cells. -/
def flKinds : List (Option IntKind) := adKinds ++ (adKinds ++ [some .u16, some .u16, some .u8])

theorem fits_bytes : ∀ {n : Nat} {vs : List Value}, Fits (List.replicate n (some .u8)) vs → ∃ l : List UInt8, vs = u8s l ∧ l.length = n
  | 0, [], _ => ⟨[], rfl, rfl⟩
  | 0, _ :: _, h => h.elim
  | n + 1, [], h => h.elim
  | n + 1, v :: vs, h => by
    obtain ⟨⟨m, rfl, hw⟩, h2⟩ := h
    obtain ⟨l, rfl, hl⟩ := fits_bytes h2
    have := bounds_u8 hw
    refine ⟨UInt8.ofNat m.toNat :: l, ?_, by simp [hl]⟩
    have e : ((UInt8.ofNat m.toNat).toNat : Int) = m := by
      have h3 : (UInt8.ofNat m.toNat).toNat = m.toNat % 256 := by simp
      rw [h3]
      omega
    show _ :: _ = Value.int .u8 ((UInt8.ofNat m.toNat).toNat : Int) :: u8s l
    rw [e]
theorem fits_adr {vs : List Value} (h : Fits adKinds vs) : ∃ a : Adr, vs = flat (adc a) := by
  cases vs with
  | nil => exact h.elim
  | cons v vs =>
    obtain ⟨⟨b, rfl⟩, h2⟩ := h
    obtain ⟨l, rfl, hl⟩ := fits_bytes h2
    exact ⟨⟨b, l, hl⟩, by simp [flat_eq]⟩
theorem fits_i64 {ks : List (Option IntKind)} : ∀ {vs : List Value}, Fits (some .i64 :: ks) vs → ∃ (n : Int) (r : List Value), vs = .int .i64 n :: r ∧ -9223372036854775808 ≤ n ∧ n ≤ 9223372036854775807 ∧ Fits ks r
  | v :: r, h => by
    obtain ⟨⟨n, rfl, hw⟩, h⟩ := h
    have := bounds_i64 hw
    exact ⟨n, r, rfl, by omega, by omega, h⟩
theorem fits_bool {ks : List (Option IntKind)} : ∀ {vs : List Value}, Fits (none :: ks) vs → ∃ (b : Bool) (r : List Value), vs = .bool b :: r ∧ Fits ks r
  | v :: r, h => by
    obtain ⟨⟨b, rfl⟩, h⟩ := h
    exact ⟨b, r, rfl, h⟩
theorem ag_of {cs : Array Value} {c : Ch} (h : cs.toList = flat c) : Value.agg cs = ag c := by
  unfold ag; rw [← h, Array.toArray_toList]
/-- Nothing old has turned. -/
def Ext (w w' : World) : Prop := Below w.heap.size w w'
/-- A law, out of its contract. -/
theorem law_of {f : FuncId} {args : Array Value} {c : Value} {Γ : List Asn} (h : Triple P f args Γ (RVal c)) (ho : ∀ A, A ∈ Γ → A.own = false) (hw : Holds Γ W) : Calls P f args W fun e W' => e = .returned c ∧ Ext W W' := by
  refine (h W hw ?_).mono ?_
  · clear hw h
    induction Γ with
    | nil => exact .nil
    | cons A Γ ih =>
      refine .cons (fun B hB hor => ?_) (ih fun B hB => ho B (List.mem_cons_of_mem _ hB))
      rw [ho A (List.mem_cons_self ..), ho B (List.mem_cons_of_mem _ hB)] at hor
      simp at hor
  · rintro e W' ⟨v, Γ', rfl, ⟨rfl, rfl⟩, hp⟩
    refine ⟨rfl, hp.mod.os, hp.mod.tape, hp.mod.output, hp.mod.size, fun g hg => hp.mod.block g hg ?_⟩
    rintro ⟨A, hA, hao, _⟩
    rw [ho A hA] at hao
    cases hao
theorem hold0 : Holds [] W := fun _ h => by cases h
theorem hold1 {A : Asn} {Γ : List Asn} (h : A.holds W) (k : Holds Γ W) : Holds (A :: Γ) W := fun B hB => by
  rcases List.mem_cons.1 hB with rfl | hB
  · exact h
  · exact k B hB

theorem open_adr {v : Value} {d : DataW H} {p : List MemPlace} {base : Nat} {t : TypeId} {fs : Array Field} (ht : P.underlying t = some (.struct fs)) (hk : flatK P 6 t = some adKinds) (hval : Value.okWide P W .any base t v)
    (h : DataW.Trod enc P W 0 (fun _ => true) true t v d p) : ∃ a : Adr, v = ag (adc a) := by
  obtain ⟨cs, rfl⟩ := agg_of_struct ht hval
  obtain ⟨a, ha⟩ := fits_adr (open_flat 6 hk h)
  exact ⟨a, ag_of ha⟩

theorem open_u8 {v : Value} {d : DataW H} {p : List MemPlace} {base : Nat} {t : TypeId} (ht : P.underlying t = some (.int .u8)) (hval : Value.okWide P W .any base t v) (h : DataW.Trod enc P W 0 (fun _ => true) true t v d p) : ∃ c : UInt8, v = .int .u8 ((c.toNat : Nat) : Int) := by
  obtain ⟨n, rfl, hn⟩ := open_nat ht rfl hval h
  refine ⟨UInt8.ofNat n, ?_⟩
  rw [u8_of, Nat.mod_eq_of_lt (by simpa [IntKind.bits] using hn)]
theorem fits_u8n {ks : List (Option IntKind)} {vs : List Value} (h : Fits (some .u8 :: ks) vs) : ∃ (c : UInt8) (r : List Value), vs = .int .u8 ((c.toNat : Nat) : Int) :: r ∧ Fits ks r := by
  obtain ⟨n, r, rfl, hn, h⟩ := fits_uint rfl h
  exact ⟨UInt8.ofNat n, r, by rw [u8_of, Nat.mod_eq_of_lt (by simpa [IntKind.bits] using hn)], h⟩

end

end Go.Proofs.Ytpjfkomicehinaa
