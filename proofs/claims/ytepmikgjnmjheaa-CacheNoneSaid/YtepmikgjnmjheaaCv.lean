/- Layer 5 (cache): bytes that nobody turns any more; frames. -/
import Derived.Test.YtepmikgjnmjheaaCd
namespace Go.Proofs.Ytepmikgjnmjheaa
open Go.RowKit Go.Sort
set_option linter.unusedSimpArgs false
set_option linter.unusedVariables false
set_option linter.unusedSectionVars false
/-- Bytes that nobody turns any more. -/
def vault (rs : List (Value × Sec)) : Asn where
  own := true
  fp := fun g => ∃ r ∈ rs, (rb r.1 r.2.b).fp g
  holds := fun w => ∀ r ∈ rs, (rb r.1 r.2.b).holds w
  lt := fun w h g hg => by
    obtain ⟨r, hr, hg⟩ := hg
    exact (rb r.1 r.2.b).lt w (h r hr) g hg
  loc := fun w w' h hl r hr => (rb r.1 r.2.b).loc w w' (h r hr) fun g hg => hl g ⟨r, hr, hg⟩
theorem vault_own {rs : List (Value × Sec)} : (vault rs).own = true := rfl
theorem HasS.vault {Γ : List Asn} {rs : List (Value × Sec)} {v : Value} {s : Sec} (h : Go.Proofs.Ytepmikgjnmjheaa.vault rs ∈ Γ) (hr : (v, s) ∈ rs) : HasS Γ v s.b.length (u8s s.b) := fun w hw => hw _ h _ hr
section
variable {P : Program} {n : Nat} {W : World} {S : Nat → Prop} {Γ : List Asn} {F : List (Nat × Value)} {Q : Exit → Act → World → Prop} {ops : Array Oper} {os : List Oper}
theorem Good.vault0 {w : World} (h : Good W S Γ w) : Good W S (vault [] :: Γ) w :=
  h.conv (fun hw A hA => by
    rcases List.mem_cons.1 hA with rfl | hA
    · intro r hr; cases hr
    · exact hw A hA) (fun ha => List.pairwise_cons.2 ⟨fun B _ _ g ⟨r, hr, _⟩ => (by cases hr), ha⟩) (fun A hA ho g hg => by
    rcases List.mem_cons.1 hA with rfl | hA
    · obtain ⟨r, hr, _⟩ := hg; cases hr
    · exact ⟨A, hA, ho, hg⟩)
theorem Good.vaultIn {A : Asn} {rs : List (Value × Sec)} {v : Value} {s : Sec} {w : World} (ho : A.own = true) (hh : ∀ w, A.holds w → (rb v s.b).holds w) (hf : ∀ g, (rb v s.b).fp g → A.fp g) (h : Good W S (A :: vault rs :: Γ) w) : Good W S (vault ((v, s) :: rs) :: Γ) w := by
  refine h.conv (fun hw B hB => ?_) (fun ha => ?_) (fun B hB hbo g hg => ?_)
  · rcases List.mem_cons.1 hB with rfl | hB
    · intro r hr
      rcases List.mem_cons.1 hr with rfl | hr
      · exact hh w (hw A (List.mem_cons_self ..))
      · exact hw (vault rs) (List.mem_cons_of_mem _ (List.mem_cons_self ..)) r hr
    · exact hw B (List.mem_cons_of_mem _ (List.mem_cons_of_mem _ hB))
  · rw [List.pairwise_cons, List.pairwise_cons] at ha
    obtain ⟨h1, h2, h3⟩ := ha
    refine List.pairwise_cons.2 ⟨fun B hB _ g hg hg' => ?_, h3⟩
    obtain ⟨r, hr, hg⟩ := hg
    rcases List.mem_cons.1 hr with rfl | hr
    · exact h1 B (List.mem_cons_of_mem _ hB) (.inl ho) g (hf g hg) hg'
    · exact h2 B hB (.inl rfl) g ⟨r, hr, hg⟩ hg'
  · rcases List.mem_cons.1 hB with rfl | hB
    · obtain ⟨r, hr, hg⟩ := hg
      rcases List.mem_cons.1 hr with rfl | hr
      · exact ⟨A, List.mem_cons_self .., ho, hf g hg⟩
      · exact ⟨vault rs, List.mem_cons_of_mem _ (List.mem_cons_self ..), rfl, r, hr, hg⟩
    · exact ⟨B, List.mem_cons_of_mem _ (List.mem_cons_of_mem _ hB), hbo, hg⟩
/-- What goes into the vault: a row of bytes, or what is read alone. -/
structure Vaults (A : Asn) (v : Value) (s : Sec) : Prop where
  own : A.own = true
  hh : ∀ w, A.holds w → (rb v s.b).holds w
  hf : ∀ g, (rb v s.b).fp g → A.fp g
theorem Vaults.ob {v : Value} {s : Sec} : Vaults (ob v s.b) v s := ⟨rfl, fun w h => row_reads h, fun g hg => hg.2⟩
theorem Vaults.ob' {v : Value} {s : Sec} {l : List UInt8} (h : l = s.b) : Vaults (Go.Proofs.Ytepmikgjnmjheaa.ob v l) v s := h ▸ Vaults.ob
theorem Vaults.hd {v : Value} {s : Sec} : Vaults (hdN v s.b.length (u8s s.b)) v s := ⟨rfl, fun w h => h, fun g hg => hg⟩
theorem WPc.vaultIn {c : Code} {A : Asn} {rs : List (Value × Sec)} {v : Value} {s : Sec} {Γf : List Asn} (hv : Vaults A v s) (k : WPc P n W S (vault ((v, s) :: rs) :: Γf) F c Q) (hp : Takes Γ [A, vault rs] Γf := by first | exact takesA | fail) : WPc P n W S Γ F c Q := fun a w hf hg => k a w hf ((hg.perm hp).vaultIn hv.own hv.hh hv.hf)
theorem WPl.vaultIn {A : Asn} {rs : List (Value × Sec)} {v : Value} {s : Sec} {Γf : List Asn} (hv : Vaults A v s) (k : WPl P n W S (vault ((v, s) :: rs) :: Γf) F ops os Q) (hp : Takes Γ [A, vault rs] Γf := by first | exact takesA | fail) : WPl P n W S Γ F ops os Q := fun a w hf hg => k a w hf ((hg.perm hp).vaultIn hv.own hv.hh hv.hf)
theorem WPq.vaultIn {e : Exit} {A : Asn} {rs : List (Value × Sec)} {v : Value} {s : Sec} {Γf : List Asn} (hv : Vaults A v s) (k : WPq n W S (vault ((v, s) :: rs) :: Γf) F Q e) (hp : Takes Γ [A, vault rs] Γf := by first | exact takesA | fail) : WPq n W S Γ F Q e := fun a w hf hg => k a w hf ((hg.perm hp).vaultIn hv.own hv.hh hv.hf)
theorem WPq.vault0 {e : Exit} (k : WPq n W S (vault [] :: Γ) F Q e) : WPq n W S Γ F Q e := fun a w hf hg => k a w hf hg.vault0
theorem WPc.vault0 {c : Code} (k : WPc P n W S (vault [] :: Γ) F c Q) : WPc P n W S Γ F c Q := fun a w hf hg => k a w hf hg.vault0
end
theorem provsW {Γ Δ : List Asn} (h : Provs Γ Δ := by ((repeat' (first | exact Provs.nil | apply Provs.cons | exact Prov.bx memA | exact Prov.mp memA | exact Prov.rbx memA | exact Prov.rmp memA | exact provA | exact Prov.rd (HasS.vault memA (by assumption)) | fail)) <;> fail)) : Provs Γ Δ := h
theorem ownsW {Γ : List Asn} (h : ∀ A, A ∈ Γ → A.own = true := by ((repeat' (first | exact own_nil | refine own_cons (by first | exact bx_own | exact rowN_own | exact mp_own | exact bag_own | exact vault_own | exact rg_own | exact rfl) ?_ | fail)) <;> fail)) : ∀ A, A ∈ Γ → A.own = true := h
theorem fpVault {Γf : List Asn} {rs : List (Value × Sec)} {v : Value} {s : Sec} (h : vault rs ∈ Γf) (hr : (v, s) ∈ rs) : ∀ A, A ∈ [rb v s.b] → ∀ g, A.fp g → ∃ B, B ∈ Γf ∧ B.fp g := fun A hA g hg => ⟨_, h, ⟨_, hr, by rw [List.mem_singleton.1 hA] at hg; exact hg⟩⟩
theorem fpVaultM {Γf : List Asn} {rs : List (Value × Sec)} {v : Value} {s : Sec} (h : vault rs ∈ Γf) (hr : (v, s) ∈ rs) : ∀ A, A ∈ [rb v s.b] → ∃ B, B ∈ Γf ∧ ∀ g, A.fp g → B.fp g := fun A hA => ⟨_, h, fun g hg => ⟨_, hr, by rw [List.mem_singleton.1 hA] at hg; exact hg⟩⟩
theorem WPq.obHd {n : Nat} {W : World} {S : Nat → Prop} {Γ Γf : List Asn} {F : List (Nat × Value)} {Q : Exit → Act → World → Prop} {e : Exit} {v : Value} {l : List UInt8} (k : WPq n W S (hdN v l.length (u8s l) :: Γf) F Q e) (hp : Take Γ (ob v l) Γf := by first | exact takeA | fail) : WPq n W S Γ F Q e := fun a w hf hg => k a w hf ((hg.perm hp).conv (fun hw A hA => by
    rcases List.mem_cons.1 hA with rfl | hA
    · exact row_reads (hw (ob v l) (List.mem_cons_self ..))
    · exact hw A (List.mem_cons_of_mem _ hA)) (fun ha => by
    rw [List.pairwise_cons] at ha ⊢
    exact ⟨fun B hB _ g hg hg' => ha.1 B hB (.inl rfl) g hg.2 hg', ha.2⟩) (fun A hA ho g hg => by
    rcases List.mem_cons.1 hA with rfl | hA
    · exact ⟨ob v l, List.mem_cons_self .., rfl, hg.2⟩
    · exact ⟨A, List.mem_cons_of_mem _ hA, ho, hg⟩))
/-! ### Frames -/
structure Frm where
  full : Bool
  dirty : Bool
  used : Bool
  no : Int
  pins : Int
  bv : Value
  s : Sec
abbrev frC (f : Frm) : Ch := [(1, [.bool f.full]), (1, [.bool f.dirty]), (1, [.bool f.used]), (1, [.int .i64 f.no]), (1, [.int .i64 f.pins]), (1, [f.bv])]
def frs (l : List Frm) : List Value := (l.map fun f => flat (frC f)).flatten
theorem frC_len (f : Frm) : (flat (frC f)).length = 6 := rfl
theorem frs_len {l : List Frm} : (frs l).length = l.length * 6 := rows_len frC_len
theorem frs_at {l : List Frm} {i : Nat} {f : Frm} (h : l[i]? = some f) : ((frs l).drop (i * 6)).take 6 = flat (frC f) := rows_drop frC_len h
theorem frs_cell {l : List Frm} {i : Nat} {f : Frm} (h : l[i]? = some f) {o : Nat} (ho : o < 6) : (frs l)[i * 6 + o]? = (flat (frC f))[o]? := by
  rw [← frs_at h, List.getElem?_take_of_lt ho, List.getElem?_drop]
theorem frs_1 {l : List Frm} {i : Nat} {f f' : Frm} (h : l[i]? = some f) {o : Nat} {u : Value} (ho : o < 6) (hu : flat (frC f') = (flat (frC f)).set o u) : (frs l).set (i * 6 + o) u = frs (l.set i f') := rows_set (f := fun f => flat (frC f)) frC_len hu ho h
theorem frs_set {l : List Frm} {i : Nat} {f : Frm} (h : i < l.length) : (frs l).take (i * 6) ++ flat (frC f) ++ (frs l).drop (i * 6 + 6) = frs (l.set i f) := by
  unfold frs
  induction l generalizing i with
  | nil => cases h
  | cons x l ih =>
    have hx : (flat (frC x)).length = 6 := frC_len x
    rw [List.map_cons, List.flatten_cons]
    cases i with
    | zero =>
      rw [Nat.zero_mul, List.take_zero, List.nil_append, Nat.zero_add, List.set_cons_zero, List.map_cons, List.flatten_cons]
      congr 1
    | succ i =>
      have hi : i < l.length := by simpa using h
      rw [List.set_cons_succ, List.map_cons, List.flatten_cons, ← ih hi, show (i + 1) * 6 = 6 + i * 6 by omega, ← hx, List.take_length_add_append, Nat.add_assoc, List.drop_length_add_append, List.append_assoc, List.append_assoc, List.append_assoc]
instance frElt : EltN Try.prog 90 6 := ⟨by kernel_rfl⟩
def fr0 : Frm := ⟨false, false, false, 0, 0, .slice none 0 0, secF 0⟩
abbrev cxc (gV : Nat) (vF : Value) (hand : Int) : Ch := [(1, [.pointer (some ⟨gV, 0, none⟩)]), (1, [vF]), (1, [.int .i64 hand])]
/-- A cache's memory. -/
structure CS where
  fs : List Frm
  hand : Nat
  rs : List (Value × Sec)
abbrev chA (gK gV : Nat) (vF : Value) (C : CS) : List Asn := [bx gK 86 (cxc gV vF (C.hand : Int)), rowN 90 6 vF C.fs.length (frs C.fs), vault C.rs]
/-- A frame, or that there is nothing in it. -/
structure Fp where
  no : Int
  pins : Int
  dirty : Bool
  used : Bool
  s : Sec
def Frm.vw (f : Frm) : Option Fp := if f.full then some ⟨f.no, f.pins, f.dirty, f.used, f.s⟩ else none
structure Cv where
  fs : List (Option Fp)
  hand : Nat
def CS.vw (C : CS) : Cv := ⟨C.fs.map Frm.vw, C.hand⟩
/-- What a frame is like: n sectors, pins up to p. -/
structure FInv (n p : Nat) (rs : List (Value × Sec)) (f : Frm) : Prop where
  one : f.bv.oneCell' = true
  here : f.full = true → (0 ≤ f.no ∧ f.no < (n : Int)) ∧ (f.bv, f.s) ∈ rs
  gone : f.full = false → f.dirty = false ∧ f.used = false ∧ f.no = 0 ∧ f.pins = 0 ∧ f.bv = .slice none 0 0
  pin0 : 0 ≤ f.pins
  pin1 : f.pins ≤ (p : Int)
structure CInv (n m p : Nat) (C : CS) : Prop where
  len : C.fs.length = m
  hand : C.hand < m
  each : ∀ f ∈ C.fs, FInv n p C.rs f
theorem FInv.zero {n p : Nat} {rs : List (Value × Sec)} : FInv n p rs fr0 := ⟨rfl, (fun h => by cases h), fun _ => ⟨rfl, rfl, rfl, rfl, rfl⟩, Int.le_refl _, Int.natCast_nonneg p⟩
theorem FInv.more {n p : Nat} {rs rs' : List (Value × Sec)} {f : Frm} (h : FInv n p rs f) (hs : ∀ r ∈ rs, r ∈ rs') : FInv n p rs' f := ⟨h.one, fun hf => ⟨(h.here hf).1, hs _ (h.here hf).2⟩, h.gone, h.pin0, h.pin1⟩
theorem FInv.mono {n p p' : Nat} {rs : List (Value × Sec)} {f : Frm} (h : FInv n p rs f) (hp : p ≤ p') : FInv n p' rs f := ⟨h.one, h.here, h.gone, h.pin0, by have := h.pin1; omega⟩
theorem CInv.mono {n m p p' : Nat} {C : CS} (h : CInv n m p C) (hp : p ≤ p') : CInv n m p' C := ⟨h.len, h.hand, fun f hf => (h.each f hf).mono hp⟩
theorem FInv.vw_none {n p : Nat} {rs : List (Value × Sec)} {f : Frm} (hf : f.full = false) : f.vw = none := by unfold Frm.vw; rw [hf]; rfl
theorem Frm.vw_some {f : Frm} (hf : f.full = true) : f.vw = some ⟨f.no, f.pins, f.dirty, f.used, f.s⟩ := by unfold Frm.vw; rw [hf]; rfl
theorem FInv.fok {n p : Nat} {rs : List (Value × Sec)} {f : Frm} (h : FInv n p rs f) : FOk (frC f) := .one1 rfl (.one1 rfl (.one1 rfl (.one1 rfl (.one1 rfl (.one1 h.one .nil)))))
theorem mem_set_or {α : Type} {l : List α} {i : Nat} {a x : α} (h : x ∈ l.set i a) : x = a ∨ x ∈ l := by
  rcases List.mem_or_eq_of_mem_set h with h | h
  · exact .inr h
  · exact .inl h
theorem CInv.set {n m p : Nat} {C : CS} (h : CInv n m p C) {i : Nat} {f : Frm} {hand : Nat} (hf : FInv n p C.rs f) (hh : hand < m) : CInv n m p ⟨C.fs.set i f, hand, C.rs⟩ := ⟨by show (C.fs.set i f).length = m; rw [List.length_set]; exact h.len, hh, fun x hx => by
  rcases mem_set_or hx with rfl | hx
  · exact hf
  · exact h.each x hx⟩
theorem CInv.in {n m p : Nat} {C : CS} (h : CInv n m p C) (r : Value × Sec) : CInv n m p ⟨C.fs, C.hand, r :: C.rs⟩ := ⟨h.len, h.hand, fun x hx => (h.each x hx).more fun r hr => List.mem_cons_of_mem _ hr⟩
def fptr (vF : Value) (o : Option Nat) : Value := match o with | some i => .pointer (some (ela vF (i * 6))) | none => .pointer none
end Go.Proofs.Ytepmikgjnmjheaa
