/- What the row of cachePlays_holds needs: part 5. -/
import Derived.Test.YtepmikgjnmjheaaKp4
/- Layer 5 (cache): bytes that nobody turns any more; frames. -/
namespace Go.Proofs.Ytepmikgjnmjheaa
open Go.RowKit Go.Sort
set_option linter.unusedSimpArgs false
set_option linter.unusedVariables false
set_option linter.unusedSectionVars false
/-- Bytes that nobody turns any more. -/
def vault (rs : List (Value × Sec)) : Asn where
  own := true
  fp := fun g => ∃ r ∈ rs, (rb r.1 r.2.b).fp g
  holds := fun w => ∀ r ∈ rs, (rb r.1 r.2.b).holds w
  lt := fun w h g hg => by
    obtain ⟨r, hr, hg⟩ := hg
    exact (rb r.1 r.2.b).lt w (h r hr) g hg
  loc := fun w w' h hl r hr => (rb r.1 r.2.b).loc w w' (h r hr) fun g hg => hl g ⟨r, hr, hg⟩
theorem vault_own {rs : List (Value × Sec)} : (vault rs).own = true := rfl
theorem HasS.vault {Γ : List Asn} {rs : List (Value × Sec)} {v : Value} {s : Sec} (h : Go.Proofs.Ytepmikgjnmjheaa.vault rs ∈ Γ) (hr : (v, s) ∈ rs) : HasS Γ v s.b.length (u8s s.b) := fun w hw => hw _ h _ hr
section
variable {P : Program} {n : Nat} {W : World} {S : Nat → Prop} {Γ : List Asn} {F : List (Nat × Value)} {Q : Exit → Act → World → Prop} {ops : Array Oper} {os : List Oper}
theorem Good.vault0 {w : World} (h : Good W S Γ w) : Good W S (vault [] :: Γ) w :=
  h.conv (fun hw A hA => by
    rcases List.mem_cons.1 hA with rfl | hA
    · intro r hr; cases hr
    · exact hw A hA) (fun ha => List.pairwise_cons.2 ⟨fun B _ _ g ⟨r, hr, _⟩ => (by cases hr), ha⟩) (fun A hA ho g hg => by
    rcases List.mem_cons.1 hA with rfl | hA
    · obtain ⟨r, hr, _⟩ := hg; cases hr
    · exact ⟨A, hA, ho, hg⟩)
theorem Good.vaultIn {A : Asn} {rs : List (Value × Sec)} {v : Value} {s : Sec} {w : World} (ho : A.own = true) (hh : ∀ w, A.holds w → (rb v s.b).holds w) (hf : ∀ g, (rb v s.b).fp g → A.fp g) (h : Good W S (A :: vault rs :: Γ) w) : Good W S (vault ((v, s) :: rs) :: Γ) w := by
  refine h.conv (fun hw B hB => ?_) (fun ha => ?_) (fun B hB hbo g hg => ?_)
  · rcases List.mem_cons.1 hB with rfl | hB
    · intro r hr
      rcases List.mem_cons.1 hr with rfl | hr
      · exact hh w (hw A (List.mem_cons_self ..))
      · exact hw (vault rs) (List.mem_cons_of_mem _ (List.mem_cons_self ..)) r hr
    · exact hw B (List.mem_cons_of_mem _ (List.mem_cons_of_mem _ hB))
  · rw [List.pairwise_cons, List.pairwise_cons] at ha
    obtain ⟨h1, h2, h3⟩ := ha
    refine List.pairwise_cons.2 ⟨fun B hB _ g hg hg' => ?_, h3⟩
    obtain ⟨r, hr, hg⟩ := hg
    rcases List.mem_cons.1 hr with rfl | hr
    · exact h1 B (List.mem_cons_of_mem _ hB) (.inl ho) g (hf g hg) hg'
    · exact h2 B hB (.inl rfl) g ⟨r, hr, hg⟩ hg'
  · rcases List.mem_cons.1 hB with rfl | hB
    · obtain ⟨r, hr, hg⟩ := hg
      rcases List.mem_cons.1 hr with rfl | hr
      · exact ⟨A, List.mem_cons_self .., ho, hf g hg⟩
      · exact ⟨vault rs, List.mem_cons_of_mem _ (List.mem_cons_self ..), rfl, r, hr, hg⟩
    · exact ⟨B, List.mem_cons_of_mem _ (List.mem_cons_of_mem _ hB), hbo, hg⟩
/-- What goes into the vault: a row of bytes, or what is read alone. -/
structure Vaults (A : Asn) (v : Value) (s : Sec) : Prop where
  own : A.own = true
  hh : ∀ w, A.holds w → (rb v s.b).holds w
  hf : ∀ g, (rb v s.b).fp g → A.fp g
theorem Vaults.ob {v : Value} {s : Sec} : Vaults (ob v s.b) v s := ⟨rfl, fun w h => row_reads h, fun g hg => hg.2⟩
theorem Vaults.hd {v : Value} {s : Sec} : Vaults (hdN v s.b.length (u8s s.b)) v s := ⟨rfl, fun w h => h, fun g hg => hg⟩
theorem WPc.vaultIn {c : Code} {A : Asn} {rs : List (Value × Sec)} {v : Value} {s : Sec} {Γf : List Asn} (hv : Vaults A v s) (k : WPc P n W S (vault ((v, s) :: rs) :: Γf) F c Q) (hp : Takes Γ [A, vault rs] Γf := by first | exact takesA | fail) : WPc P n W S Γ F c Q := fun a w hf hg => k a w hf ((hg.perm hp).vaultIn hv.own hv.hh hv.hf)
theorem WPq.vaultIn {e : Exit} {A : Asn} {rs : List (Value × Sec)} {v : Value} {s : Sec} {Γf : List Asn} (hv : Vaults A v s) (k : WPq n W S (vault ((v, s) :: rs) :: Γf) F Q e) (hp : Takes Γ [A, vault rs] Γf := by first | exact takesA | fail) : WPq n W S Γ F Q e := fun a w hf hg => k a w hf ((hg.perm hp).vaultIn hv.own hv.hh hv.hf)
theorem WPq.vault0 {e : Exit} (k : WPq n W S (vault [] :: Γ) F Q e) : WPq n W S Γ F Q e := fun a w hf hg => k a w hf hg.vault0
theorem WPc.vault0 {c : Code} (k : WPc P n W S (vault [] :: Γ) F c Q) : WPc P n W S Γ F c Q := fun a w hf hg => k a w hf hg.vault0
end
theorem provsW {Γ Δ : List Asn} (h : Provs Γ Δ := by ((repeat' (first | exact Provs.nil | apply Provs.cons | exact Prov.bx memA | exact Prov.mp memA | exact Prov.rbx memA | exact Prov.rmp memA | exact provA | exact Prov.rd (HasS.vault memA (by assumption)) | fail)) <;> fail)) : Provs Γ Δ := h
theorem ownsW {Γ : List Asn} (h : ∀ A, A ∈ Γ → A.own = true := by ((repeat' (first | exact own_nil | refine own_cons (by first | exact bx_own | exact rowN_own | exact mp_own | exact bag_own | exact vault_own | exact rg_own | exact rfl) ?_ | fail)) <;> fail)) : ∀ A, A ∈ Γ → A.own = true := h
theorem fpVaultM {Γf : List Asn} {rs : List (Value × Sec)} {v : Value} {s : Sec} (h : vault rs ∈ Γf) (hr : (v, s) ∈ rs) : ∀ A, A ∈ [rb v s.b] → ∃ B, B ∈ Γf ∧ ∀ g, A.fp g → B.fp g := fun A hA => ⟨_, h, fun g hg => ⟨_, hr, by rw [List.mem_singleton.1 hA] at hg; exact hg⟩⟩
theorem WPq.obHd {n : Nat} {W : World} {S : Nat → Prop} {Γ Γf : List Asn} {F : List (Nat × Value)} {Q : Exit → Act → World → Prop} {e : Exit} {v : Value} {l : List UInt8} (k : WPq n W S (hdN v l.length (u8s l) :: Γf) F Q e) (hp : Take Γ (ob v l) Γf := by first | exact takeA | fail) : WPq n W S Γ F Q e := fun a w hf hg => k a w hf ((hg.perm hp).conv (fun hw A hA => by
    rcases List.mem_cons.1 hA with rfl | hA
    · exact row_reads (hw (ob v l) (List.mem_cons_self ..))
    · exact hw A (List.mem_cons_of_mem _ hA)) (fun ha => by
    rw [List.pairwise_cons] at ha ⊢
    exact ⟨fun B hB _ g hg hg' => ha.1 B hB (.inl rfl) g hg.2 hg', ha.2⟩) (fun A hA ho g hg => by
    rcases List.mem_cons.1 hA with rfl | hA
    · exact ⟨ob v l, List.mem_cons_self .., rfl, hg.2⟩
    · exact ⟨A, List.mem_cons_of_mem _ hA, ho, hg⟩))
/-! ### Frames -/
structure Frm where
  full : Bool
  dirty : Bool
  used : Bool
  no : Int
  pins : Int
  bv : Value
  s : Sec
abbrev frC (f : Frm) : Ch := [(1, [.bool f.full]), (1, [.bool f.dirty]), (1, [.bool f.used]), (1, [.int .i64 f.no]), (1, [.int .i64 f.pins]), (1, [f.bv])]
def frs (l : List Frm) : List Value := (l.map fun f => flat (frC f)).flatten
theorem frC_len (f : Frm) : (flat (frC f)).length = 6 := rfl
theorem frs_len {l : List Frm} : (frs l).length = l.length * 6 := rows_len frC_len
theorem frs_at {l : List Frm} {i : Nat} {f : Frm} (h : l[i]? = some f) : ((frs l).drop (i * 6)).take 6 = flat (frC f) := rows_drop frC_len h
theorem frs_cell {l : List Frm} {i : Nat} {f : Frm} (h : l[i]? = some f) {o : Nat} (ho : o < 6) : (frs l)[i * 6 + o]? = (flat (frC f))[o]? := by
  rw [← frs_at h, List.getElem?_take_of_lt ho, List.getElem?_drop]
theorem frs_1 {l : List Frm} {i : Nat} {f f' : Frm} (h : l[i]? = some f) {o : Nat} {u : Value} (ho : o < 6) (hu : flat (frC f') = (flat (frC f)).set o u) : (frs l).set (i * 6 + o) u = frs (l.set i f') := rows_set (f := fun f => flat (frC f)) frC_len hu ho h
theorem frs_set {l : List Frm} {i : Nat} {f : Frm} (h : i < l.length) : (frs l).take (i * 6) ++ flat (frC f) ++ (frs l).drop (i * 6 + 6) = frs (l.set i f) := by
  unfold frs
  induction l generalizing i with
  | nil => cases h
  | cons x l ih =>
    have hx : (flat (frC x)).length = 6 := frC_len x
    rw [List.map_cons, List.flatten_cons]
    cases i with
    | zero =>
      rw [Nat.zero_mul, List.take_zero, List.nil_append, Nat.zero_add, List.set_cons_zero, List.map_cons, List.flatten_cons]
      congr 1
    | succ i =>
      have hi : i < l.length := by simpa using h
      rw [List.set_cons_succ, List.map_cons, List.flatten_cons, ← ih hi, show (i + 1) * 6 = 6 + i * 6 by omega, ← hx, List.take_length_add_append, Nat.add_assoc, List.drop_length_add_append, List.append_assoc, List.append_assoc, List.append_assoc]
instance intEltN : EltN Try.prog 3 1 := ⟨by kernel_rfl⟩
instance frElt : EltN Try.prog 90 6 := ⟨by kernel_rfl⟩
def fr0 : Frm := ⟨false, false, false, 0, 0, .slice none 0 0, secF 0⟩
abbrev cxc (gV : Nat) (vF : Value) (hand : Int) : Ch := [(1, [.pointer (some ⟨gV, 0, none⟩)]), (1, [vF]), (1, [.int .i64 hand])]
/-- A cache's memory. -/
structure CS where
  fs : List Frm
  hand : Nat
  rs : List (Value × Sec)
abbrev chA (gK gV : Nat) (vF : Value) (C : CS) : List Asn := [bx gK 86 (cxc gV vF (C.hand : Int)), rowN 90 6 vF C.fs.length (frs C.fs), vault C.rs]
/-- A frame, or that there is nothing in it. -/
structure Fp where
  no : Int
  pins : Int
  dirty : Bool
  used : Bool
  s : Sec
def Frm.vw (f : Frm) : Option Fp := if f.full then some ⟨f.no, f.pins, f.dirty, f.used, f.s⟩ else none
structure Cv where
  fs : List (Option Fp)
  hand : Nat
def CS.vw (C : CS) : Cv := ⟨C.fs.map Frm.vw, C.hand⟩
/-- What a frame is like: n sectors, pins up to p. -/
structure FInv (n p : Nat) (rs : List (Value × Sec)) (f : Frm) : Prop where
  one : f.bv.oneCell' = true
  here : f.full = true → (0 ≤ f.no ∧ f.no < (n : Int)) ∧ (f.bv, f.s) ∈ rs
  gone : f.full = false → f.dirty = false ∧ f.used = false ∧ f.no = 0 ∧ f.pins = 0 ∧ f.bv = .slice none 0 0
  pin0 : 0 ≤ f.pins
  pin1 : f.pins ≤ (p : Int)
structure CInv (n m p : Nat) (C : CS) : Prop where
  len : C.fs.length = m
  hand : C.hand < m
  each : ∀ f ∈ C.fs, FInv n p C.rs f
theorem FInv.zero {n p : Nat} {rs : List (Value × Sec)} : FInv n p rs fr0 := ⟨rfl, (fun h => by cases h), fun _ => ⟨rfl, rfl, rfl, rfl, rfl⟩, Int.le_refl _, Int.natCast_nonneg p⟩
theorem FInv.more {n p : Nat} {rs rs' : List (Value × Sec)} {f : Frm} (h : FInv n p rs f) (hs : ∀ r ∈ rs, r ∈ rs') : FInv n p rs' f := ⟨h.one, fun hf => ⟨(h.here hf).1, hs _ (h.here hf).2⟩, h.gone, h.pin0, h.pin1⟩
theorem FInv.mono {n p p' : Nat} {rs : List (Value × Sec)} {f : Frm} (h : FInv n p rs f) (hp : p ≤ p') : FInv n p' rs f := ⟨h.one, h.here, h.gone, h.pin0, by have := h.pin1; omega⟩
theorem CInv.mono {n m p p' : Nat} {C : CS} (h : CInv n m p C) (hp : p ≤ p') : CInv n m p' C := ⟨h.len, h.hand, fun f hf => (h.each f hf).mono hp⟩
theorem Frm.vw_some {f : Frm} (hf : f.full = true) : f.vw = some ⟨f.no, f.pins, f.dirty, f.used, f.s⟩ := by unfold Frm.vw; rw [hf]; rfl
theorem FInv.fok {n p : Nat} {rs : List (Value × Sec)} {f : Frm} (h : FInv n p rs f) : FOk (frC f) := .one1 rfl (.one1 rfl (.one1 rfl (.one1 rfl (.one1 rfl (.one1 h.one .nil)))))
theorem mem_set_or {α : Type} {l : List α} {i : Nat} {a x : α} (h : x ∈ l.set i a) : x = a ∨ x ∈ l := by
  rcases List.mem_or_eq_of_mem_set h with h | h
  · exact .inr h
  · exact .inl h
theorem CInv.set {n m p : Nat} {C : CS} (h : CInv n m p C) {i : Nat} {f : Frm} {hand : Nat} (hf : FInv n p C.rs f) (hh : hand < m) : CInv n m p ⟨C.fs.set i f, hand, C.rs⟩ := ⟨by show (C.fs.set i f).length = m; rw [List.length_set]; exact h.len, hh, fun x hx => by
  rcases mem_set_or hx with rfl | hx
  · exact hf
  · exact h.each x hx⟩
theorem CInv.in {n m p : Nat} {C : CS} (h : CInv n m p C) (r : Value × Sec) : CInv n m p ⟨C.fs, C.hand, r :: C.rs⟩ := ⟨h.len, h.hand, fun x hx => (h.each x hx).more fun r hr => List.mem_cons_of_mem _ hr⟩
def fptr (vF : Value) (o : Option Nat) : Value := match o with | some i => .pointer (some (ela vF (i * 6))) | none => .pointer none
end Go.Proofs.Ytepmikgjnmjheaa
/- Layer 5 (cache): contracts: New, at, empty, victim. -/
namespace Go.Proofs.Ytepmikgjnmjheaa
open Go.RowKit
set_option linter.unusedSimpArgs false
set_option linter.unusedVariables false
set_option maxRecDepth 20000
set_option maxHeartbeats 4000000
attribute [local irreducible] WPc WPl WPq ReadR OpT BinR HasS bx rdN rowN Take Takes Prov Triple ResF BuildP Done ag Int.decLt Int.decLe Int.instDecidableEq
attribute [local irreducible] mp rmp rg rgo bag vrow secs mput mget mfind mdel intsV skeys vault frs
theorem clr_frs (m : Nat) : clr Try.prog 90 m = frs (List.replicate m fr0) := by
  have hz : ((Try.prog.info? 90).bind (·.zero)).map (fun z => z.cells) = some (flat (frC fr0)).toArray := by kernel_rfl
  unfold clr
  cases h : (Try.prog.info? 90).bind (·.zero) with
  | none => rw [h] at hz; cases hz
  | some z =>
    rw [h] at hz
    have hz2 : z.cells = (flat (frC fr0)).toArray := Option.some.inj hz
    show (Builtin.zeroCells z.cells m).toList = _
    rw [hz2]
    apply List.ext_getElem
    · rw [frs_len]
      simp [Builtin.zeroCells, flat_eq]
    · intro i h1 h2
      rw [frs_len, List.length_replicate] at h2
      have hd : i / 6 < m := (Nat.div_lt_iff_lt_mul (by omega)).2 h2
      have hm : i % 6 < 6 := Nat.mod_lt _ (by omega)
      have e : i = i / 6 * 6 + i % 6 := by omega
      have h3 := frs_cell (l := List.replicate m fr0) (i := i / 6) (f := fr0) (by rw [List.getElem?_replicate, if_pos hd]) hm
      rw [← e] at h3
      have h4 := (List.getElem?_eq_some_iff.1 (h3.trans (List.getElem?_eq_getElem (by rw [frC_len]; exact hm)))).2
      rw [h4]
      simp only [Builtin.zeroCells, Array.toList_map, List.getElem_map, Array.getElem_toList, Array.getElem_range, List.size_toArray]
      have h6 : (flat (frC fr0)).length = 6 := frC_len _
      rw [getElem!_pos _ _ (by rw [List.size_toArray, h6]; exact hm)]
      simp [h6]
abbrev hC (gK : Nat) : Value := .pointer (some ⟨gK, 0, none⟩)
theorem cnewNo_t (gV : Nat) (a : Int) (ha : a < 8 ∨ 64 < a) : Triple Try.prog 30 #[hD gV, .int .i64 a] [] (RVal (.tuple #[.pointer none, .int .i64 1])) := by
  by_cases h : a < 8
  · skip
    refine Triple.enter Try.func30 rfl Try.ntmps30 rfl (fun W => ?_)
    dsimp only [argsF, Nat.reduceAdd]
    repeat' (first
     | refine WPl.nil ?_ | refine WPq.then ?_ | refine WPq.thenR ?_ | refine WPq.thenE ?_ | refine WPq.blockN ?_ | refine WPq.blockR ?_ | refine WPq.blockE ?_ | refine WPq.blockO rfl ?_ | refine WPc.seq ?_ | refine WPc.block ?_ | refine WPc.ret ?_ | refine WPc.exit ?_ | refine WPc.skip ?_ | refine WPc.region ?_
     | (refine isCond ?_; first | refine WPc.cT ?_ | refine WPc.cF ?_ | (refine WPc.cQ (fun hc => ?_) (fun hc => ?_) <;> try exact prA))
     | (refine isD 7 ?_; refine WPl.rdX (readP) ?_)
     | (refine isD 10 ?_; refine WPl.rdX (ReadR.binE rfl rfl BinR.lss (congrArg Value.bool (decide_eq_true h))) ?_)
     | (refine isMk ?_; refine WPl.mk fun v hv => ?_)
     | (refine isOp ?_; first | refine WPl.rd ?_ | refine WPl.sk ?_ | refine WPl.rdB ?_)
     | (refine isBx ?_; refine WPl.nw fun g => ?_)
     | (show WPl _ _ _ _ _ _ _ (⟨_, .indexAddr _ _ _, _, _, _, _⟩ :: _) _; refine WPl.rdX (ReadR.indexE rfl rfl hasA (by first | assumption | omega)) ?_)
     | (show WPl _ _ _ _ _ _ _ (⟨_, .fieldAddr _ _ _, _, _, _, _⟩ :: _) _; refine WPl.rdX (ReadR.fieldE rfl hasA (by first | assumption | omega)) ?_)
     | (show WPl _ _ _ _ _ _ _ (⟨_, .load _ _, _, _, _, _⟩ :: _) _; first | refine WPl.rdX (ReadR.loadE rfl hasA (by assumption)) ?_ | refine WPl.rdX (ReadR.loadES (by assumption) (by first | assumption | omega) rfl hasA) ?_)
     | (show WPl _ _ _ _ _ _ _ (⟨_, .slice _ _ _ _ _, _, _, _, _⟩ :: _) _; first | refine WPl.rdX (ReadR.sliceH rfl rfl hasA (by omega)) ?_ | refine WPl.rdX (ReadR.sliceL rfl rfl hasA (by omega)) ?_ | refine WPl.rdX (ReadR.sliceLH rfl rfl rfl hasA (by omega) (by omega)) ?_)
     | (refine WPl.spQ (fun hc => ?_) (fun hc => ?_) <;> try exact prA)
     | fail)
    all_goals exact WPq.dV
  · have h2 : a > 64 := by omega
    refine Triple.enter Try.func30 rfl Try.ntmps30 rfl (fun W => ?_)
    dsimp only [argsF, Nat.reduceAdd]
    repeat' (first
     | refine WPl.nil ?_ | refine WPq.then ?_ | refine WPq.thenR ?_ | refine WPq.thenE ?_ | refine WPq.blockN ?_ | refine WPq.blockR ?_ | refine WPq.blockE ?_ | refine WPq.blockO rfl ?_ | refine WPc.seq ?_ | refine WPc.block ?_ | refine WPc.ret ?_ | refine WPc.exit ?_ | refine WPc.skip ?_ | refine WPc.region ?_
     | (refine isCond ?_; first | refine WPc.cT ?_ | refine WPc.cF ?_ | (refine WPc.cQ (fun hc => ?_) (fun hc => ?_) <;> try exact prA))
     | (refine isD 7 ?_; refine WPl.rdX (readP) ?_)
     | (refine isD 10 ?_; refine WPl.rdX (ReadR.binE rfl rfl BinR.lss (congrArg Value.bool (decide_eq_false h))) ?_)
     | (refine isD 14 ?_; refine WPl.rdX (ReadR.binE rfl rfl BinR.gtr (congrArg Value.bool (decide_eq_true h2))) ?_)
     | (refine isMk ?_; refine WPl.mk fun v hv => ?_)
     | (refine isOp ?_; first | refine WPl.rd ?_ | refine WPl.sk ?_ | refine WPl.rdB ?_)
     | (refine isBx ?_; refine WPl.nw fun g => ?_)
     | (show WPl _ _ _ _ _ _ _ (⟨_, .indexAddr _ _ _, _, _, _, _⟩ :: _) _; refine WPl.rdX (ReadR.indexE rfl rfl hasA (by first | assumption | omega)) ?_)
     | (show WPl _ _ _ _ _ _ _ (⟨_, .fieldAddr _ _ _, _, _, _, _⟩ :: _) _; refine WPl.rdX (ReadR.fieldE rfl hasA (by first | assumption | omega)) ?_)
     | (show WPl _ _ _ _ _ _ _ (⟨_, .load _ _, _, _, _, _⟩ :: _) _; first | refine WPl.rdX (ReadR.loadE rfl hasA (by assumption)) ?_ | refine WPl.rdX (ReadR.loadES (by assumption) (by first | assumption | omega) rfl hasA) ?_)
     | (show WPl _ _ _ _ _ _ _ (⟨_, .slice _ _ _ _ _, _, _, _, _⟩ :: _) _; first | refine WPl.rdX (ReadR.sliceH rfl rfl hasA (by omega)) ?_ | refine WPl.rdX (ReadR.sliceL rfl rfl hasA (by omega)) ?_ | refine WPl.rdX (ReadR.sliceLH rfl rfl rfl hasA (by omega) (by omega)) ?_)
     | (refine WPl.spQ (fun hc => ?_) (fun hc => ?_) <;> try exact prA)
     | fail)
    all_goals exact WPq.dV
def RNewC (gV m : Nat) : Value → List Asn → Prop := fun v Γ => ∃ gK vF C, v = .tuple #[hC gK, .int .i64 0] ∧ vF.oneCell' = true ∧ C.vw = ⟨List.replicate m none, 0⟩ ∧ (∀ n, CInv n m 0 C) ∧ Γ = chA gK gV vF C
theorem cnew_t (gV m : Nat) (h8 : 8 ≤ m) (hm : m ≤ 64) : Triple Try.prog 30 #[hD gV, .int .i64 (m : Int)] [] (RNewC gV m) := by
  have h1 : ¬ (m : Int) < 8 := by omega
  have h2 : ¬ (m : Int) > 64 := by omega
  have hcl := clr_frs m
  refine Triple.enter Try.func30 rfl Try.ntmps30 rfl (fun W => ?_)
  dsimp only [argsF, Nat.reduceAdd]
  repeat' (first
   | refine WPl.nil ?_ | refine WPq.then ?_ | refine WPq.thenR ?_ | refine WPq.thenE ?_ | refine WPq.blockN ?_ | refine WPq.blockR ?_ | refine WPq.blockE ?_ | refine WPq.blockO rfl ?_ | refine WPc.seq ?_ | refine WPc.block ?_ | refine WPc.ret ?_ | refine WPc.exit ?_ | refine WPc.skip ?_ | refine WPc.region ?_
   | (refine isCond ?_; first | refine WPc.cT ?_ | refine WPc.cF ?_ | (refine WPc.cQ (fun hc => ?_) (fun hc => ?_) <;> try exact prA))
   | (refine isD 7 ?_; refine WPl.rdX (readP) ?_)
   | (refine isD 10 ?_; refine WPl.rdX (ReadR.binE rfl rfl BinR.lss (congrArg Value.bool (decide_eq_false h1))) ?_)
   | (refine isD 14 ?_; refine WPl.rdX (ReadR.binE rfl rfl BinR.gtr (congrArg Value.bool (decide_eq_false h2))) ?_)
   | (refine isD 18 ?_; refine WPl.mkN m (by omega) fun vF hvF => ?_)
   | (refine isD 20 ?_; refine WPl.boxC (cxc gV vF 0) (.one1 rfl (.one1 hvF (.one1 rfl .nil))) rfl (fun gK => ?_))
   | (refine isMk ?_; refine WPl.mk fun v hv => ?_)
   | (refine isOp ?_; first | refine WPl.rd ?_ | refine WPl.sk ?_ | refine WPl.rdB ?_)
   | (refine isBx ?_; refine WPl.nw fun g => ?_)
   | (show WPl _ _ _ _ _ _ _ (⟨_, .indexAddr _ _ _, _, _, _, _⟩ :: _) _; refine WPl.rdX (ReadR.indexE rfl rfl hasA (by first | assumption | omega)) ?_)
   | (show WPl _ _ _ _ _ _ _ (⟨_, .fieldAddr _ _ _, _, _, _, _⟩ :: _) _; refine WPl.rdX (ReadR.fieldE rfl hasA (by first | assumption | omega)) ?_)
   | (show WPl _ _ _ _ _ _ _ (⟨_, .load _ _, _, _, _, _⟩ :: _) _; first | refine WPl.rdX (ReadR.loadE rfl hasA (by assumption)) ?_ | refine WPl.rdX (ReadR.loadES (by assumption) (by first | assumption | omega) rfl hasA) ?_)
   | (show WPl _ _ _ _ _ _ _ (⟨_, .slice _ _ _ _ _, _, _, _, _⟩ :: _) _; first | refine WPl.rdX (ReadR.sliceH rfl rfl hasA (by omega)) ?_ | refine WPl.rdX (ReadR.sliceL rfl rfl hasA (by omega)) ?_ | refine WPl.rdX (ReadR.sliceLH rfl rfl rfl hasA (by omega) (by omega)) ?_)
   | (refine WPl.spQ (fun hc => ?_) (fun hc => ?_) <;> try exact prA)
   | fail)
  refine WPq.vault0 ?_
  rw [hcl]
  refine WPq.dX (ho := ownsW) (vs := [hC gK, .int .i64 0]) [bx gK 86 (cxc gV vF 0), rowN 90 6 vF m (frs (List.replicate m fr0)), vault []] ⟨gK, vF, ⟨List.replicate m fr0, 0, []⟩, rfl, hvF, ?_, fun n => ⟨List.length_replicate, by show 0 < m; omega, fun f hf => ?_⟩, ?_⟩
  · show Cv.mk ((List.replicate m fr0).map Frm.vw) 0 = _
    rw [List.map_replicate]; rfl
  · rw [List.eq_of_mem_replicate hf]; exact .zero
  · show _ = [_, rowN _ 6 vF (List.replicate m fr0).length _, _]
    rw [List.length_replicate]; rfl
theorem find_some {α : Type} {p : α → Bool} : ∀ {l : List α} {i : Nat} {f : α}, l[i]? = some f → p f = true → (∀ j g, j < i → l[j]? = some g → p g = false) → l.findIdx? p = some i
  | [], _, _, h, _, _ => by cases h
  | a :: l, 0, f, h, hp, _ => by
    have : a = f := by simpa using h
    subst this
    rw [List.findIdx?_cons, hp]; rfl
  | a :: l, i + 1, f, h, hp, hno => by
    have h0 := hno 0 a (by omega) rfl
    have ih := find_some (l := l) (i := i) (f := f) (by simpa using h) hp (fun j g hj hg => hno (j + 1) g (by omega) (by simpa using hg))
    rw [List.findIdx?_cons, h0, ih]; rfl
theorem find_none {α : Type} {p : α → Bool} : ∀ {l : List α}, (∀ (j : Nat) (g : α), l[j]? = some g → p g = false) → l.findIdx? p = none
  | [], _ => rfl
  | a :: l, hno => by
    have h0 := hno 0 a rfl
    have ih := find_none (l := l) (fun j g hg => hno (j + 1) g (by simpa using hg))
    rw [List.findIdx?_cons, h0, ih]; rfl
def atF (fs : List Frm) (no : Int) : Option Nat := fs.findIdx? fun f => f.full && decide (f.no = no)
def emptyF (fs : List Frm) : Option Nat := fs.findIdx? fun f => !f.full
section
variable (gK gV : Nat) (vF : Value) (hand : Int) (fs : List Frm)
theorem at_t (no : Int) (hm : fs.length ≤ 1000) : Triple Try.prog 56 #[hC gK, .int .i64 no] [rbx gK 86 (cxc gV vF hand), rdN vF fs.length (frs fs)] (RVal (fptr vF (atF fs no))) := by
  have hL := frs_len (l := fs)
  refine Triple.enter Try.func56 rfl Try.ntmps56 rfl (fun W => ?_)
  dsimp only [argsF, Nat.reduceAdd]
  repeat' (first
   | refine WPl.nil ?_ | refine WPq.then ?_ | refine WPq.thenR ?_ | refine WPq.thenE ?_ | refine WPq.blockN ?_ | refine WPq.blockR ?_ | refine WPq.blockE ?_ | refine WPq.blockO rfl ?_ | refine WPc.seq ?_ | refine WPc.block ?_ | refine WPc.ret ?_ | refine WPc.exit ?_ | refine WPc.skip ?_ | refine WPc.region ?_
   | (refine isCond ?_; first | refine WPc.cT ?_ | refine WPc.cF ?_ | (refine WPc.cQ (fun hc => ?_) (fun hc => ?_) <;> try exact prA))
   | (refine isD 8 ?_; refine WPl.rdX (readP) ?_)
   | (refine isD 12 ?_; refine WPl.rdX (ReadR.loadO memA rfl rfl) ?_)
   | (refine isOp ?_; first | refine WPl.rd ?_ | refine WPl.sk ?_ | refine WPl.rdB ?_)
   | (show WPl _ _ _ _ _ _ _ (⟨_, .indexAddr _ _ _, _, _, _, _⟩ :: _) _; refine WPl.rdX (ReadR.indexE rfl rfl hasA (by first | assumption | omega)) ?_)
   | (show WPl _ _ _ _ _ _ _ (⟨_, .fieldAddr _ _ _, _, _, _, _⟩ :: _) _; refine WPl.rdX (ReadR.fieldE rfl hasA (by first | assumption | omega)) ?_)
   | (show WPl _ _ _ _ _ _ _ (⟨_, .load _ _, _, _, _, _⟩ :: _) _; first | refine WPl.rdX (ReadR.loadE rfl hasA (by assumption)) ?_ | refine WPl.rdX (ReadR.loadES (by assumption) (by first | assumption | omega) rfl hasA) ?_)
   | (show WPl _ _ _ _ _ _ _ (⟨_, .slice _ _ _ _ _, _, _, _, _⟩ :: _) _; first | refine WPl.rdX (ReadR.sliceH rfl rfl hasA (by omega)) ?_ | refine WPl.rdX (ReadR.sliceL rfl rfl hasA (by omega)) ?_ | refine WPl.rdX (ReadR.sliceLH rfl rfl rfl hasA (by omega) (by omega)) ?_)
   | (refine WPl.spQ (fun hc => ?_) (fun hc => ?_) <;> try exact prA)
   | fail)
  first | refine WPc.loop (σ := Nat) (fun st => st ≤ fs.length ∧ ∀ j f, j < st → fs[j]? = some f → (f.full && decide (f.no = no)) = false) (fun st => [rbx gK 86 (cxc gV vF hand), rdN vF fs.length (frs fs)]) (fun st => [(0, hC gK), (1, .int .i64 no), (13, .int .i64 (fs.length : Int)), (14, .int .i64 (st : Int))]) (fun st => fs.length - st) (0) ?_ takesA frsA (fun st km hx hk => ?_)
  · exact ⟨Nat.zero_le _, fun j f hj => absurd hj (Nat.not_lt_zero _)⟩
  obtain ⟨i, rfl⟩ : ∃ i, i = st := ⟨_, rfl⟩
  obtain ⟨hi, hno⟩ := hx
  have hkm : km = fs.length - i := hk
  clear hk
  by_cases hlt : i < fs.length
  · obtain ⟨f, hf⟩ : ∃ f, fs[i]? = some f := ⟨_, List.getElem?_eq_getElem hlt⟩
    have c0 : (frs fs)[i * 6 + 0]? = some (.bool f.full) := frs_cell hf (by omega)
    have c3 : (frs fs)[i * 6 + 3]? = some (.int .i64 f.no) := frs_cell hf (by omega)
    have hnext : ∀ b, (f.full && decide (f.no = no)) = b → b = false → ∀ j g, j < i + 1 → fs[j]? = some g → (g.full && decide (g.no = no)) = false := by
      intro b hb hb2 j g hj hg
      by_cases hji : j = i
      · subst hji
        rw [hf] at hg
        cases hg
        rw [hb, hb2]
      · exact hno j g (by omega) hg
    cases hfu : f.full with
    | false =>
      rw [hfu] at c0
      repeat' (first
       | refine WPl.nil ?_ | refine WPq.then ?_ | refine WPq.thenR ?_ | refine WPq.thenE ?_ | refine WPq.blockN ?_ | refine WPq.blockR ?_ | refine WPq.blockE ?_ | refine WPq.blockO rfl ?_ | refine WPc.seq ?_ | refine WPc.block ?_ | refine WPc.ret ?_ | refine WPc.exit ?_ | refine WPc.skip ?_ | refine WPc.region ?_
       | (refine isCond ?_; first | refine WPc.cT ?_ | refine WPc.cF ?_ | (refine WPc.cQ (fun hc => ?_) (fun hc => ?_) <;> try first | exact prA | (exfalso; first | omega)))
       | (refine isD 20 ?_; refine WPl.rdX (ReadR.loadO memA rfl rfl) ?_)
       | (refine isD 22 ?_; refine WPl.rdX (ReadR.indexE (i := i) rfl rfl hasA hlt) ?_)
       | (refine isD 25 ?_; refine WPl.rdX (ReadR.fieldE rfl hasA (by omega)) ?_)
       | (refine isD 26 ?_; refine WPl.rdX (ReadR.loadE rfl hasA c0) ?_)
       | (refine isOp ?_; first | refine WPl.rd ?_ | refine WPl.sk ?_ | refine WPl.rdB ?_)
       | (show WPl _ _ _ _ _ _ _ (⟨_, .indexAddr _ _ _, _, _, _, _⟩ :: _) _; refine WPl.rdX (ReadR.indexE rfl rfl hasA (by first | assumption | omega)) ?_)
       | (show WPl _ _ _ _ _ _ _ (⟨_, .fieldAddr _ _ _, _, _, _, _⟩ :: _) _; refine WPl.rdX (ReadR.fieldE rfl hasA (by first | assumption | omega)) ?_)
       | (show WPl _ _ _ _ _ _ _ (⟨_, .load _ _, _, _, _, _⟩ :: _) _; first | refine WPl.rdX (ReadR.loadE rfl hasA (by assumption)) ?_ | refine WPl.rdX (ReadR.loadES (by assumption) (by first | assumption | omega) rfl hasA) ?_)
       | (show WPl _ _ _ _ _ _ _ (⟨_, .slice _ _ _ _ _, _, _, _, _⟩ :: _) _; first | refine WPl.rdX (ReadR.sliceH rfl rfl hasA (by omega)) ?_ | refine WPl.rdX (ReadR.sliceL rfl rfl hasA (by omega)) ?_ | refine WPl.rdX (ReadR.sliceLH rfl rfl rfl hasA (by omega) (by omega)) ?_)
       | (refine WPl.spQ (fun hc => ?_) (fun hc => ?_) <;> try first | exact prA | (exfalso; first | omega))
       | fail)
      exact WPq.rnd (i + 1) ⟨hlt, hnext _ rfl (by rw [hfu]; rfl)⟩ (by omega)
    | true =>
      rw [hfu] at c0
      by_cases hn : f.no = no
      · have hat : atF fs no = some i := find_some hf (by rw [hfu, decide_eq_true hn]; rfl) hno
        rw [hat]
        repeat' (first
         | refine WPl.nil ?_ | refine WPq.then ?_ | refine WPq.thenR ?_ | refine WPq.thenE ?_ | refine WPq.blockN ?_ | refine WPq.blockR ?_ | refine WPq.blockE ?_ | refine WPq.blockO rfl ?_ | refine WPc.seq ?_ | refine WPc.block ?_ | refine WPc.ret ?_ | refine WPc.exit ?_ | refine WPc.skip ?_ | refine WPc.region ?_
         | (refine isCond ?_; first | refine WPc.cT ?_ | refine WPc.cF ?_ | (refine WPc.cQ (fun hc => ?_) (fun hc => ?_) <;> try first | exact prA | (exfalso; first | omega)))
         | (refine isD 20 ?_; refine WPl.rdX (ReadR.loadO memA rfl rfl) ?_)
         | (refine isD 22 ?_; refine WPl.rdX (ReadR.indexE (i := i) rfl rfl hasA hlt) ?_)
         | (refine isD 25 ?_; refine WPl.rdX (ReadR.fieldE rfl hasA (by omega)) ?_)
         | (refine isD 26 ?_; refine WPl.rdX (ReadR.loadE rfl hasA c0) ?_)
         | (refine isD 30 ?_; refine WPl.rdX (ReadR.fieldE rfl hasA (by omega)) ?_)
         | (refine isD 31 ?_; refine WPl.rdX (ReadR.loadE rfl hasA c3) ?_)
         | (refine isD 33 ?_; refine WPl.rdX (ReadR.binE rfl rfl BinR.eql (congrArg Value.bool (decide_eq_true hn))) ?_)
         | (refine isOp ?_; first | refine WPl.rd ?_ | refine WPl.sk ?_ | refine WPl.rdB ?_)
         | (show WPl _ _ _ _ _ _ _ (⟨_, .indexAddr _ _ _, _, _, _, _⟩ :: _) _; refine WPl.rdX (ReadR.indexE rfl rfl hasA (by first | assumption | omega)) ?_)
         | (show WPl _ _ _ _ _ _ _ (⟨_, .fieldAddr _ _ _, _, _, _, _⟩ :: _) _; refine WPl.rdX (ReadR.fieldE rfl hasA (by first | assumption | omega)) ?_)
         | (show WPl _ _ _ _ _ _ _ (⟨_, .load _ _, _, _, _, _⟩ :: _) _; first | refine WPl.rdX (ReadR.loadE rfl hasA (by assumption)) ?_ | refine WPl.rdX (ReadR.loadES (by assumption) (by first | assumption | omega) rfl hasA) ?_)
         | (show WPl _ _ _ _ _ _ _ (⟨_, .slice _ _ _ _ _, _, _, _, _⟩ :: _) _; first | refine WPl.rdX (ReadR.sliceH rfl rfl hasA (by omega)) ?_ | refine WPl.rdX (ReadR.sliceL rfl rfl hasA (by omega)) ?_ | refine WPl.rdX (ReadR.sliceLH rfl rfl rfl hasA (by omega) (by omega)) ?_)
         | (refine WPl.spQ (fun hc => ?_) (fun hc => ?_) <;> try first | exact prA | (exfalso; first | omega))
         | fail)
        exact WPq.dV
      · skip
        repeat' (first
         | refine WPl.nil ?_ | refine WPq.then ?_ | refine WPq.thenR ?_ | refine WPq.thenE ?_ | refine WPq.blockN ?_ | refine WPq.blockR ?_ | refine WPq.blockE ?_ | refine WPq.blockO rfl ?_ | refine WPc.seq ?_ | refine WPc.block ?_ | refine WPc.ret ?_ | refine WPc.exit ?_ | refine WPc.skip ?_ | refine WPc.region ?_
         | (refine isCond ?_; first | refine WPc.cT ?_ | refine WPc.cF ?_ | (refine WPc.cQ (fun hc => ?_) (fun hc => ?_) <;> try first | exact prA | (exfalso; first | omega)))
         | (refine isD 20 ?_; refine WPl.rdX (ReadR.loadO memA rfl rfl) ?_)
         | (refine isD 22 ?_; refine WPl.rdX (ReadR.indexE (i := i) rfl rfl hasA hlt) ?_)
         | (refine isD 25 ?_; refine WPl.rdX (ReadR.fieldE rfl hasA (by omega)) ?_)
         | (refine isD 26 ?_; refine WPl.rdX (ReadR.loadE rfl hasA c0) ?_)
         | (refine isD 30 ?_; refine WPl.rdX (ReadR.fieldE rfl hasA (by omega)) ?_)
         | (refine isD 31 ?_; refine WPl.rdX (ReadR.loadE rfl hasA c3) ?_)
         | (refine isD 33 ?_; refine WPl.rdX (ReadR.binE rfl rfl BinR.eql (congrArg Value.bool (decide_eq_false hn))) ?_)
         | (refine isOp ?_; first | refine WPl.rd ?_ | refine WPl.sk ?_ | refine WPl.rdB ?_)
         | (show WPl _ _ _ _ _ _ _ (⟨_, .indexAddr _ _ _, _, _, _, _⟩ :: _) _; refine WPl.rdX (ReadR.indexE rfl rfl hasA (by first | assumption | omega)) ?_)
         | (show WPl _ _ _ _ _ _ _ (⟨_, .fieldAddr _ _ _, _, _, _, _⟩ :: _) _; refine WPl.rdX (ReadR.fieldE rfl hasA (by first | assumption | omega)) ?_)
         | (show WPl _ _ _ _ _ _ _ (⟨_, .load _ _, _, _, _, _⟩ :: _) _; first | refine WPl.rdX (ReadR.loadE rfl hasA (by assumption)) ?_ | refine WPl.rdX (ReadR.loadES (by assumption) (by first | assumption | omega) rfl hasA) ?_)
         | (show WPl _ _ _ _ _ _ _ (⟨_, .slice _ _ _ _ _, _, _, _, _⟩ :: _) _; first | refine WPl.rdX (ReadR.sliceH rfl rfl hasA (by omega)) ?_ | refine WPl.rdX (ReadR.sliceL rfl rfl hasA (by omega)) ?_ | refine WPl.rdX (ReadR.sliceLH rfl rfl rfl hasA (by omega) (by omega)) ?_)
         | (refine WPl.spQ (fun hc => ?_) (fun hc => ?_) <;> try first | exact prA | (exfalso; first | omega))
         | fail)
        exact WPq.rnd (i + 1) ⟨hlt, hnext _ rfl (by rw [hfu, decide_eq_false hn]; rfl)⟩ (by omega)
  · have hat : atF fs no = none := find_none fun j g hg => hno j g (by have := (List.getElem?_eq_some_iff.1 hg).1; omega) hg
    rw [hat]
    repeat' (first
     | refine WPl.nil ?_ | refine WPq.then ?_ | refine WPq.thenR ?_ | refine WPq.thenE ?_ | refine WPq.blockN ?_ | refine WPq.blockR ?_ | refine WPq.blockE ?_ | refine WPq.blockO rfl ?_ | refine WPc.seq ?_ | refine WPc.block ?_ | refine WPc.ret ?_ | refine WPc.exit ?_ | refine WPc.skip ?_ | refine WPc.region ?_
     | (refine isCond ?_; first | refine WPc.cT ?_ | refine WPc.cF ?_ | (refine WPc.cQ (fun hc => ?_) (fun hc => ?_) <;> try first | exact prA | (exfalso; first | omega)))
     | (refine isOp ?_; first | refine WPl.rd ?_ | refine WPl.sk ?_ | refine WPl.rdB ?_)
     | (show WPl _ _ _ _ _ _ _ (⟨_, .indexAddr _ _ _, _, _, _, _⟩ :: _) _; refine WPl.rdX (ReadR.indexE rfl rfl hasA (by first | assumption | omega)) ?_)
     | (show WPl _ _ _ _ _ _ _ (⟨_, .fieldAddr _ _ _, _, _, _, _⟩ :: _) _; refine WPl.rdX (ReadR.fieldE rfl hasA (by first | assumption | omega)) ?_)
     | (show WPl _ _ _ _ _ _ _ (⟨_, .load _ _, _, _, _, _⟩ :: _) _; first | refine WPl.rdX (ReadR.loadE rfl hasA (by assumption)) ?_ | refine WPl.rdX (ReadR.loadES (by assumption) (by first | assumption | omega) rfl hasA) ?_)
     | (show WPl _ _ _ _ _ _ _ (⟨_, .slice _ _ _ _ _, _, _, _, _⟩ :: _) _; first | refine WPl.rdX (ReadR.sliceH rfl rfl hasA (by omega)) ?_ | refine WPl.rdX (ReadR.sliceL rfl rfl hasA (by omega)) ?_ | refine WPl.rdX (ReadR.sliceLH rfl rfl rfl hasA (by omega) (by omega)) ?_)
     | (refine WPl.spQ (fun hc => ?_) (fun hc => ?_) <;> try first | exact prA | (exfalso; first | omega))
     | fail)
    exact WPq.dV
theorem empty_t (hm : fs.length ≤ 1000) : Triple Try.prog 73 #[hC gK] [rbx gK 86 (cxc gV vF hand), rdN vF fs.length (frs fs)] (RVal (fptr vF (emptyF fs))) := by
  have hL := frs_len (l := fs)
  refine Triple.enter Try.func73 rfl Try.ntmps73 rfl (fun W => ?_)
  dsimp only [argsF, Nat.reduceAdd]
  repeat' (first
   | refine WPl.nil ?_ | refine WPq.then ?_ | refine WPq.thenR ?_ | refine WPq.thenE ?_ | refine WPq.blockN ?_ | refine WPq.blockR ?_ | refine WPq.blockE ?_ | refine WPq.blockO rfl ?_ | refine WPc.seq ?_ | refine WPc.block ?_ | refine WPc.ret ?_ | refine WPc.exit ?_ | refine WPc.skip ?_ | refine WPc.region ?_
   | (refine isCond ?_; first | refine WPc.cT ?_ | refine WPc.cF ?_ | (refine WPc.cQ (fun hc => ?_) (fun hc => ?_) <;> try exact prA))
   | (refine isD 7 ?_; refine WPl.rdX (ReadR.loadO memA rfl rfl) ?_)
   | (refine isOp ?_; first | refine WPl.rd ?_ | refine WPl.sk ?_ | refine WPl.rdB ?_)
   | (show WPl _ _ _ _ _ _ _ (⟨_, .indexAddr _ _ _, _, _, _, _⟩ :: _) _; refine WPl.rdX (ReadR.indexE rfl rfl hasA (by first | assumption | omega)) ?_)
   | (show WPl _ _ _ _ _ _ _ (⟨_, .fieldAddr _ _ _, _, _, _, _⟩ :: _) _; refine WPl.rdX (ReadR.fieldE rfl hasA (by first | assumption | omega)) ?_)
   | (show WPl _ _ _ _ _ _ _ (⟨_, .load _ _, _, _, _, _⟩ :: _) _; first | refine WPl.rdX (ReadR.loadE rfl hasA (by assumption)) ?_ | refine WPl.rdX (ReadR.loadES (by assumption) (by first | assumption | omega) rfl hasA) ?_)
   | (show WPl _ _ _ _ _ _ _ (⟨_, .slice _ _ _ _ _, _, _, _, _⟩ :: _) _; first | refine WPl.rdX (ReadR.sliceH rfl rfl hasA (by omega)) ?_ | refine WPl.rdX (ReadR.sliceL rfl rfl hasA (by omega)) ?_ | refine WPl.rdX (ReadR.sliceLH rfl rfl rfl hasA (by omega) (by omega)) ?_)
   | (refine WPl.spQ (fun hc => ?_) (fun hc => ?_) <;> try exact prA)
   | fail)
  first | refine WPc.loop (σ := Nat) (fun st => st ≤ fs.length ∧ ∀ j f, j < st → fs[j]? = some f → (!f.full) = false) (fun st => [rbx gK 86 (cxc gV vF hand), rdN vF fs.length (frs fs)]) (fun st => [(0, hC gK), (8, .int .i64 (fs.length : Int)), (9, .int .i64 (st : Int))]) (fun st => fs.length - st) (0) ?_ takesA frsA (fun st km hx hk => ?_)
  · exact ⟨Nat.zero_le _, fun j f hj => absurd hj (Nat.not_lt_zero _)⟩
  obtain ⟨i, rfl⟩ : ∃ i, i = st := ⟨_, rfl⟩
  obtain ⟨hi, hno⟩ := hx
  have hkm : km = fs.length - i := hk
  clear hk
  by_cases hlt : i < fs.length
  · obtain ⟨f, hf⟩ : ∃ f, fs[i]? = some f := ⟨_, List.getElem?_eq_getElem hlt⟩
    have c0 : (frs fs)[i * 6 + 0]? = some (.bool f.full) := frs_cell hf (by omega)
    cases hfu : f.full with
    | false =>
      have hat : emptyF fs = some i := find_some hf (by rw [hfu]; rfl) hno
      rw [hfu] at c0
      rw [hat]
      repeat' (first
       | refine WPl.nil ?_ | refine WPq.then ?_ | refine WPq.thenR ?_ | refine WPq.thenE ?_ | refine WPq.blockN ?_ | refine WPq.blockR ?_ | refine WPq.blockE ?_ | refine WPq.blockO rfl ?_ | refine WPc.seq ?_ | refine WPc.block ?_ | refine WPc.ret ?_ | refine WPc.exit ?_ | refine WPc.skip ?_ | refine WPc.region ?_
       | (refine isCond ?_; first | refine WPc.cT ?_ | refine WPc.cF ?_ | (refine WPc.cQ (fun hc => ?_) (fun hc => ?_) <;> try first | exact prA | (exfalso; first | omega)))
       | (refine isD 15 ?_; refine WPl.rdX (ReadR.loadO memA rfl rfl) ?_)
       | (refine isD 24 ?_; refine WPl.rdX (ReadR.loadO memA rfl rfl) ?_)
       | (refine isD 17 ?_; refine WPl.rdX (ReadR.indexE (i := i) rfl rfl hasA hlt) ?_)
       | (refine isD 26 ?_; refine WPl.rdX (ReadR.indexE (i := i) rfl rfl hasA hlt) ?_)
       | (refine isD 18 ?_; refine WPl.rdX (ReadR.fieldE rfl hasA (by omega)) ?_)
       | (refine isD 19 ?_; refine WPl.rdX (ReadR.loadE rfl hasA c0) ?_)
       | (refine isOp ?_; first | refine WPl.rd ?_ | refine WPl.sk ?_ | refine WPl.rdB ?_)
       | (show WPl _ _ _ _ _ _ _ (⟨_, .indexAddr _ _ _, _, _, _, _⟩ :: _) _; refine WPl.rdX (ReadR.indexE rfl rfl hasA (by first | assumption | omega)) ?_)
       | (show WPl _ _ _ _ _ _ _ (⟨_, .fieldAddr _ _ _, _, _, _, _⟩ :: _) _; refine WPl.rdX (ReadR.fieldE rfl hasA (by first | assumption | omega)) ?_)
       | (show WPl _ _ _ _ _ _ _ (⟨_, .load _ _, _, _, _, _⟩ :: _) _; first | refine WPl.rdX (ReadR.loadE rfl hasA (by assumption)) ?_ | refine WPl.rdX (ReadR.loadES (by assumption) (by first | assumption | omega) rfl hasA) ?_)
       | (show WPl _ _ _ _ _ _ _ (⟨_, .slice _ _ _ _ _, _, _, _, _⟩ :: _) _; first | refine WPl.rdX (ReadR.sliceH rfl rfl hasA (by omega)) ?_ | refine WPl.rdX (ReadR.sliceL rfl rfl hasA (by omega)) ?_ | refine WPl.rdX (ReadR.sliceLH rfl rfl rfl hasA (by omega) (by omega)) ?_)
       | (refine WPl.spQ (fun hc => ?_) (fun hc => ?_) <;> try first | exact prA | (exfalso; first | omega))
       | fail)
      exact WPq.dV
    | true =>
      rw [hfu] at c0
      repeat' (first
       | refine WPl.nil ?_ | refine WPq.then ?_ | refine WPq.thenR ?_ | refine WPq.thenE ?_ | refine WPq.blockN ?_ | refine WPq.blockR ?_ | refine WPq.blockE ?_ | refine WPq.blockO rfl ?_ | refine WPc.seq ?_ | refine WPc.block ?_ | refine WPc.ret ?_ | refine WPc.exit ?_ | refine WPc.skip ?_ | refine WPc.region ?_
       | (refine isCond ?_; first | refine WPc.cT ?_ | refine WPc.cF ?_ | (refine WPc.cQ (fun hc => ?_) (fun hc => ?_) <;> try first | exact prA | (exfalso; first | omega)))
       | (refine isD 15 ?_; refine WPl.rdX (ReadR.loadO memA rfl rfl) ?_)
       | (refine isD 17 ?_; refine WPl.rdX (ReadR.indexE (i := i) rfl rfl hasA hlt) ?_)
       | (refine isD 18 ?_; refine WPl.rdX (ReadR.fieldE rfl hasA (by omega)) ?_)
       | (refine isD 19 ?_; refine WPl.rdX (ReadR.loadE rfl hasA c0) ?_)
       | (refine isOp ?_; first | refine WPl.rd ?_ | refine WPl.sk ?_ | refine WPl.rdB ?_)
       | (show WPl _ _ _ _ _ _ _ (⟨_, .indexAddr _ _ _, _, _, _, _⟩ :: _) _; refine WPl.rdX (ReadR.indexE rfl rfl hasA (by first | assumption | omega)) ?_)
       | (show WPl _ _ _ _ _ _ _ (⟨_, .fieldAddr _ _ _, _, _, _, _⟩ :: _) _; refine WPl.rdX (ReadR.fieldE rfl hasA (by first | assumption | omega)) ?_)
       | (show WPl _ _ _ _ _ _ _ (⟨_, .load _ _, _, _, _, _⟩ :: _) _; first | refine WPl.rdX (ReadR.loadE rfl hasA (by assumption)) ?_ | refine WPl.rdX (ReadR.loadES (by assumption) (by first | assumption | omega) rfl hasA) ?_)
       | (show WPl _ _ _ _ _ _ _ (⟨_, .slice _ _ _ _ _, _, _, _, _⟩ :: _) _; first | refine WPl.rdX (ReadR.sliceH rfl rfl hasA (by omega)) ?_ | refine WPl.rdX (ReadR.sliceL rfl rfl hasA (by omega)) ?_ | refine WPl.rdX (ReadR.sliceLH rfl rfl rfl hasA (by omega) (by omega)) ?_)
       | (refine WPl.spQ (fun hc => ?_) (fun hc => ?_) <;> try first | exact prA | (exfalso; first | omega))
       | fail)
      refine WPq.rnd (i + 1) ⟨hlt, fun j g hj hg => ?_⟩ (by omega)
      by_cases hji : j = i
      · subst hji
        rw [hf] at hg
        cases hg
        rw [hfu]; rfl
      · exact hno j g (by omega) hg
  · have hat : emptyF fs = none := find_none fun j g hg => hno j g (by have := (List.getElem?_eq_some_iff.1 hg).1; omega) hg
    rw [hat]
    repeat' (first
     | refine WPl.nil ?_ | refine WPq.then ?_ | refine WPq.thenR ?_ | refine WPq.thenE ?_ | refine WPq.blockN ?_ | refine WPq.blockR ?_ | refine WPq.blockE ?_ | refine WPq.blockO rfl ?_ | refine WPc.seq ?_ | refine WPc.block ?_ | refine WPc.ret ?_ | refine WPc.exit ?_ | refine WPc.skip ?_ | refine WPc.region ?_
     | (refine isCond ?_; first | refine WPc.cT ?_ | refine WPc.cF ?_ | (refine WPc.cQ (fun hc => ?_) (fun hc => ?_) <;> try first | exact prA | (exfalso; first | omega)))
     | (refine isOp ?_; first | refine WPl.rd ?_ | refine WPl.sk ?_ | refine WPl.rdB ?_)
     | (show WPl _ _ _ _ _ _ _ (⟨_, .indexAddr _ _ _, _, _, _, _⟩ :: _) _; refine WPl.rdX (ReadR.indexE rfl rfl hasA (by first | assumption | omega)) ?_)
     | (show WPl _ _ _ _ _ _ _ (⟨_, .fieldAddr _ _ _, _, _, _, _⟩ :: _) _; refine WPl.rdX (ReadR.fieldE rfl hasA (by first | assumption | omega)) ?_)
     | (show WPl _ _ _ _ _ _ _ (⟨_, .load _ _, _, _, _, _⟩ :: _) _; first | refine WPl.rdX (ReadR.loadE rfl hasA (by assumption)) ?_ | refine WPl.rdX (ReadR.loadES (by assumption) (by first | assumption | omega) rfl hasA) ?_)
     | (show WPl _ _ _ _ _ _ _ (⟨_, .slice _ _ _ _ _, _, _, _, _⟩ :: _) _; first | refine WPl.rdX (ReadR.sliceH rfl rfl hasA (by omega)) ?_ | refine WPl.rdX (ReadR.sliceL rfl rfl hasA (by omega)) ?_ | refine WPl.rdX (ReadR.sliceLH rfl rfl rfl hasA (by omega) (by omega)) ?_)
     | (refine WPl.spQ (fun hc => ?_) (fun hc => ?_) <;> try first | exact prA | (exfalso; first | omega))
     | fail)
    exact WPq.dV
end
end Go.Proofs.Ytepmikgjnmjheaa
/- Layer 5 (cache): contracts: victim, room. -/
namespace Go.Proofs.Ytepmikgjnmjheaa
open Go.RowKit
set_option linter.unusedSimpArgs false
set_option linter.unusedVariables false
set_option maxRecDepth 20000
set_option maxHeartbeats 4000000
attribute [local irreducible] WPc WPl WPq ReadR OpT BinR HasS bx rdN rowN Take Takes Prov Triple ResF BuildP Done ag Int.decLt Int.decLe Int.instDecidableEq
attribute [local irreducible] mp rmp rg rgo bag vrow secs mput mget mfind mdel intsV skeys vault frs
def unuse (f : Frm) : Frm := { f with used := false }
/-- What victim does: frames, the one that is found, the hand behind it. -/
def vicF (m : Nat) : Nat → List Frm → Nat → List Frm × Option (Nat × Nat)
  | 0, fs, _ => (fs, none)
  | t + 1, fs, k => match fs[k]? with
    | none => (fs, none)
    | some f => if 0 < f.pins then vicF m t fs ((k + 1) % m) else if f.used = true then vicF m t (fs.set k (unuse f)) ((k + 1) % m) else (fs, some (k, (k + 1) % m))
theorem vicF_len {m : Nat} : ∀ {t : Nat} {fs : List Frm} {k : Nat}, (vicF m t fs k).1.length = fs.length
  | 0, _, _ => rfl
  | t + 1, fs, k => by
    unfold vicF
    split
    · rfl
    · split
      · exact vicF_len
      · split
        · rw [vicF_len, List.length_set]
        · rfl
def vhand (h0 : Nat) (o : Option (Nat × Nat)) : Nat := match o with | some x => x.2 | none => h0
section
variable (gK gV : Nat) (vF : Value) (hand : Nat) (fs : List Frm)
theorem victim_t (m : Nat) (hm0 : 0 < m) (hm : m ≤ 1000) (hl : fs.length = m) (hh : hand < m) : Triple Try.prog 74 #[hC gK] [bx gK 86 (cxc gV vF (hand : Int)), rowN 90 6 vF m (frs fs)] (RTurns (fptr vF ((vicF m (2 * m) fs hand).2.map (·.1))) [bx gK 86 (cxc gV vF (vhand hand (vicF m (2 * m) fs hand).2 : Int)), rowN 90 6 vF m (frs (vicF m (2 * m) fs hand).1)]) := by
  have hmul : (2 : Int) * (m : Int) = ((2 * m : Nat) : Int) := by omega
  refine Triple.enter Try.func74 rfl Try.ntmps74 rfl (fun W => ?_)
  dsimp only [argsF, Nat.reduceAdd]
  repeat' (first
   | refine WPl.nil ?_ | refine WPq.then ?_ | refine WPq.thenR ?_ | refine WPq.thenE ?_ | refine WPq.blockN ?_ | refine WPq.blockR ?_ | refine WPq.blockE ?_ | refine WPq.blockO rfl ?_ | refine WPc.seq ?_ | refine WPc.block ?_ | refine WPc.ret ?_ | refine WPc.exit ?_ | refine WPc.skip ?_ | refine WPc.region ?_
   | (refine isCond ?_; first | refine WPc.cT ?_ | refine WPc.cF ?_ | (refine WPc.cQ (fun hc => ?_) (fun hc => ?_) <;> try exact prA))
   | (refine isD 14 ?_; refine WPl.rdX (ReadR.binE rfl rfl (BinR.mulI (by omega) (by omega)) (congrArg (Value.int .i64) hmul)) ?_)
   | (refine isOp ?_; first | refine WPl.rd ?_ | refine WPl.sk ?_ | refine WPl.rdB ?_)
   | (refine isSt ?_; first | refine WPl.st1 ?_ | refine WPl.stA ?_ | refine WPl.stEB ?_ | refine WPl.stRB ?_)
   | (show WPl _ _ _ _ _ _ _ (⟨_, .indexAddr _ _ _, _, _, _, _⟩ :: _) _; refine WPl.rdX (ReadR.indexE rfl rfl hasA (by first | assumption | omega)) ?_)
   | (show WPl _ _ _ _ _ _ _ (⟨_, .fieldAddr _ _ _, _, _, _, _⟩ :: _) _; refine WPl.rdX (ReadR.fieldE rfl hasA (by first | assumption | omega)) ?_)
   | (show WPl _ _ _ _ _ _ _ (⟨_, .load _ _, _, _, _, _⟩ :: _) _; first | refine WPl.rdX (ReadR.loadE rfl hasA (by assumption)) ?_ | refine WPl.rdX (ReadR.loadES (by assumption) (by first | assumption | omega) rfl hasA) ?_)
   | (show WPl _ _ _ _ _ _ _ (⟨_, .slice _ _ _ _ _, _, _, _, _⟩ :: _) _; first | refine WPl.rdX (ReadR.sliceH rfl rfl hasA (by omega)) ?_ | refine WPl.rdX (ReadR.sliceL rfl rfl hasA (by omega)) ?_ | refine WPl.rdX (ReadR.sliceLH rfl rfl rfl hasA (by omega) (by omega)) ?_)
   | (refine WPl.spQ (fun hc => ?_) (fun hc => ?_) <;> try exact prA)
   | fail)
  first | refine WPc.loop (σ := Nat × List Frm × Nat) (fun st => st.1 ≤ 2 * m ∧ st.2.1.length = m ∧ st.2.2 < m ∧ vicF m (2 * m) fs hand = vicF m (2 * m - st.1) st.2.1 st.2.2) (fun st => [bx gK 86 (cxc gV vF (hand : Int)), rowN 90 6 vF m (frs st.2.1)]) (fun st => [(0, hC gK), (3, .int .i64 (st.2.2 : Int)), (14, .int .i64 ((2 * m : Nat) : Int)), (15, .int .i64 (st.1 : Int))]) (fun st => 2 * m - st.1) ((0, fs, hand)) ?_ takesA frsA (fun st km hx hk => ?_)
  · exact ⟨Nat.zero_le _, hl, hh, rfl⟩
  obtain ⟨i, g, k⟩ := st
  obtain ⟨hi, hgl, hkm2, heq⟩ := hx
  dsimp only at hi hgl hkm2 heq hk ⊢
  have hkm : km = 2 * m - i := hk
  clear hk
  have hL := frs_len (l := g)
  by_cases hlt : i < 2 * m
  · obtain ⟨f, hf⟩ : ∃ f, g[k]? = some f := ⟨_, List.getElem?_eq_getElem (by omega)⟩
    have c2 : (frs g)[k * 6 + 2]? = some (.bool f.used) := frs_cell hf (by omega)
    have c4 : (frs g)[k * 6 + 4]? = some (.int .i64 f.pins) := frs_cell hf (by omega)
    have hlt' : (i : Int) < ((2 * m : Nat) : Int) := by omega
    have hrem : ((k : Int) + 1) % (m : Int) = (((k + 1) % m : Nat) : Int) := by
      rw [Int.natCast_emod]; rfl
    have hnx : (k + 1) % m < m := Nat.mod_lt _ hm0
    obtain ⟨t, ht⟩ : ∃ t, 2 * m - i = t + 1 := ⟨2 * m - i - 1, by omega⟩
    have ht2 : 2 * m - (i + 1) = t := by omega
    have hv : vicF m (t + 1) g k = if 0 < f.pins then vicF m t g ((k + 1) % m) else if f.used = true then vicF m t (g.set k (unuse f)) ((k + 1) % m) else (g, some (k, (k + 1) % m)) := by
      show (match g[k]? with | none => _ | some f => _) = _
      rw [hf]
    rw [ht, hv] at heq
    by_cases hp : 0 < f.pins
    · rw [if_pos hp] at heq
      have hp' : f.pins > 0 := hp
      repeat' (first
       | refine WPl.nil ?_ | refine WPq.then ?_ | refine WPq.thenR ?_ | refine WPq.thenE ?_ | refine WPq.blockN ?_ | refine WPq.blockR ?_ | refine WPq.blockE ?_ | refine WPq.blockO rfl ?_ | refine WPc.seq ?_ | refine WPc.block ?_ | refine WPc.ret ?_ | refine WPc.exit ?_ | refine WPc.skip ?_ | refine WPc.region ?_
       | (refine isCond ?_; first | refine WPc.cT ?_ | refine WPc.cF ?_ | (refine WPc.cQ (fun hc => ?_) (fun hc => ?_) <;> try exact prA))
       | (refine isD 16 ?_; refine WPl.rdX (ReadR.binE rfl rfl BinR.lss (congrArg Value.bool (decide_eq_true hlt'))) ?_)
       | (refine isD 22 ?_; refine WPl.rdX (ReadR.indexE (i := k) rfl rfl hasA hkm2) ?_)
       | (refine isD 30 ?_; refine WPl.rdX (ReadR.binE rfl rfl (BinR.remK (by omega) (by omega)) (congrArg (Value.int .i64) hrem)) ?_)
       | (refine isD 39 ?_; refine WPl.rdX (ReadR.fieldE rfl hasA (by omega)) ?_)
       | (refine isD 40 ?_; refine WPl.rdX (ReadR.loadE rfl hasA c4) ?_)
       | (refine isD 41 ?_; refine WPl.rdX (ReadR.binE rfl rfl BinR.gtr (congrArg Value.bool (decide_eq_true hp'))) ?_)
       | (refine isOp ?_; first | refine WPl.rd ?_ | refine WPl.sk ?_ | refine WPl.rdB ?_)
       | (refine isSt ?_; first | refine WPl.st1 ?_ | refine WPl.stA ?_ | refine WPl.stEB ?_ | refine WPl.stRB ?_)
       | (show WPl _ _ _ _ _ _ _ (⟨_, .indexAddr _ _ _, _, _, _, _⟩ :: _) _; refine WPl.rdX (ReadR.indexE rfl rfl hasA (by first | assumption | omega)) ?_)
       | (show WPl _ _ _ _ _ _ _ (⟨_, .fieldAddr _ _ _, _, _, _, _⟩ :: _) _; refine WPl.rdX (ReadR.fieldE rfl hasA (by first | assumption | omega)) ?_)
       | (show WPl _ _ _ _ _ _ _ (⟨_, .load _ _, _, _, _, _⟩ :: _) _; first | refine WPl.rdX (ReadR.loadE rfl hasA (by assumption)) ?_ | refine WPl.rdX (ReadR.loadES (by assumption) (by first | assumption | omega) rfl hasA) ?_)
       | (show WPl _ _ _ _ _ _ _ (⟨_, .slice _ _ _ _ _, _, _, _, _⟩ :: _) _; first | refine WPl.rdX (ReadR.sliceH rfl rfl hasA (by omega)) ?_ | refine WPl.rdX (ReadR.sliceL rfl rfl hasA (by omega)) ?_ | refine WPl.rdX (ReadR.sliceLH rfl rfl rfl hasA (by omega) (by omega)) ?_)
       | (refine WPl.spQ (fun hc => ?_) (fun hc => ?_) <;> try exact prA)
       | fail)
      exact WPq.rnd (i + 1, g, (k + 1) % m) ⟨by omega, hgl, hnx, by rw [ht2]; exact heq⟩ (by omega)
    · rw [if_neg hp] at heq
      have hp' : ¬ f.pins > 0 := hp
      cases hu : f.used with
      | true =>
        rw [hu] at c2
        rw [if_pos hu] at heq
        have hs := frs_1 (f' := unuse f) (o := 2) (u := .bool false) hf (by omega) rfl
        repeat' (first
         | refine WPl.nil ?_ | refine WPq.then ?_ | refine WPq.thenR ?_ | refine WPq.thenE ?_ | refine WPq.blockN ?_ | refine WPq.blockR ?_ | refine WPq.blockE ?_ | refine WPq.blockO rfl ?_ | refine WPc.seq ?_ | refine WPc.block ?_ | refine WPc.ret ?_ | refine WPc.exit ?_ | refine WPc.skip ?_ | refine WPc.region ?_
         | (refine isCond ?_; first | refine WPc.cT ?_ | refine WPc.cF ?_ | (refine WPc.cQ (fun hc => ?_) (fun hc => ?_) <;> try exact prA))
         | (refine isD 16 ?_; refine WPl.rdX (ReadR.binE rfl rfl BinR.lss (congrArg Value.bool (decide_eq_true hlt'))) ?_)
         | (refine isD 22 ?_; refine WPl.rdX (ReadR.indexE (i := k) rfl rfl hasA hkm2) ?_)
         | (refine isD 30 ?_; refine WPl.rdX (ReadR.binE rfl rfl (BinR.remK (by omega) (by omega)) (congrArg (Value.int .i64) hrem)) ?_)
         | (refine isD 39 ?_; refine WPl.rdX (ReadR.fieldE rfl hasA (by omega)) ?_)
         | (refine isD 40 ?_; refine WPl.rdX (ReadR.loadE rfl hasA c4) ?_)
         | (refine isD 41 ?_; refine WPl.rdX (ReadR.binE rfl rfl BinR.gtr (congrArg Value.bool (decide_eq_false hp'))) ?_)
         | (refine isD 45 ?_; refine WPl.rdX (ReadR.fieldE rfl hasA (by omega)) ?_)
         | (refine isD 46 ?_; refine WPl.rdX (ReadR.loadE rfl hasA c2) ?_)
         | (refine isD 49 ?_; refine WPl.rdX (ReadR.fieldE rfl hasA (by omega)) ?_)
         | (show WPl _ _ _ _ _ _ _ (⟨_, .store _ (.tmp 49) _, _, _, _, _⟩ :: _) _; refine WPl.stEN (i := k * 6 + 2) (m := m) (xs := frs g) (by omega) ?_)
         | (refine isOp ?_; first | refine WPl.rd ?_ | refine WPl.sk ?_ | refine WPl.rdB ?_)
         | (refine isSt ?_; first | refine WPl.st1 ?_ | refine WPl.stA ?_ | refine WPl.stEB ?_ | refine WPl.stRB ?_)
         | (show WPl _ _ _ _ _ _ _ (⟨_, .indexAddr _ _ _, _, _, _, _⟩ :: _) _; refine WPl.rdX (ReadR.indexE rfl rfl hasA (by first | assumption | omega)) ?_)
         | (show WPl _ _ _ _ _ _ _ (⟨_, .fieldAddr _ _ _, _, _, _, _⟩ :: _) _; refine WPl.rdX (ReadR.fieldE rfl hasA (by first | assumption | omega)) ?_)
         | (show WPl _ _ _ _ _ _ _ (⟨_, .load _ _, _, _, _, _⟩ :: _) _; first | refine WPl.rdX (ReadR.loadE rfl hasA (by assumption)) ?_ | refine WPl.rdX (ReadR.loadES (by assumption) (by first | assumption | omega) rfl hasA) ?_)
         | (show WPl _ _ _ _ _ _ _ (⟨_, .slice _ _ _ _ _, _, _, _, _⟩ :: _) _; first | refine WPl.rdX (ReadR.sliceH rfl rfl hasA (by omega)) ?_ | refine WPl.rdX (ReadR.sliceL rfl rfl hasA (by omega)) ?_ | refine WPl.rdX (ReadR.sliceLH rfl rfl rfl hasA (by omega) (by omega)) ?_)
         | (refine WPl.spQ (fun hc => ?_) (fun hc => ?_) <;> try exact prA)
         | fail)
        rw [hs]
        exact WPq.rnd (i + 1, g.set k (unuse f), (k + 1) % m) ⟨by omega, by rw [List.length_set]; exact hgl, hnx, by rw [ht2]; exact heq⟩ (by omega)
      | false =>
        rw [hu] at c2
        rw [if_neg (by rw [hu]; simp)] at heq
        rw [heq]
        repeat' (first
         | refine WPl.nil ?_ | refine WPq.then ?_ | refine WPq.thenR ?_ | refine WPq.thenE ?_ | refine WPq.blockN ?_ | refine WPq.blockR ?_ | refine WPq.blockE ?_ | refine WPq.blockO rfl ?_ | refine WPc.seq ?_ | refine WPc.block ?_ | refine WPc.ret ?_ | refine WPc.exit ?_ | refine WPc.skip ?_ | refine WPc.region ?_
         | (refine isCond ?_; first | refine WPc.cT ?_ | refine WPc.cF ?_ | (refine WPc.cQ (fun hc => ?_) (fun hc => ?_) <;> try exact prA))
         | (refine isD 16 ?_; refine WPl.rdX (ReadR.binE rfl rfl BinR.lss (congrArg Value.bool (decide_eq_true hlt'))) ?_)
         | (refine isD 22 ?_; refine WPl.rdX (ReadR.indexE (i := k) rfl rfl hasA hkm2) ?_)
         | (refine isD 30 ?_; refine WPl.rdX (ReadR.binE rfl rfl (BinR.remK (by omega) (by omega)) (congrArg (Value.int .i64) hrem)) ?_)
         | (refine isD 39 ?_; refine WPl.rdX (ReadR.fieldE rfl hasA (by omega)) ?_)
         | (refine isD 40 ?_; refine WPl.rdX (ReadR.loadE rfl hasA c4) ?_)
         | (refine isD 41 ?_; refine WPl.rdX (ReadR.binE rfl rfl BinR.gtr (congrArg Value.bool (decide_eq_false hp'))) ?_)
         | (refine isD 45 ?_; refine WPl.rdX (ReadR.fieldE rfl hasA (by omega)) ?_)
         | (refine isD 46 ?_; refine WPl.rdX (ReadR.loadE rfl hasA c2) ?_)
         | (refine isOp ?_; first | refine WPl.rd ?_ | refine WPl.sk ?_ | refine WPl.rdB ?_)
         | (refine isSt ?_; first | refine WPl.st1 ?_ | refine WPl.stA ?_ | refine WPl.stEB ?_ | refine WPl.stRB ?_)
         | (show WPl _ _ _ _ _ _ _ (⟨_, .indexAddr _ _ _, _, _, _, _⟩ :: _) _; refine WPl.rdX (ReadR.indexE rfl rfl hasA (by first | assumption | omega)) ?_)
         | (show WPl _ _ _ _ _ _ _ (⟨_, .fieldAddr _ _ _, _, _, _, _⟩ :: _) _; refine WPl.rdX (ReadR.fieldE rfl hasA (by first | assumption | omega)) ?_)
         | (show WPl _ _ _ _ _ _ _ (⟨_, .load _ _, _, _, _, _⟩ :: _) _; first | refine WPl.rdX (ReadR.loadE rfl hasA (by assumption)) ?_ | refine WPl.rdX (ReadR.loadES (by assumption) (by first | assumption | omega) rfl hasA) ?_)
         | (show WPl _ _ _ _ _ _ _ (⟨_, .slice _ _ _ _ _, _, _, _, _⟩ :: _) _; first | refine WPl.rdX (ReadR.sliceH rfl rfl hasA (by omega)) ?_ | refine WPl.rdX (ReadR.sliceL rfl rfl hasA (by omega)) ?_ | refine WPl.rdX (ReadR.sliceLH rfl rfl rfl hasA (by omega) (by omega)) ?_)
         | (refine WPl.spQ (fun hc => ?_) (fun hc => ?_) <;> try exact prA)
         | fail)
        exact WPq.dTs
  · have hi2 : 2 * m - i = 0 := by omega
    rw [hi2] at heq
    rw [heq]
    have hlt' : ¬ (i : Int) < ((2 * m : Nat) : Int) := by omega
    repeat' (first
     | refine WPl.nil ?_ | refine WPq.then ?_ | refine WPq.thenR ?_ | refine WPq.thenE ?_ | refine WPq.blockN ?_ | refine WPq.blockR ?_ | refine WPq.blockE ?_ | refine WPq.blockO rfl ?_ | refine WPc.seq ?_ | refine WPc.block ?_ | refine WPc.ret ?_ | refine WPc.exit ?_ | refine WPc.skip ?_ | refine WPc.region ?_
     | (refine isCond ?_; first | refine WPc.cT ?_ | refine WPc.cF ?_ | (refine WPc.cQ (fun hc => ?_) (fun hc => ?_) <;> try exact prA))
     | (refine isD 16 ?_; refine WPl.rdX (ReadR.binE rfl rfl BinR.lss (congrArg Value.bool (decide_eq_false hlt'))) ?_)
     | (refine isOp ?_; first | refine WPl.rd ?_ | refine WPl.sk ?_ | refine WPl.rdB ?_)
     | (refine isSt ?_; first | refine WPl.st1 ?_ | refine WPl.stA ?_ | refine WPl.stEB ?_ | refine WPl.stRB ?_)
     | (show WPl _ _ _ _ _ _ _ (⟨_, .indexAddr _ _ _, _, _, _, _⟩ :: _) _; refine WPl.rdX (ReadR.indexE rfl rfl hasA (by first | assumption | omega)) ?_)
     | (show WPl _ _ _ _ _ _ _ (⟨_, .fieldAddr _ _ _, _, _, _, _⟩ :: _) _; refine WPl.rdX (ReadR.fieldE rfl hasA (by first | assumption | omega)) ?_)
     | (show WPl _ _ _ _ _ _ _ (⟨_, .load _ _, _, _, _, _⟩ :: _) _; first | refine WPl.rdX (ReadR.loadE rfl hasA (by assumption)) ?_ | refine WPl.rdX (ReadR.loadES (by assumption) (by first | assumption | omega) rfl hasA) ?_)
     | (show WPl _ _ _ _ _ _ _ (⟨_, .slice _ _ _ _ _, _, _, _, _⟩ :: _) _; first | refine WPl.rdX (ReadR.sliceH rfl rfl hasA (by omega)) ?_ | refine WPl.rdX (ReadR.sliceL rfl rfl hasA (by omega)) ?_ | refine WPl.rdX (ReadR.sliceLH rfl rfl rfl hasA (by omega) (by omega)) ?_)
     | (refine WPl.spQ (fun hc => ?_) (fun hc => ?_) <;> try exact prA)
     | fail)
    exact WPq.dTs
end
end Go.Proofs.Ytepmikgjnmjheaa
/- Layer 5 (cache): what its calls do, in plain words. -/
namespace Go.Proofs.Ytepmikgjnmjheaa
set_option linter.unusedSimpArgs false
set_option linter.unusedVariables false
def Cv.at (C : Cv) (no : Int) : Option Nat := C.fs.findIdx? fun o => match o with | some f => decide (f.no = no) | none => false
def Cv.empty (C : Cv) : Option Nat := C.fs.findIdx? Option.isNone
def opins (o : Option Fp) : Int := match o with | some f => f.pins | none => 0
def oused (o : Option Fp) : Bool := match o with | some f => f.used | none => false
def ounuse (o : Option Fp) : Option Fp := o.map fun f => { f with used := false }
def vicP (m : Nat) : Nat → List (Option Fp) → Nat → List (Option Fp) × Option (Nat × Nat)
  | 0, fs, _ => (fs, none)
  | t + 1, fs, k => match fs[k]? with
    | none => (fs, none)
    | some o => if 0 < opins o then vicP m t fs ((k + 1) % m) else if oused o = true then vicP m t (fs.set k (ounuse o)) ((k + 1) % m) else (fs, some (k, (k + 1) % m))
def Cv.vic (C : Cv) : List (Option Fp) × Option (Nat × Nat) := vicP C.fs.length (2 * C.fs.length) C.fs C.hand
/-- Room, where the one that is given up is told. -/
def giveUp (fs : List (Option Fp)) (i h : Nat) (D : Dv) : Cv × Dv × Option Nat × Int := match fs[i]? with
  | some (some f) => if f.dirty then (if (D.wr f.no.toNat f.s).2 = 0 then (⟨fs.set i none, h⟩, (D.wr f.no.toNat f.s).1, some i, 0) else (⟨fs, h⟩, (D.wr f.no.toNat f.s).1, none, (D.wr f.no.toNat f.s).2)) else (⟨fs.set i none, h⟩, D, some i, 0)
  | _ => (⟨fs, h⟩, D, none, 0)
def Cv.room (C : Cv) (D : Dv) : Cv × Dv × Option Nat × Int := match C.empty with
  | some i => (C, D, some i, 0)
  | none => match C.vic.2 with
    | none => (⟨C.vic.1, C.hand⟩, D, none, 11)
    | some x => giveUp C.vic.1 x.1 x.2 D
def setF (C : Cv) (i : Nat) (o : Option Fp) : Cv := ⟨C.fs.set i o, C.hand⟩
def Cv.get (C : Cv) (D : Dv) (no : Nat) : Cv × Dv × List UInt8 × Int := match C.at (no : Int) with
  | some i => (match C.fs[i]? with
    | some (some f) => (setF C i (some { f with used := true }), D, f.s.b, 0)
    | _ => (C, D, [], 0))
  | none => match (C.room D).2.2.1 with
    | none => ((C.room D).1, (C.room D).2.1, [], (C.room D).2.2.2)
    | some i => if (C.room D).2.1.fails 1 then ((C.room D).1, (C.room D).2.1.burn 1, [], 3) else (setF (C.room D).1 i (some ⟨no, 0, false, true, (C.room D).2.1.now no⟩), (C.room D).2.1.burn 1, ((C.room D).2.1.now no).b, 0)
def Cv.put (C : Cv) (D : Dv) (no : Nat) (s : Sec) : Cv × Dv × Int := match C.at (no : Int) with
  | some i => (match C.fs[i]? with
    | some (some f) => (setF C i (some { f with s := s, dirty := true, used := true }), D, 0)
    | _ => (C, D, 0))
  | none => match (C.room D).2.2.1 with
    | none => ((C.room D).1, (C.room D).2.1, (C.room D).2.2.2)
    | some i => (setF (C.room D).1 i (some ⟨no, 0, true, true, s⟩), (C.room D).2.1, 0)
theorem at_vw {C : CS} {no : Int} : atF C.fs no = C.vw.at no := by
  unfold Cv.at CS.vw atF
  rw [List.findIdx?_map]
  congr 1
  funext f
  show _ = (match f.vw with | some g => decide (g.no = no) | none => false)
  unfold Frm.vw
  cases f.full <;> rfl
theorem empty_vw {C : CS} : emptyF C.fs = C.vw.empty := by
  unfold Cv.empty CS.vw emptyF
  rw [List.findIdx?_map]
  congr 1
  funext f
  show _ = f.vw.isNone
  unfold Frm.vw
  cases f.full <;> rfl
theorem opins_vw {n p : Nat} {rs : List (Value × Sec)} {f : Frm} (h : FInv n p rs f) : opins f.vw = f.pins := by
  unfold Frm.vw
  cases hf : f.full with
  | true => rfl
  | false => exact (h.gone hf).2.2.2.1.symm
theorem oused_vw {n p : Nat} {rs : List (Value × Sec)} {f : Frm} (h : FInv n p rs f) : oused f.vw = f.used := by
  unfold Frm.vw
  cases hf : f.full with
  | true => rfl
  | false => exact (h.gone hf).2.1.symm
theorem ounuse_vw {f : Frm} : ounuse f.vw = (unuse f).vw := by
  unfold Frm.vw unuse
  cases hf : f.full <;> rfl
theorem FInv.unuse {n p : Nat} {rs : List (Value × Sec)} {f : Frm} (h : FInv n p rs f) : FInv n p rs (unuse f) := ⟨h.one, h.here, fun hf => ⟨(h.gone hf).1, rfl, (h.gone hf).2.2⟩, h.pin0, h.pin1⟩
theorem vic_vw {m n p : Nat} {rs : List (Value × Sec)} : ∀ {t : Nat} {fs : List Frm} {k : Nat}, (∀ f ∈ fs, FInv n p rs f) → vicP m t (fs.map Frm.vw) k = ((vicF m t fs k).1.map Frm.vw, (vicF m t fs k).2) ∧ ∀ f ∈ (vicF m t fs k).1, FInv n p rs f
  | 0, fs, k, h => ⟨rfl, h⟩
  | t + 1, fs, k, h => by
    unfold vicP vicF
    rw [List.getElem?_map]
    cases hf : fs[k]? with
    | none => exact ⟨rfl, h⟩
    | some f =>
      have hi := h f (List.mem_of_getElem? hf)
      show (if 0 < opins f.vw then _ else if oused f.vw = true then _ else _) = _ ∧ _
      rw [opins_vw hi, oused_vw hi, ounuse_vw]
      dsimp only
      split
      · exact vic_vw h
      · split
        · rw [← List.map_set]
          exact vic_vw fun x hx => by
            rcases mem_set_or hx with rfl | hx
            · exact hi.unuse
            · exact h x hx
        · exact ⟨rfl, h⟩
theorem vicF_hit {m : Nat} : ∀ {t : Nat} {fs : List Frm} {k i h : Nat}, (vicF m t fs k).2 = some (i, h) → i < fs.length ∧ h = (i + 1) % m
  | 0, _, _, _, _, hx => by cases hx
  | t + 1, fs, k, i, h, hx => by
    unfold vicF at hx
    cases hf : fs[k]? with
    | none => rw [hf] at hx; cases hx
    | some f =>
      rw [hf] at hx
      dsimp only at hx
      split at hx
      · exact vicF_hit hx
      · split at hx
        · have := vicF_hit hx
          rwa [List.length_set] at this
        · cases hx
          exact ⟨(List.getElem?_eq_some_iff.1 hf).1, rfl⟩
theorem vicF_full {m : Nat} : ∀ {t : Nat} {fs : List Frm} {k : Nat}, (∀ f ∈ fs, f.full = true) → ∀ f ∈ (vicF m t fs k).1, f.full = true
  | 0, _, _, h => h
  | t + 1, fs, k, h => by
    unfold vicF
    cases hf : fs[k]? with
    | none => exact h
    | some f =>
      dsimp only
      split
      · exact vicF_full h
      · split
        · exact vicF_full fun x hx => by
            rcases mem_set_or hx with rfl | hx
            · exact h f (List.mem_of_getElem? hf)
            · exact h x hx
        · exact h
theorem emptyF_none {fs : List Frm} (h : emptyF fs = none) : ∀ f ∈ fs, f.full = true := by
  intro f hf
  unfold emptyF at h
  rw [List.findIdx?_eq_none_iff] at h
  have := h f hf
  simpa using this
theorem findIdx_spec {α : Type} {p : α → Bool} {l : List α} {i : Nat} (h : l.findIdx? p = some i) : ∃ f, l[i]? = some f ∧ p f = true := by
  rw [List.findIdx?_eq_some_iff_getElem] at h
  obtain ⟨h1, h2, _⟩ := h
  exact ⟨l[i], List.getElem?_eq_getElem h1, h2⟩
end Go.Proofs.Ytepmikgjnmjheaa
/- Layer 5 (cache): contracts: room. -/
namespace Go.Proofs.Ytepmikgjnmjheaa
open Go.RowKit
set_option linter.unusedSimpArgs false
set_option linter.unusedVariables false
set_option maxRecDepth 20000
set_option maxHeartbeats 4000000
attribute [local irreducible] WPc WPl WPq ReadR OpT BinR HasS bx rdN rowN Take Takes Prov Triple ResF BuildP Done ag Int.decLt Int.decLe Int.instDecidableEq
attribute [local irreducible] mp rmp rg rgo bag vrow secs mput mget mfind mdel intsV skeys vault frs pickG
instance : Inhabited DS := ⟨⟨[], [], [], 0⟩⟩
/-- A cache over a device. -/
abbrev cdA (gK gV : Nat) (vF : Value) (C : CS) (mD : Nat) (vd : Value) (S : DS) : List Asn := [bx gK 86 (cxc gV vF (C.hand : Int)), rowN 90 6 vF C.fs.length (frs C.fs), vault C.rs, bx gV 79 (dvc S.fu vd mD S.cn), rowN 81 256 vd S.ls.length (secs S.ls), mp secM mD S.es, bag S.es]
def RRoom (gK gV : Nat) (vF : Value) (mD : Nat) (vd : Value) (n m p k : Nat) (rs : List (Value × Sec)) (r : Cv × Dv × Option Nat × Int) : Value → List Asn → Prop := fun v Γ => ∃ C S, v = .tuple #[fptr vF r.2.2.1, .int .i64 r.2.2.2] ∧ C.vw = r.1 ∧ S.vw = r.2.1 ∧ CInv n m p C ∧ DInv n k S ∧ C.rs = rs ∧ (∀ i, r.2.2.1 = some i → r.2.2.2 = 0 ∧ ∃ f, C.fs[i]? = some f ∧ f.full = false) ∧ (r.2.2.1 = none → r.2.2.2 ≠ 0) ∧ Γ = cdA gK gV vF C mD vd S
section
variable (gK gV : Nat) (vF : Value) (mD : Nat) (vd : Value) (n m p k : Nat) (C : CS) (S : DS)
theorem room_t (h : CInv n m p C) (hd : DInv n k S) (hn : n ≤ 1600) (h8 : 8 ≤ m) (hm : m ≤ 64) (hkb : k ≤ 80000) :
    Triple Try.prog 58 #[hC gK] (cdA gK gV vF C mD vd S) (RRoom gK gV vF mD vd n m p (k + 1) C.rs (C.vw.room S.vw)) := by
  obtain ⟨fs, hand, rs⟩ := C
  have hlen : fs.length = m := h.len
  have hhand : hand < m := h.hand
  have hlen2 : (fs.map Frm.vw).length = m := by rw [List.length_map]; exact hlen
  have c8 := empty_t gK gV vF (hand : Int) fs (by omega)
  rw [show cdA gK gV vF ⟨fs, hand, rs⟩ mD vd S = [bx gK 86 (cxc gV vF (hand : Int)), rowN 90 6 vF fs.length (frs fs), vault rs, bx gV 79 (dvc S.fu vd mD S.cn), rowN 81 256 vd S.ls.length (secs S.ls), mp secM mD S.es, bag S.es] from rfl]
  have hev := empty_vw (C := ⟨fs, hand, rs⟩)
  have hev' : emptyF fs = (CS.mk fs hand rs).vw.empty := hev
  cases hem : emptyF fs with
  | some i =>
    obtain ⟨f, hf, hff⟩ := findIdx_spec hem
    have hr : (CS.mk fs hand rs).vw.room S.vw = ((CS.mk fs hand rs).vw, S.vw, some i, 0) := by unfold Cv.room; rw [← hev', hem]
    rw [hr]
    rw [hem] at c8
    unfold fptr at c8
    dsimp only at c8
    refine Triple.enter Try.func58 rfl Try.ntmps58 rfl (fun W => ?_)
    dsimp only [argsF, Nat.reduceAdd]
    repeat' (first
     | refine WPl.nil ?_ | refine WPq.then ?_ | refine WPq.thenR ?_ | refine WPq.thenE ?_ | refine WPq.blockN ?_ | refine WPq.blockR ?_ | refine WPq.blockE ?_ | refine WPq.blockO rfl ?_ | refine WPc.seq ?_ | refine WPc.block ?_ | refine WPc.ret ?_ | refine WPc.exit ?_ | refine WPc.skip ?_ | refine WPc.region ?_
     | (refine isCond ?_; first | refine WPc.cT ?_ | refine WPc.cF ?_ | (refine WPc.cQ (fun hc => ?_) (fun hc => ?_) <;> try exact prA))
     | (refine isC 8 ?_; refine WPl.cV c8 ?_ (hΔ := provsW))
     | (refine isD 10 ?_; refine WPl.rdX (readP) ?_)
     | (refine isOp ?_; first | refine WPl.rd ?_ | refine WPl.sk ?_ | refine WPl.rdB ?_)
     | (refine isSt ?_; first | refine WPl.st1 ?_ | refine WPl.stA ?_ | refine WPl.stEB ?_ | refine WPl.stRB ?_)
     | (show WPl _ _ _ _ _ _ _ (⟨_, .indexAddr _ _ _, _, _, _, _⟩ :: _) _; refine WPl.rdX (ReadR.indexE rfl rfl hasA (by first | assumption | omega)) ?_)
     | (show WPl _ _ _ _ _ _ _ (⟨_, .fieldAddr _ _ _, _, _, _, _⟩ :: _) _; refine WPl.rdX (ReadR.fieldE rfl hasA (by first | assumption | omega)) ?_)
     | (show WPl _ _ _ _ _ _ _ (⟨_, .load _ _, _, _, _, _⟩ :: _) _; first | refine WPl.rdX (ReadR.loadE rfl hasA (by assumption)) ?_ | refine WPl.rdX (ReadR.loadES (by assumption) (by first | assumption | omega) rfl hasA) ?_)
     | (show WPl _ _ _ _ _ _ _ (⟨_, .slice _ _ _ _ _, _, _, _, _⟩ :: _) _; first | refine WPl.rdX (ReadR.sliceH rfl rfl hasA (by omega)) ?_ | refine WPl.rdX (ReadR.sliceL rfl rfl hasA (by omega)) ?_ | refine WPl.rdX (ReadR.sliceLH rfl rfl rfl hasA (by omega) (by omega)) ?_)
     | (refine WPl.spQ (fun hc => ?_) (fun hc => ?_) <;> try exact prA)
     | fail)
    exact WPq.dX (ho := ownsW) (vs := [.pointer (some (ela vF (i * 6))), .int .i64 0]) (cdA gK gV vF ⟨fs, hand, rs⟩ mD vd S) ⟨⟨fs, hand, rs⟩, S, rfl, rfl, rfl, h, hd.mono (Nat.le_succ _), rfl, fun j hj => by cases hj; exact ⟨rfl, f, hf, by simpa using hff⟩, (fun hj => by cases hj), rfl⟩
  | none =>
    have hfull := emptyF_none hem
    rw [hem] at c8
    unfold fptr at c8
    dsimp only at c8
    have c13 := victim_t gK gV vF hand fs m (by omega) (by omega) hlen hhand
    obtain ⟨hv1, hv2⟩ := vic_vw (m := m) (t := 2 * m) (k := hand) h.each
    have hv3 := vicF_full (m := m) (t := 2 * m) (k := hand) hfull
    have hvl := vicF_len (m := m) (t := 2 * m) (fs := fs) (k := hand)
    have hvic : (CS.mk fs hand rs).vw.vic = ((vicF m (2 * m) fs hand).1.map Frm.vw, (vicF m (2 * m) fs hand).2) := by
      unfold Cv.vic
      show vicP (fs.map Frm.vw).length (2 * (fs.map Frm.vw).length) (fs.map Frm.vw) hand = _
      rw [hlen2]
      exact hv1
    have hhit := fun i h => vicF_hit (m := m) (t := 2 * m) (fs := fs) (k := hand) (i := i) (h := h)
    have hroom : (CS.mk fs hand rs).vw.room S.vw = match (CS.mk fs hand rs).vw.vic.2 with | none => (⟨(CS.mk fs hand rs).vw.vic.1, hand⟩, S.vw, none, 11) | some x => giveUp (CS.mk fs hand rs).vw.vic.1 x.1 x.2 S.vw := by unfold Cv.room; rw [← hev', hem]; rfl
    rw [hroom, hvic]
    obtain ⟨⟨g, o⟩, hgo⟩ : ∃ x, x = vicF m (2 * m) fs hand := ⟨_, rfl⟩
    rw [← hgo] at c13 hv2 hv3 hvl hhit ⊢
    dsimp only at c13 hv2 hv3 hvl hhit ⊢
    clear hroom hvic hv1 hgo
    cases o with
    | none =>
      unfold fptr vhand at c13
      dsimp only [Option.map] at c13 ⊢
      rw [hlen] at c8 ⊢
      refine Triple.enter Try.func58 rfl Try.ntmps58 rfl (fun W => ?_)
      dsimp only [argsF, Nat.reduceAdd]
      repeat' (first
       | refine WPl.nil ?_ | refine WPq.then ?_ | refine WPq.thenR ?_ | refine WPq.thenE ?_ | refine WPq.blockN ?_ | refine WPq.blockR ?_ | refine WPq.blockE ?_ | refine WPq.blockO rfl ?_ | refine WPc.seq ?_ | refine WPc.block ?_ | refine WPc.ret ?_ | refine WPc.exit ?_ | refine WPc.skip ?_ | refine WPc.region ?_
       | (refine isCond ?_; first | refine WPc.cT ?_ | refine WPc.cF ?_ | (refine WPc.cQ (fun hc => ?_) (fun hc => ?_) <;> try exact prA))
       | (refine isC 8 ?_; refine WPl.cV c8 ?_ (hΔ := provsW))
       | (refine isD 10 ?_; refine WPl.rdX (readP) ?_)
       | (refine isC 13 ?_; refine WPl.cTs (c13) ?_; (try dsimp only [putF, List.cons_append, List.nil_append]))
       | (refine isD 15 ?_; refine WPl.rdX (readP) ?_)
       | (refine isOp ?_; first | refine WPl.rd ?_ | refine WPl.sk ?_ | refine WPl.rdB ?_)
       | (refine isSt ?_; first | refine WPl.st1 ?_ | refine WPl.stA ?_ | refine WPl.stEB ?_ | refine WPl.stRB ?_)
       | (show WPl _ _ _ _ _ _ _ (⟨_, .indexAddr _ _ _, _, _, _, _⟩ :: _) _; refine WPl.rdX (ReadR.indexE rfl rfl hasA (by first | assumption | omega)) ?_)
       | (show WPl _ _ _ _ _ _ _ (⟨_, .fieldAddr _ _ _, _, _, _, _⟩ :: _) _; refine WPl.rdX (ReadR.fieldE rfl hasA (by first | assumption | omega)) ?_)
       | (show WPl _ _ _ _ _ _ _ (⟨_, .load _ _, _, _, _, _⟩ :: _) _; first | refine WPl.rdX (ReadR.loadE rfl hasA (by assumption)) ?_ | refine WPl.rdX (ReadR.loadES (by assumption) (by first | assumption | omega) rfl hasA) ?_)
       | (show WPl _ _ _ _ _ _ _ (⟨_, .slice _ _ _ _ _, _, _, _, _⟩ :: _) _; first | refine WPl.rdX (ReadR.sliceH rfl rfl hasA (by omega)) ?_ | refine WPl.rdX (ReadR.sliceL rfl rfl hasA (by omega)) ?_ | refine WPl.rdX (ReadR.sliceLH rfl rfl rfl hasA (by omega) (by omega)) ?_)
       | (refine WPl.spQ (fun hc => ?_) (fun hc => ?_) <;> try exact prA)
       | fail)
      exact WPq.dX (ho := ownsW) (vs := [.pointer none, .int .i64 11]) [bx gK 86 (cxc gV vF (hand : Int)), rowN 90 6 vF m (frs g), vault rs, bx gV 79 (dvc S.fu vd mD S.cn), rowN 81 256 vd S.ls.length (secs S.ls), mp secM mD S.es, bag S.es] ⟨⟨g, hand, rs⟩, S, rfl, rfl, rfl, ⟨by show g.length = m; omega, hhand, hv2⟩, hd.mono (Nat.le_succ _), rfl, (fun j hj => by cases hj), (fun _ => by show (11 : Int) ≠ 0; omega), by show _ = [_, rowN _ 6 vF g.length _, _, _, _, _, _]; rw [hvl, hlen]⟩
    | some x =>
      obtain ⟨i, h'⟩ := x
      obtain ⟨hi1, hi2⟩ := hhit i h' rfl
      have hig : i < g.length := by omega
      have hh' : h' < m := by rw [hi2]; exact Nat.mod_lt _ (by omega)
      obtain ⟨f, hf⟩ : ∃ f, g[i]? = some f := ⟨_, List.getElem?_eq_getElem hig⟩
      have hfu := hv3 f (List.mem_of_getElem? hf)
      have hfi := hv2 f (List.mem_of_getElem? hf)
      obtain ⟨⟨hno0, hno1⟩, hmem⟩ := hfi.here hfu
      obtain ⟨j, hj⟩ : ∃ j : Nat, f.no = (j : Int) := ⟨f.no.toNat, by omega⟩
      have hjn : j < n := by omega
      have hgv : (g.map Frm.vw)[i]? = some (some ⟨f.no, f.pins, f.dirty, f.used, f.s⟩) := by rw [List.getElem?_map, hf, Option.map_some, Frm.vw_some hfu]
      have hgl : g.length = m := by omega
      have c1 : (frs g)[i * 6 + 1]? = some (.bool f.dirty) := frs_cell hf (by omega)
      have c3 : (frs g)[i * 6 + 3]? = some (.int .i64 (j : Int)) := by rw [← hj]; exact frs_cell hf (by omega)
      have c5 : (frs g)[i * 6 + 5]? = some f.bv := frs_cell hf (by omega)
      have hL := frs_len (l := g)
      have hz := frs_set (f := fr0) hig
      have hfz : FOk (frC fr0) := FInv.fok (n := n) (p := p) (rs := rs) .zero
      have hsetv : (g.set i fr0).map Frm.vw = (g.map Frm.vw).set i none := by rw [List.map_set]; rfl
      have hCs : CInv n m p ⟨g.set i fr0, h', rs⟩ := CInv.set (C := ⟨g, hand, rs⟩) ⟨hgl, hhand, hv2⟩ .zero hh'
      have hCg : CInv n m p ⟨g, h', rs⟩ := ⟨hgl, hh', hv2⟩
      unfold fptr vhand at c13
      dsimp only [Option.map] at c13 ⊢
      rw [hlen] at c8 ⊢
      cases hdt : f.dirty with
      | false =>
        rw [hdt] at c1
        have hg2 : giveUp (g.map Frm.vw) i h' S.vw = (⟨(g.map Frm.vw).set i none, h'⟩, S.vw, some i, 0) := by unfold giveUp; rw [hgv]; dsimp only; rw [hdt]; rfl
        rw [hg2]
        refine Triple.enter Try.func58 rfl Try.ntmps58 rfl (fun W => ?_)
        dsimp only [argsF, Nat.reduceAdd]
        repeat' (first
         | refine WPl.nil ?_ | refine WPq.then ?_ | refine WPq.thenR ?_ | refine WPq.thenE ?_ | refine WPq.blockN ?_ | refine WPq.blockR ?_ | refine WPq.blockE ?_ | refine WPq.blockO rfl ?_ | refine WPc.seq ?_ | refine WPc.block ?_ | refine WPc.ret ?_ | refine WPc.exit ?_ | refine WPc.skip ?_ | refine WPc.region ?_
         | (refine isCond ?_; first | refine WPc.cT ?_ | refine WPc.cF ?_ | (refine WPc.cQ (fun hc => ?_) (fun hc => ?_) <;> try exact prA))
         | (refine isC 8 ?_; refine WPl.cV c8 ?_ (hΔ := provsW))
         | (refine isD 10 ?_; refine WPl.rdX (readP) ?_)
         | (refine isC 13 ?_; refine WPl.cTs (c13) ?_; (try dsimp only [putF, List.cons_append, List.nil_append]))
         | (refine isD 15 ?_; refine WPl.rdX (readP) ?_)
         | (refine isD 18 ?_; refine WPl.rdX (ReadR.fieldE rfl hasA (by omega)) ?_)
         | (refine isD 19 ?_; refine WPl.rdX (ReadR.loadE rfl hasA c1) ?_)
         | (show WPl _ _ _ _ _ _ _ (⟨_, .store _ (.tmp 38) _, _, _, _, _⟩ :: _) _; refine WPl.stES (new := frC fr0) (i := i * 6) (k := 6) (m := m) (xs := frs g) hfz rfl (by omega) (by omega) ?_)
         | (refine isOp ?_; first | refine WPl.rd ?_ | refine WPl.sk ?_ | refine WPl.rdB ?_)
         | (refine isSt ?_; first | refine WPl.st1 ?_ | refine WPl.stA ?_ | refine WPl.stEB ?_ | refine WPl.stRB ?_)
         | (show WPl _ _ _ _ _ _ _ (⟨_, .indexAddr _ _ _, _, _, _, _⟩ :: _) _; refine WPl.rdX (ReadR.indexE rfl rfl hasA (by first | assumption | omega)) ?_)
         | (show WPl _ _ _ _ _ _ _ (⟨_, .fieldAddr _ _ _, _, _, _, _⟩ :: _) _; refine WPl.rdX (ReadR.fieldE rfl hasA (by first | assumption | omega)) ?_)
         | (show WPl _ _ _ _ _ _ _ (⟨_, .load _ _, _, _, _, _⟩ :: _) _; first | refine WPl.rdX (ReadR.loadE rfl hasA (by assumption)) ?_ | refine WPl.rdX (ReadR.loadES (by assumption) (by first | assumption | omega) rfl hasA) ?_)
         | (show WPl _ _ _ _ _ _ _ (⟨_, .slice _ _ _ _ _, _, _, _, _⟩ :: _) _; first | refine WPl.rdX (ReadR.sliceH rfl rfl hasA (by omega)) ?_ | refine WPl.rdX (ReadR.sliceL rfl rfl hasA (by omega)) ?_ | refine WPl.rdX (ReadR.sliceLH rfl rfl rfl hasA (by omega) (by omega)) ?_)
         | (refine WPl.spQ (fun hc => ?_) (fun hc => ?_) <;> try exact prA)
         | fail)
        rw [hz]
        exact WPq.dX (ho := ownsW) (vs := [.pointer (some (ela vF (i * 6))), .int .i64 0]) [bx gK 86 (cxc gV vF (h' : Int)), rowN 90 6 vF m (frs (g.set i fr0)), vault rs, bx gV 79 (dvc S.fu vd mD S.cn), rowN 81 256 vd S.ls.length (secs S.ls), mp secM mD S.es, bag S.es] ⟨⟨g.set i fr0, h', rs⟩, S, rfl, (by show Cv.mk _ _ = Cv.mk _ _; rw [hsetv]), rfl, hCs, hd.mono (Nat.le_succ _), rfl, (fun a ha => by cases ha; exact ⟨rfl, fr0, by show (g.set i fr0)[i]? = _; rw [List.getElem?_set_self hig], rfl⟩), (fun ha => by cases ha), by show _ = [_, rowN _ 6 vF (g.set i fr0).length _, _, _, _, _, _]; rw [List.length_set, hgl]⟩
      | true =>
        rw [hdt] at c1
        have c32 := dwr_t gV mD vd n k S j f.bv f.s hd (by omega) (by omega) hjn
        by_cases he : (S.vw.wr j f.s).2 = 0
        · have hg2 : giveUp (g.map Frm.vw) i h' S.vw = (⟨(g.map Frm.vw).set i none, h'⟩, (S.vw.wr j f.s).1, some i, 0) := by unfold giveUp; rw [hgv]; dsimp only; rw [hdt, if_pos rfl, hj, Int.toNat_natCast, if_pos he]
          rw [hg2]
          rw [he] at c32
          obtain ⟨D1, hD1⟩ : ∃ D1, D1 = (S.vw.wr j f.s).1 := ⟨_, rfl⟩
          rw [← hD1] at c32 ⊢
          have hv32 : ∀ v Γ', RD gV mD vd n (k + 1) (.int .i64 0) D1 v Γ' → v = .int .i64 0 ∧ ∃ S', Γ' = dvA gV mD vd S' ∧ (S'.vw = D1 ∧ DInv n (k + 1) S') := fun v Γ' ⟨S', h1, h2, h3, h4⟩ => ⟨h1, S', h4, h2, h3⟩
          refine Triple.enter Try.func58 rfl Try.ntmps58 rfl (fun W => ?_)
          dsimp only [argsF, Nat.reduceAdd]
          repeat' (first
           | refine WPl.nil ?_ | refine WPq.then ?_ | refine WPq.thenR ?_ | refine WPq.thenE ?_ | refine WPq.blockN ?_ | refine WPq.blockR ?_ | refine WPq.blockE ?_ | refine WPq.blockO rfl ?_ | refine WPc.seq ?_ | refine WPc.block ?_ | refine WPc.ret ?_ | refine WPc.exit ?_ | refine WPc.skip ?_ | refine WPc.region ?_
           | (refine isReg 8 ?_; refine WPc.drA [([14, 15, 16, 17], [24, 25, 26, 27, 28, 29, 30, 31]), ([0, 14, 15, 16, 17], [20, 24, 25, 26, 27, 28, 29, 30, 31]), ([0, 1, 14, 15, 16, 17], [20, 21, 24, 25, 26, 27, 28, 29, 30, 31]), ([0, 1, 2, 14, 15, 16, 17], [20, 21, 22, 24, 25, 26, 27, 28, 29, 30, 31]), ([14, 15, 16, 17], [20, 21, 22, 23, 28, 29, 30, 31]), ([4, 14, 15, 16, 17], [20, 21, 22, 23, 24, 28, 29, 30, 31]), ([4, 5, 14, 15, 16, 17], [20, 21, 22, 23, 24, 25, 28, 29, 30, 31]), ([4, 5, 6, 14, 15, 16, 17], [20, 21, 22, 23, 24, 25, 26, 28, 29, 30, 31]), ([14, 15, 16, 17], [20, 21, 22, 23, 24, 25, 26, 27]), ([8, 14, 15, 16, 17], [20, 21, 22, 23, 24, 25, 26, 27, 28]), ([8, 9, 14, 15, 16, 17], [20, 21, 22, 23, 24, 25, 26, 27, 28, 29]), ([8, 9, 10, 14, 15, 16, 17], [20, 21, 22, 23, 24, 25, 26, 27, 28, 29, 30]), ([0, 1, 2, 3, 4, 5, 6, 7, 8, 9, 10, 11, 14, 15, 16, 17], [20, 21, 22, 23, 24, 25, 26, 27, 28, 29, 30, 31]), ([0, 1, 2, 3, 4, 5, 6, 7, 8, 9, 10, 11, 12, 14, 15, 16, 17], [20, 21, 22, 23, 24, 25, 26, 27, 28, 29, 30, 31, 32])] [(14, 12), (15, 12), (16, 12), (17, 12), (14, 0), (14, 1), (14, 2), (14, 3), (14, 4), (14, 5), (14, 6), (14, 7), (14, 8), (14, 9), (14, 10), (14, 11), (15, 0), (15, 1), (15, 2), (15, 3), (15, 4), (15, 5), (15, 6), (15, 7), (15, 8), (15, 9), (15, 10), (15, 11), (16, 0), (16, 1), (16, 2), (16, 3), (16, 4), (16, 5), (16, 6), (16, 7), (16, 8), (16, 9), (16, 10), (16, 11), (17, 0), (17, 1), (17, 2), (17, 3), (17, 4), (17, 5), (17, 6), (17, 7), (17, 8), (17, 9), (17, 10), (17, 11)] (Γx := [bx gV 79 (dvc S.fu vd mD S.cn), rowN 81 256 vd S.ls.length (secs S.ls), mp secM mD S.es, bag S.es]) (hox := ownsV) ?_; dsimp only [prev0, List.length_nil, List.length_cons])
           | (refine gAny ?_; first | (refine gC 13 ?_; refine RGl.turns (fun e hk => by (try dsimp only [bndR, ensR, oksR, fcutR, List.append_nil, List.nil_append, List.cons_append, List.append_assoc] at hk ⊢); exact OpT.callTs (c13)) ?_) | (refine gD 10 ?_; refine RGl.rdX (fun e hk => by (try dsimp only [bndR, ensR, oksR, fcutR, List.append_nil, List.nil_append, List.cons_append, List.append_assoc] at hk ⊢); exact readP) ?_) | (refine gD 15 ?_; refine RGl.rdX (fun e hk => by (try dsimp only [bndR, ensR, oksR, fcutR, List.append_nil, List.nil_append, List.cons_append, List.append_assoc] at hk ⊢); exact readP) ?_) | (refine gD 18 ?_; refine RGl.rdX (fun e hk => by (try dsimp only [bndR, ensR, oksR, fcutR, List.append_nil, List.nil_append, List.cons_append, List.append_assoc] at hk ⊢); exact ReadR.fieldE rfl hasA (by omega)) ?_) | (refine gD 19 ?_; refine RGl.rdX (fun e hk => by (try dsimp only [bndR, ensR, oksR, fcutR, List.append_nil, List.nil_append, List.cons_append, List.append_assoc] at hk ⊢); exact ReadR.loadE rfl hasA c1) ?_) | (refine gD 26 ?_; refine RGl.rdX (fun e hk => by (try dsimp only [bndR, ensR, oksR, fcutR, List.append_nil, List.nil_append, List.cons_append, List.append_assoc] at hk ⊢); exact ReadR.fieldE rfl hasA (by omega)) ?_) | (refine gD 27 ?_; refine RGl.rdX (fun e hk => by (try dsimp only [bndR, ensR, oksR, fcutR, List.append_nil, List.nil_append, List.cons_append, List.append_assoc] at hk ⊢); exact ReadR.loadE rfl hasA c3) ?_) | (refine gD 30 ?_; refine RGl.rdX (fun e hk => by (try dsimp only [bndR, ensR, oksR, fcutR, List.append_nil, List.nil_append, List.cons_append, List.append_assoc] at hk ⊢); exact ReadR.fieldE rfl hasA (by omega)) ?_) | (refine gD 31 ?_; refine RGl.rdX (fun e hk => by (try dsimp only [bndR, ensR, oksR, fcutR, List.append_nil, List.nil_append, List.cons_append, List.append_assoc] at hk ⊢); exact ReadR.loadE rfl hasA c5) ?_) | (refine gOp ?_; (refine gC 32 ?_; refine RGl.relG (.int .i64 0) (fun S' => dvA gV mD vd S') (fun S' => S'.vw = D1 ∧ DInv n (k + 1) S') hv32 (fun e hk => by (try dsimp only [bndR, ensR, oksR, fcutR, List.append_nil, List.nil_append, List.cons_append, List.append_assoc] at hk ⊢); exact OpT.callM c32 evsA takesA (Provs.cons (Prov.rd (HasS.vault memA hmem)) Provs.nil) (fpVaultM memA hmem) (by kernel_rfl)) ?_)) | (refine gOp ?_; first | refine RGl.rdA ?_ | refine RGl.rdX (fun e hk => by (try dsimp only [bndR, ensR, oksR, fcutR, List.append_nil, List.nil_append, List.cons_append, List.append_assoc] at hk ⊢); exact readB) ?_) | (refine RGl.fin (fun e hk => ?_); (try dsimp only [bndA, ensAR, oksA, List.append_nil, List.nil_append, List.cons_append, List.append_assoc] at hk ⊢); (repeat (obtain ⟨hk1, hk⟩ := hk))) | fail)
           | (refine isCond ?_; first | refine WPc.cT ?_ | refine WPc.cF ?_ | (refine WPc.cQ (fun hc => ?_) (fun hc => ?_) <;> try exact prA))
           | (refine isC 8 ?_; refine WPl.cV c8 ?_ (hΔ := provsW))
           | (refine isD 10 ?_; refine WPl.rdX (readP) ?_)
           | (refine isC 13 ?_; refine WPl.cTs (c13) ?_; (try dsimp only [putF, List.cons_append, List.nil_append]))
           | (refine isD 15 ?_; refine WPl.rdX (readP) ?_)
           | (refine isD 18 ?_; refine WPl.rdX (ReadR.fieldE rfl hasA (by omega)) ?_)
           | (refine isD 19 ?_; refine WPl.rdX (ReadR.loadE rfl hasA c1) ?_)
           | (show WPl _ _ _ _ _ _ _ (⟨_, .store _ (.tmp 38) _, _, _, _, _⟩ :: _) _; refine WPl.stES (new := frC fr0) (i := i * 6) (k := 6) (m := m) (xs := frs g) hfz rfl (by omega) (by omega) ?_)
           | (refine isOp ?_; first | refine WPl.rd ?_ | refine WPl.sk ?_ | refine WPl.rdB ?_)
           | (refine isSt ?_; first | refine WPl.st1 ?_ | refine WPl.stA ?_ | refine WPl.stEB ?_ | refine WPl.stRB ?_)
           | (show WPl _ _ _ _ _ _ _ (⟨_, .indexAddr _ _ _, _, _, _, _⟩ :: _) _; refine WPl.rdX (ReadR.indexE rfl rfl hasA (by first | assumption | omega)) ?_)
           | (show WPl _ _ _ _ _ _ _ (⟨_, .fieldAddr _ _ _, _, _, _, _⟩ :: _) _; refine WPl.rdX (ReadR.fieldE rfl hasA (by first | assumption | omega)) ?_)
           | (show WPl _ _ _ _ _ _ _ (⟨_, .load _ _, _, _, _, _⟩ :: _) _; first | refine WPl.rdX (ReadR.loadE rfl hasA (by assumption)) ?_ | refine WPl.rdX (ReadR.loadES (by assumption) (by first | assumption | omega) rfl hasA) ?_)
           | (show WPl _ _ _ _ _ _ _ (⟨_, .slice _ _ _ _ _, _, _, _, _⟩ :: _) _; first | refine WPl.rdX (ReadR.sliceH rfl rfl hasA (by omega)) ?_ | refine WPl.rdX (ReadR.sliceL rfl rfl hasA (by omega)) ?_ | refine WPl.rdX (ReadR.sliceLH rfl rfl rfl hasA (by omega) (by omega)) ?_)
           | (refine WPl.spQ (fun hc => ?_) (fun hc => ?_) <;> try exact prA)
           | fail)
          have hA : (fun S' => S'.vw = D1 ∧ DInv n (k + 1) S') (pickG (fun S' => dvA gV mD vd S') (fun S' => S'.vw = D1 ∧ DInv n (k + 1) S') (e 12).2) := by assumption
          obtain ⟨S', hS'⟩ : ∃ S', S' = (pickG (fun S' => dvA gV mD vd S') (fun S' => S'.vw = D1 ∧ DInv n (k + 1) S') (e 12).2) := ⟨_, rfl⟩
          rw [← hS'] at hA
          obtain ⟨hA1, hA2⟩ := hA
          dsimp only [Nat.reduceAdd]
          rw [← hS']
          rw [hz]
          exact WPq.dX (ho := ownsW) (vs := [.pointer (some (ela vF (i * 6))), .int .i64 0]) [bx gK 86 (cxc gV vF (h' : Int)), rowN 90 6 vF m (frs (g.set i fr0)), vault rs, bx gV 79 (dvc S'.fu vd mD S'.cn), rowN 81 256 vd S'.ls.length (secs S'.ls), mp secM mD S'.es, bag S'.es] ⟨⟨g.set i fr0, h', rs⟩, S', rfl, (by show Cv.mk _ _ = Cv.mk _ _; rw [hsetv]), hA1, hCs, hA2, rfl, (fun a ha => by cases ha; exact ⟨rfl, fr0, by show (g.set i fr0)[i]? = _; rw [List.getElem?_set_self hig], rfl⟩), (fun ha => by cases ha), by show _ = [_, rowN _ 6 vF (g.set i fr0).length _, _, _, _, _, _]; rw [List.length_set, hgl]⟩
        · have hg2 : giveUp (g.map Frm.vw) i h' S.vw = (⟨g.map Frm.vw, h'⟩, (S.vw.wr j f.s).1, none, (S.vw.wr j f.s).2) := by unfold giveUp; rw [hgv]; dsimp only; rw [hdt, if_pos rfl, hj, Int.toNat_natCast, if_neg he]
          rw [hg2]
          obtain ⟨D1, hD1⟩ : ∃ D1, D1 = (S.vw.wr j f.s).1 := ⟨_, rfl⟩
          obtain ⟨er, her⟩ : ∃ er, er = (S.vw.wr j f.s).2 := ⟨_, rfl⟩
          rw [← hD1, ← her] at c32 ⊢
          rw [← her] at he
          have hv32 : ∀ v Γ', RD gV mD vd n (k + 1) (.int .i64 er) D1 v Γ' → v = .int .i64 er ∧ ∃ S', Γ' = dvA gV mD vd S' ∧ (S'.vw = D1 ∧ DInv n (k + 1) S') := fun v Γ' ⟨S', h1, h2, h3, h4⟩ => ⟨h1, S', h4, h2, h3⟩
          refine Triple.enter Try.func58 rfl Try.ntmps58 rfl (fun W => ?_)
          dsimp only [argsF, Nat.reduceAdd]
          repeat' (first
           | refine WPl.nil ?_ | refine WPq.then ?_ | refine WPq.thenR ?_ | refine WPq.thenE ?_ | refine WPq.blockN ?_ | refine WPq.blockR ?_ | refine WPq.blockE ?_ | refine WPq.blockO rfl ?_ | refine WPc.seq ?_ | refine WPc.block ?_ | refine WPc.ret ?_ | refine WPc.exit ?_ | refine WPc.skip ?_ | refine WPc.region ?_
           | (refine isReg 8 ?_; refine WPc.drA [([14, 15, 16, 17], [24, 25, 26, 27, 28, 29, 30, 31]), ([0, 14, 15, 16, 17], [20, 24, 25, 26, 27, 28, 29, 30, 31]), ([0, 1, 14, 15, 16, 17], [20, 21, 24, 25, 26, 27, 28, 29, 30, 31]), ([0, 1, 2, 14, 15, 16, 17], [20, 21, 22, 24, 25, 26, 27, 28, 29, 30, 31]), ([14, 15, 16, 17], [20, 21, 22, 23, 28, 29, 30, 31]), ([4, 14, 15, 16, 17], [20, 21, 22, 23, 24, 28, 29, 30, 31]), ([4, 5, 14, 15, 16, 17], [20, 21, 22, 23, 24, 25, 28, 29, 30, 31]), ([4, 5, 6, 14, 15, 16, 17], [20, 21, 22, 23, 24, 25, 26, 28, 29, 30, 31]), ([14, 15, 16, 17], [20, 21, 22, 23, 24, 25, 26, 27]), ([8, 14, 15, 16, 17], [20, 21, 22, 23, 24, 25, 26, 27, 28]), ([8, 9, 14, 15, 16, 17], [20, 21, 22, 23, 24, 25, 26, 27, 28, 29]), ([8, 9, 10, 14, 15, 16, 17], [20, 21, 22, 23, 24, 25, 26, 27, 28, 29, 30]), ([0, 1, 2, 3, 4, 5, 6, 7, 8, 9, 10, 11, 14, 15, 16, 17], [20, 21, 22, 23, 24, 25, 26, 27, 28, 29, 30, 31]), ([0, 1, 2, 3, 4, 5, 6, 7, 8, 9, 10, 11, 12, 14, 15, 16, 17], [20, 21, 22, 23, 24, 25, 26, 27, 28, 29, 30, 31, 32])] [(14, 12), (15, 12), (16, 12), (17, 12), (14, 0), (14, 1), (14, 2), (14, 3), (14, 4), (14, 5), (14, 6), (14, 7), (14, 8), (14, 9), (14, 10), (14, 11), (15, 0), (15, 1), (15, 2), (15, 3), (15, 4), (15, 5), (15, 6), (15, 7), (15, 8), (15, 9), (15, 10), (15, 11), (16, 0), (16, 1), (16, 2), (16, 3), (16, 4), (16, 5), (16, 6), (16, 7), (16, 8), (16, 9), (16, 10), (16, 11), (17, 0), (17, 1), (17, 2), (17, 3), (17, 4), (17, 5), (17, 6), (17, 7), (17, 8), (17, 9), (17, 10), (17, 11)] (Γx := [bx gV 79 (dvc S.fu vd mD S.cn), rowN 81 256 vd S.ls.length (secs S.ls), mp secM mD S.es, bag S.es]) (hox := ownsV) ?_; dsimp only [prev0, List.length_nil, List.length_cons])
           | (refine gAny ?_; first | (refine gC 13 ?_; refine RGl.turns (fun e hk => by (try dsimp only [bndR, ensR, oksR, fcutR, List.append_nil, List.nil_append, List.cons_append, List.append_assoc] at hk ⊢); exact OpT.callTs (c13)) ?_) | (refine gD 10 ?_; refine RGl.rdX (fun e hk => by (try dsimp only [bndR, ensR, oksR, fcutR, List.append_nil, List.nil_append, List.cons_append, List.append_assoc] at hk ⊢); exact readP) ?_) | (refine gD 15 ?_; refine RGl.rdX (fun e hk => by (try dsimp only [bndR, ensR, oksR, fcutR, List.append_nil, List.nil_append, List.cons_append, List.append_assoc] at hk ⊢); exact readP) ?_) | (refine gD 18 ?_; refine RGl.rdX (fun e hk => by (try dsimp only [bndR, ensR, oksR, fcutR, List.append_nil, List.nil_append, List.cons_append, List.append_assoc] at hk ⊢); exact ReadR.fieldE rfl hasA (by omega)) ?_) | (refine gD 19 ?_; refine RGl.rdX (fun e hk => by (try dsimp only [bndR, ensR, oksR, fcutR, List.append_nil, List.nil_append, List.cons_append, List.append_assoc] at hk ⊢); exact ReadR.loadE rfl hasA c1) ?_) | (refine gD 34 ?_; refine RGl.rdX (fun e hk => by (try dsimp only [bndR, ensR, oksR, fcutR, List.append_nil, List.nil_append, List.cons_append, List.append_assoc] at hk ⊢); exact ReadR.binE rfl rfl BinR.neq (congrArg Value.bool (show (!decide _) = true by rw [decide_eq_false he]; rfl))) ?_) | (refine gD 26 ?_; refine RGl.rdX (fun e hk => by (try dsimp only [bndR, ensR, oksR, fcutR, List.append_nil, List.nil_append, List.cons_append, List.append_assoc] at hk ⊢); exact ReadR.fieldE rfl hasA (by omega)) ?_) | (refine gD 27 ?_; refine RGl.rdX (fun e hk => by (try dsimp only [bndR, ensR, oksR, fcutR, List.append_nil, List.nil_append, List.cons_append, List.append_assoc] at hk ⊢); exact ReadR.loadE rfl hasA c3) ?_) | (refine gD 30 ?_; refine RGl.rdX (fun e hk => by (try dsimp only [bndR, ensR, oksR, fcutR, List.append_nil, List.nil_append, List.cons_append, List.append_assoc] at hk ⊢); exact ReadR.fieldE rfl hasA (by omega)) ?_) | (refine gD 31 ?_; refine RGl.rdX (fun e hk => by (try dsimp only [bndR, ensR, oksR, fcutR, List.append_nil, List.nil_append, List.cons_append, List.append_assoc] at hk ⊢); exact ReadR.loadE rfl hasA c5) ?_) | (refine gOp ?_; (refine gC 32 ?_; refine RGl.relG (.int .i64 er) (fun S' => dvA gV mD vd S') (fun S' => S'.vw = D1 ∧ DInv n (k + 1) S') hv32 (fun e hk => by (try dsimp only [bndR, ensR, oksR, fcutR, List.append_nil, List.nil_append, List.cons_append, List.append_assoc] at hk ⊢); exact OpT.callM c32 evsA takesA (Provs.cons (Prov.rd (HasS.vault memA hmem)) Provs.nil) (fpVaultM memA hmem) (by kernel_rfl)) ?_)) | (refine gOp ?_; first | refine RGl.rdA ?_ | refine RGl.rdX (fun e hk => by (try dsimp only [bndR, ensR, oksR, fcutR, List.append_nil, List.nil_append, List.cons_append, List.append_assoc] at hk ⊢); exact readB) ?_) | (refine RGl.fin (fun e hk => ?_); (try dsimp only [bndA, ensAR, oksA, List.append_nil, List.nil_append, List.cons_append, List.append_assoc] at hk ⊢); (repeat (obtain ⟨hk1, hk⟩ := hk))) | fail)
           | (refine isCond ?_; first | refine WPc.cT ?_ | refine WPc.cF ?_ | (refine WPc.cQ (fun hc => ?_) (fun hc => ?_) <;> try exact prA))
           | (refine isC 8 ?_; refine WPl.cV c8 ?_ (hΔ := provsW))
           | (refine isD 10 ?_; refine WPl.rdX (readP) ?_)
           | (refine isC 13 ?_; refine WPl.cTs (c13) ?_; (try dsimp only [putF, List.cons_append, List.nil_append]))
           | (refine isD 15 ?_; refine WPl.rdX (readP) ?_)
           | (refine isD 18 ?_; refine WPl.rdX (ReadR.fieldE rfl hasA (by omega)) ?_)
           | (refine isD 19 ?_; refine WPl.rdX (ReadR.loadE rfl hasA c1) ?_)
           | (refine isD 34 ?_; refine WPl.rdX (ReadR.binE rfl rfl BinR.neq (congrArg Value.bool (show (!decide _) = true by rw [decide_eq_false he]; rfl))) ?_)
           | (refine isOp ?_; first | refine WPl.rd ?_ | refine WPl.sk ?_ | refine WPl.rdB ?_)
           | (refine isSt ?_; first | refine WPl.st1 ?_ | refine WPl.stA ?_ | refine WPl.stEB ?_ | refine WPl.stRB ?_)
           | (show WPl _ _ _ _ _ _ _ (⟨_, .indexAddr _ _ _, _, _, _, _⟩ :: _) _; refine WPl.rdX (ReadR.indexE rfl rfl hasA (by first | assumption | omega)) ?_)
           | (show WPl _ _ _ _ _ _ _ (⟨_, .fieldAddr _ _ _, _, _, _, _⟩ :: _) _; refine WPl.rdX (ReadR.fieldE rfl hasA (by first | assumption | omega)) ?_)
           | (show WPl _ _ _ _ _ _ _ (⟨_, .load _ _, _, _, _, _⟩ :: _) _; first | refine WPl.rdX (ReadR.loadE rfl hasA (by assumption)) ?_ | refine WPl.rdX (ReadR.loadES (by assumption) (by first | assumption | omega) rfl hasA) ?_)
           | (show WPl _ _ _ _ _ _ _ (⟨_, .slice _ _ _ _ _, _, _, _, _⟩ :: _) _; first | refine WPl.rdX (ReadR.sliceH rfl rfl hasA (by omega)) ?_ | refine WPl.rdX (ReadR.sliceL rfl rfl hasA (by omega)) ?_ | refine WPl.rdX (ReadR.sliceLH rfl rfl rfl hasA (by omega) (by omega)) ?_)
           | (refine WPl.spQ (fun hc => ?_) (fun hc => ?_) <;> try exact prA)
           | fail)
          have hA : (fun S' => S'.vw = D1 ∧ DInv n (k + 1) S') (pickG (fun S' => dvA gV mD vd S') (fun S' => S'.vw = D1 ∧ DInv n (k + 1) S') (e 12).2) := by assumption
          obtain ⟨S', hS'⟩ : ∃ S', S' = (pickG (fun S' => dvA gV mD vd S') (fun S' => S'.vw = D1 ∧ DInv n (k + 1) S') (e 12).2) := ⟨_, rfl⟩
          rw [← hS'] at hA
          obtain ⟨hA1, hA2⟩ := hA
          dsimp only [Nat.reduceAdd]
          rw [← hS']
          exact WPq.dX (ho := ownsW) (vs := [.pointer none, .int .i64 er]) [bx gK 86 (cxc gV vF (h' : Int)), rowN 90 6 vF m (frs g), vault rs, bx gV 79 (dvc S'.fu vd mD S'.cn), rowN 81 256 vd S'.ls.length (secs S'.ls), mp secM mD S'.es, bag S'.es] ⟨⟨g, h', rs⟩, S', rfl, rfl, hA1, hCg, hA2, rfl, (fun a ha => by cases ha), (fun ha => he), by show _ = [_, rowN _ 6 vF g.length _, _, _, _, _, _]; rw [hgl]⟩
end
end Go.Proofs.Ytepmikgjnmjheaa
