/- Separation: assertions on blocks, the state of a walk as a list of them, contracts of functions in these words, rules for code. -/
import Derived.Test.YtpjfkomicehinaaRel
import Derived.WalkKit
namespace Go.Proofs.Ytpjfkomicehinaa
open Go.RowKit
set_option linter.unusedSimpArgs false
set_option linter.unusedVariables false

/-- An assertion on some blocks of memory: of one's own, or to be read. -/
structure Asn where
  own : Bool
  fp : Nat → Prop
  holds : World → Prop
  lt : ∀ w, holds w → ∀ g, fp g → g < w.heap.size
  loc : ∀ w w', holds w → (∀ g, fp g → w'.heap[g]? = w.heap[g]?) → holds w'

def Apart (A B : Asn) : Prop := (A.own = true ∨ B.own = true) → ∀ g, A.fp g → B.fp g → False
theorem Apart.symm {A B : Asn} (h : Apart A B) : Apart B A := fun ho g hb ha => h ho.symm g ha hb

def ownFp (Γ : List Asn) (g : Nat) : Prop := ∃ A, A ∈ Γ ∧ A.own = true ∧ A.fp g

def Holds (Γ : List Asn) (w : World) : Prop := ∀ A, A ∈ Γ → A.holds w

/-! ### Draws are never taken back -/
theorem ask_drawn {α : Type} (a : Ask α) : ∀ w : World, w.drawn ≤ (w.ask a).2.drawn := by
  induction a with
  | done a => intro w; exact Nat.le_refl _
  | ask what range k ih =>
    intro w
    unfold World.ask
    simp only
    split
    · exact ih _ w
    · exact Nat.le_trans (Nat.le_succ w.drawn) (ih _ ({ w with drawn := w.drawn + 1 } : World))
theorem sys_drawn (w : World) (c : Sys) : w.drawn ≤ (w.sys c).2.drawn := by
  have h := ask_drawn (Kernel.perform c w.os) w
  unfold World.sys
  split
  · exact Nat.le_refl _
  · rename_i e
    rw [e] at h
    exact h
theorem far_drawn {p : Program} {w w' : World} {a : Addr} {v : Value} {b : Bool} {l : List Addr} (h : w.farStore p a v b = .ok (w', l)) : w'.drawn = w.drawn := by
  unfold World.farStore at h
  split at h
  · split at h
    · rename_i r hr
      cases h
      unfold World.viewStore at hr
      simp only [bind, Except.bind, pure, Except.pure, throw, throwThe, MonadExceptOf.throw] at hr
      repeat' split at hr
      all_goals first | (cases hr; done) | (cases hr; rfl)
    · cases h
  · cases h
theorem run_drawn {α : Type} {P : Program} (s : Sem α) : ∀ {w w' : World} {a : α}, s.run P w = .ok a w' → w.drawn ≤ w'.drawn := by
  induction s with
  | pure a => intro w w' b h; simp only [Sem.run] at h; cases h; exact Nat.le_refl _
  | load m ad k ih =>
    intro w w' b h
    simp only [Sem.run] at h
    split at h
    · exact ih _ h
    · split at h
      · exact ih _ h
      · cases h
  | store m ad v k ih =>
    intro w w' b h
    have key : (∀ xs, v ≠ .agg xs) → (∀ xs, v ≠ .tuple xs) → w.drawn ≤ w'.drawn := fun n1 n2 => by
      rw [Sem.run.eq_5 P w m ad v k n1 n2] at h
      split at h
      · split at h
        · cases h
        · exact ih (w := w.setCell ad v) h
      · split at h
        · rename_i hf
          have := ih h
          rwa [far_drawn hf] at this
        · cases h
    cases v with
    | agg xs => simp only [Sem.run] at h; cases h
    | tuple xs => simp only [Sem.run] at h; cases h
    | _ => exact key (fun xs h => by cases h) (fun xs h => by cases h)
  | new o k ih => intro w w' b h; exact ih _ (w := { w with heap := w.heap.push o }) h
  | shape r k ih => intro w w' b h; exact ih _ h
  | freeze ad n k ih =>
    intro w w' b h
    have := ih (w := w.freeze ad n) h
    unfold World.freeze at this
    split at this <;> exact this
  | frozen ad k ih => intro w w' b h; exact ih _ h
  | getObj r k ih =>
    intro w w' b h
    simp only [Sem.run] at h
    split at h
    · cases h
    · exact ih _ h
    · cases h
  | setObj r o k ih =>
    intro w w' b h
    simp only [Sem.run] at h
    split at h
    · cases h
    · exact ih (w := { w with heap := w.heap.setIfInBounds r o }) h
    · cases h
  | choose q k ih =>
    intro w w' b h
    simp only [Sem.run] at h
    split at h
    · exact ih _ h
    · exact Nat.le_trans (Nat.le_succ _) (ih _ h)
  | sys c k ih => intro w w' b h; exact Nat.le_trans (sys_drawn w c) (ih _ (w := (w.sys c).2) h)
  | program k ih => intro w w' b h; exact ih _ h
  | mark m k ih => intro w w' b h; exact ih h
  | halt hh => intro w w' b h; cases h

/-- Outside T nothing has turned. -/
structure Mod (T : Nat → Prop) (w w' : World) : Prop where
  os : w'.os = w.os
  tape : w'.tape = w.tape
  output : w'.output = w.output
  size : w.heap.size ≤ w'.heap.size
  drawn : w.heap.size ≤ w'.heap.size
  block : ∀ g, g < w.heap.size → ¬ T g → w'.heap[g]? = w.heap[g]?

theorem Mod.refl (T : Nat → Prop) (w : World) : Mod T w w := ⟨rfl, rfl, rfl, Nat.le_refl _, Nat.le_refl _, fun _ _ _ => rfl⟩
theorem Mod.trans {T : Nat → Prop} {a b c : World} (h : Mod T a b) (k : Mod T b c) : Mod T a c :=
  ⟨k.os.trans h.os, k.tape.trans h.tape, k.output.trans h.output, Nat.le_trans h.size k.size, Nat.le_trans h.drawn k.drawn, fun g hg ht => (k.block g (Nat.lt_of_lt_of_le hg h.size) ht).trans (h.block g hg ht)⟩
theorem Mod.weaken {T T' : Nat → Prop} {a b : World} (h : Mod T a b) (ht : ∀ g, g < a.heap.size → T g → T' g) : Mod T' a b :=
  ⟨h.os, h.tape, h.output, h.size, h.drawn, fun g hg hn => h.block g hg fun ht' => hn (ht g hg ht')⟩
/-- A step that turns only T, and what is new since a. -/
theorem Mod.after {T T' : Nat → Prop} {a b c : World} (h : Mod T a b) (k : Mod T' b c) (ht : ∀ g, g < a.heap.size → T' g → T g) : Mod T a c :=
  ⟨k.os.trans h.os, k.tape.trans h.tape, k.output.trans h.output, Nat.le_trans h.size k.size, Nat.le_trans h.drawn k.drawn,
    fun g hg hn => (k.block g (Nat.lt_of_lt_of_le hg h.size) fun h' => hn (ht g hg h')).trans (h.block g hg hn)⟩

/-- What a step that may turn T leaves: these assertions, on new blocks or on T. -/
structure Post (T : Nat → Prop) (w : World) (Γ : List Asn) (w' : World) : Prop where
  mod : Mod T w w'
  all : Holds Γ w'
  apart : Γ.Pairwise Apart
  new : ∀ A, A ∈ Γ → ∀ g, A.fp g → w.heap.size ≤ g ∨ T g

theorem Post.nil {T : Nat → Prop} {w w' : World} (h : Mod T w w') : Post T w [] w' := ⟨h, by simp [Holds], .nil, by simp⟩

/-- The state of a walk that began at W and may turn S. -/
structure Good (W : World) (S : Nat → Prop) (Γ : List Asn) (w : World) : Prop where
  mod : Mod S W w
  all : Holds Γ w
  apart : Γ.Pairwise Apart
  mine : ∀ A, A ∈ Γ → A.own = true → ∀ g, A.fp g → W.heap.size ≤ g ∨ S g

theorem apart_perm {Γ Γ' : List Asn} (hp : Γ.Perm Γ') (h : Γ.Pairwise Apart) : Γ'.Pairwise Apart :=
  hp.pairwise h (fun h => h.symm)

theorem Good.perm {W w : World} {S : Nat → Prop} {Γ Γ' : List Asn} (hp : Γ.Perm Γ') (h : Good W S Γ w) : Good W S Γ' w :=
  ⟨h.mod, fun A hA => h.all A (hp.mem_iff.2 hA), apart_perm hp h.apart, fun A hA => h.mine A (hp.mem_iff.2 hA)⟩

theorem Good.left {W w : World} {S : Nat → Prop} {Γ Γ' : List Asn} (h : Good W S (Γ ++ Γ') w) : Good W S Γ w :=
  ⟨h.mod, fun A hA => h.all A (List.mem_append_left _ hA), (List.pairwise_append.1 h.apart).1, fun A hA => h.mine A (List.mem_append_left _ hA)⟩

/-- The frame: a step on Γo leaves the rest as it is. -/
theorem Good.step {W w w' : World} {S : Nat → Prop} {Γo Γf Γ' : List Asn} (h : Good W S (Γo ++ Γf) w) (hp : Post (ownFp Γo) w Γ' w') : Good W S (Γ' ++ Γf) w' := by
  obtain ⟨ha1, ha2, ha3⟩ := List.pairwise_append.1 h.apart
  have hlt : ∀ A, A ∈ Γf → ∀ g, A.fp g → g < w.heap.size := fun A hA g hg => A.lt w (h.all A (List.mem_append_right _ hA)) g hg
  have hno : ∀ A, A ∈ Γf → ∀ g, A.fp g → ¬ ownFp Γo g := by
    rintro A hA g hg ⟨B, hB, ho, hBg⟩
    exact ha3 B hB A hA (.inl ho) g hBg hg
  refine ⟨?_, ?_, ?_, ?_⟩
  · refine h.mod.after hp.mod ?_
    rintro g hg ⟨B, hB, ho, hBg⟩
    rcases h.mine B (List.mem_append_left _ hB) ho g hBg with h1 | h1
    · omega
    · exact h1
  · intro A hA
    rcases List.mem_append.1 hA with hA | hA
    · exact hp.all A hA
    · exact A.loc w w' (h.all A (List.mem_append_right _ hA)) fun g hg => hp.mod.block g (hlt A hA g hg) (hno A hA g hg)
  · refine List.pairwise_append.2 ⟨hp.apart, ha2, fun A hA B hB ho g hg hg' => ?_⟩
    rcases hp.new A hA g hg with h1 | h1
    · have := hlt B hB g hg'; omega
    · exact hno B hB g hg' h1
  · intro A hA ho g hg
    rcases List.mem_append.1 hA with hA | hA
    · rcases hp.new A hA g hg with h1 | ⟨B, hB, hBo, hBg⟩
      · exact .inl (Nat.le_trans h.mod.size h1)
      · exact h.mine B (List.mem_append_left _ hB) hBo g hBg
    · exact h.mine A (List.mem_append_right _ hA) ho g hg

/-- A part of a list, and the rest. -/
def Take (Γ : List Asn) (A : Asn) (Γ' : List Asn) : Prop := Γ.Perm (A :: Γ')
theorem Take.here {A : Asn} {Γ : List Asn} : Take (A :: Γ) A Γ := .refl _
theorem Take.there {A B : Asn} {Γ Γ' : List Asn} (h : Take Γ A Γ') : Take (B :: Γ) A (B :: Γ') := (h.cons B).trans (.swap A B Γ')

def Takes (Γ Δ Γ' : List Asn) : Prop := Γ.Perm (Δ ++ Γ')
theorem Takes.nil {Γ : List Asn} : Takes Γ [] Γ := .refl _
theorem Takes.cons {A : Asn} {Γ Δ Γ1 Γ2 : List Asn} (h : Take Γ A Γ1) (h' : Takes Γ1 Δ Γ2) : Takes Γ (A :: Δ) Γ2 :=
  List.Perm.trans h (List.Perm.cons A h')

theorem Takes.skip {A : Asn} {Γ Δ Γ' : List Asn} (h : Takes Γ Δ Γ') : Takes (A :: Γ) Δ (A :: Γ') := (List.Perm.cons A h).trans List.perm_middle.symm
theorem Takes.all {Γ : List Asn} : Takes Γ Γ [] := by unfold Takes; rw [List.append_nil]

/-- What is only read can be told twice. -/
theorem Good.dup {W w : World} {S : Nat → Prop} {Γ : List Asn} {A : Asn} (hA : A ∈ Γ) (ho : A.own = false) (h : Good W S Γ w) : Good W S (A :: Γ) w := by
  refine ⟨h.mod, fun B hB => ?_, List.pairwise_cons.2 ⟨fun B hB hor g hg hg' => ?_, h.apart⟩, fun B hB => ?_⟩
  · rcases List.mem_cons.1 hB with rfl | hB
    · exact h.all _ hA
    · exact h.all B hB
  · rw [ho] at hor
    have hBo : B.own = true := hor.resolve_left (by simp)
    have key : ∀ {l : List Asn}, l.Pairwise Apart → A ∈ l → B ∈ l → A = B ∨ Apart A B := by
      intro l hl
      induction hl with
      | nil => intro h; cases h
      | cons hx _ ih =>
        intro h1 h2
        rcases List.mem_cons.1 h1 with e1 | e1
        · rcases List.mem_cons.1 h2 with e2 | e2
          · exact .inl (e1.trans e2.symm)
          · exact .inr (e1 ▸ hx _ e2)
        · rcases List.mem_cons.1 h2 with e2 | e2
          · exact .inr (e2 ▸ (hx _ e1)).symm
          · exact ih e1 e2
    rcases key h.apart hA hB with rfl | hap
    · rw [ho] at hBo; cases hBo
    · exact hap (.inr hBo) g hg hg'
  · rcases List.mem_cons.1 hB with rfl | hB
    · intro h'; rw [ho] at h'; cases h'
    · exact h.mine B hB

/-- The contract of a function. -/
def Triple (P : Program) (f : FuncId) (args : Array Value) (Γ : List Asn) (R : Value → List Asn → Prop) : Prop :=
  ∀ w, Holds Γ w → Γ.Pairwise Apart → Calls P f args w fun e w' => ∃ v Γ', e = .returned v ∧ R v Γ' ∧ Post (ownFp Γ) w Γ' w'

theorem Triple.mono {P : Program} {f : FuncId} {args : Array Value} {Γ : List Asn} {R R' : Value → List Asn → Prop} (h : Triple P f args Γ R) (hr : ∀ v Γ', R v Γ' → R' v Γ') : Triple P f args Γ R' :=
  fun w hw ha => (h w hw ha).mono fun _ _ ⟨v, Γ', he, r, p⟩ => ⟨v, Γ', he, hr _ _ r, p⟩

/-! ### Slots -/

/-- What is known of the slots. -/
def lkT : List (Nat × Value) → Nat → Option Value
  | [], _ => none
  | (t, v) :: F, u => match Nat.beq t u with | true => some v | false => lkT F u

def evF (F : List (Nat × Value)) : Operand → Option Value
  | .tmp t => lkT F t
  | .const v => some v
  | .func f => some (.func (.func f) #[] #[])
  | .global g => some (.pointer (some ⟨g, 0, none⟩))

structure Fr (n : Nat) (F : List (Nat × Value)) (a : Act) : Prop where
  size : a.tmps.size = n
  defers : a.defers = []
  get : ∀ t v, lkT F t = some v → a.tmps.getD t undef = v

theorem Fr.eval {n : Nat} {F : List (Nat × Value)} {a : Act} (h : Fr n F a) {x : Operand} {v : Value} (hx : evF F x = some v) : a.eval x = v := by
  cases x with
  | tmp t => exact h.get t v hx
  | const c => cases hx; rfl
  | func f => cases hx; rfl
  | global g => cases hx; rfl

def putF (F : List (Nat × Value)) : Option Tmp → Value → List (Nat × Value)
  | none, _ => F
  | some d, v => (d, v) :: F

def dstOk (n : Nat) : Option Tmp → Bool
  | none => true
  | some d => Nat.blt d n

theorem lkT_cons_eq (F : List (Nat × Value)) (t : Nat) (v : Value) : lkT ((t, v) :: F) t = some v := by simp [lkT]
theorem lkT_cons_ne (F : List (Nat × Value)) {t u : Nat} (v : Value) (h : t ≠ u) : lkT ((t, v) :: F) u = lkT F u := by
  have : Nat.beq t u = false := by rw [← Bool.not_eq_true]; intro hb; exact h (Nat.eq_of_beq_eq_true hb)
  simp [lkT, this]

theorem Fr.put {n : Nat} {F : List (Nat × Value)} {a : Act} (h : Fr n F a) {d : Option Tmp} (hd : dstOk n d = true) (v : Value) : Fr n (putF F d v) (a.put d v) := by
  refine ⟨by rw [put_size]; exact h.size, by rw [put_defers]; exact h.defers, ?_⟩
  cases d with
  | none => exact h.get
  | some d =>
    have hlt : d < n := Nat.le_of_ble_eq_true hd
    intro t u ht
    by_cases e : d = t
    · subst e
      simp only [putF, lkT_cons_eq] at ht
      cases ht
      exact put_getD_eq _ _ _ (by rw [h.size]; exact hlt)
    · rw [putF, lkT_cons_ne _ _ e] at ht
      rw [put_getD_ne _ _ _ _ (by intro hh; cases hh; exact e rfl)]
      exact h.get t u ht

/-- Fewer slots. -/
def FrSub (F : List (Nat × Value)) : List (Nat × Value) → Prop
  | [] => True
  | (t, v) :: F' => lkT F t = some v ∧ FrSub F F'
theorem FrSub.nil {F : List (Nat × Value)} : FrSub F [] := trivial
theorem FrSub.cons {F F' : List (Nat × Value)} {t : Nat} {v : Value} (h : lkT F t = some v) (k : FrSub F F') : FrSub F ((t, v) :: F') := ⟨h, k⟩
theorem FrSub.get {F : List (Nat × Value)} : ∀ {F' : List (Nat × Value)}, FrSub F F' → ∀ t v, lkT F' t = some v → lkT F t = some v
  | [], _, _, _, h => by simp [lkT] at h
  | (t', v') :: F', h, t, v, hv => by
    by_cases e : t' = t
    · subst e
      rw [lkT_cons_eq] at hv
      cases hv
      exact h.1
    · rw [lkT_cons_ne _ _ e] at hv
      exact FrSub.get h.2 t v hv
theorem Fr.sub {n : Nat} {F F' : List (Nat × Value)} {a : Act} (h : Fr n F a) (hs : FrSub F F') : Fr n F' a :=
  ⟨h.size, h.defers, fun t v hv => h.get t v (hs.get t v hv)⟩

/-! ### The judgements -/

def WPc (P : Program) (n : Nat) (W : World) (S : Nat → Prop) (Γ : List Asn) (F : List (Nat × Value)) (c : Code) (Q : Exit → Act → World → Prop) : Prop :=
  ∀ a w, Fr n F a → Good W S Γ w → c.wp P Q a w
def WPl (P : Program) (n : Nat) (W : World) (S : Nat → Prop) (Γ : List Asn) (F : List (Nat × Value)) (ops : Array Oper) (os : List Oper) (Q : Exit → Act → World → Prop) : Prop :=
  ∀ a w, Fr n F a → Good W S Γ w → wpList P ops Q os a w
def WPq (n : Nat) (W : World) (S : Nat → Prop) (Γ : List Asn) (F : List (Nat × Value)) (Q : Exit → Act → World → Prop) (e : Exit) : Prop :=
  ∀ a w, Fr n F a → Good W S Γ w → Q e a w

section
variable {P : Program} {n : Nat} {W : World} {S : Nat → Prop} {Γ : List Asn} {F : List (Nat × Value)} {Q : Exit → Act → World → Prop}

theorem WPc.seq {x y : Code} (h : WPc P n W S Γ F x (Exit.then (y.wp P Q) Q)) : WPc P n W S Γ F (.seq x y) Q := fun a w hf hg => wp_seq (h a w hf hg)
theorem WPc.skip (h : WPq n W S Γ F Q .normal) : WPc P n W S Γ F .skip Q := fun a w hf hg => wp_skip (h a w hf hg)
theorem WPc.exit {id : Nat} (h : WPq n W S Γ F Q (.exit id)) : WPc P n W S Γ F (.exit id) Q := fun a w hf hg => wp_exit (h a w hf hg)
theorem WPc.ret (h : WPq n W S Γ F Q .ret) : WPc P n W S Γ F .ret Q := fun a w hf hg => wp_ret (h a w hf hg)
theorem WPc.block {id : Nat} {c : Code} (h : WPc P n W S Γ F c (Exit.inBlock id Q)) : WPc P n W S Γ F (.block id c) Q := fun a w hf hg => wp_block (h a w hf hg)
theorem WPc.condT {c : Operand} {x y : Code} (hc : evF F c = some (.bool true)) (h : WPc P n W S Γ F x Q) : WPc P n W S Γ F (.cond c x y) Q :=
  fun a w hf hg => wp_cond_true (hf.eval hc) (h a w hf hg)
theorem WPc.condF {c : Operand} {x y : Code} (hc : evF F c = some (.bool false)) (h : WPc P n W S Γ F y Q) : WPc P n W S Γ F (.cond c x y) Q :=
  fun a w hf hg => wp_cond_false (hf.eval hc) (h a w hf hg)
theorem WPc.cond {c : Operand} {x y : Code} {b : Bool} (hc : evF F c = some (.bool b)) (h1 : b = true → WPc P n W S Γ F x Q) (h2 : b = false → WPc P n W S Γ F y Q) : WPc P n W S Γ F (.cond c x y) Q :=
  fun a w hf hg => wp_cond_split (hf.eval hc) (fun h => h1 h a w hf hg) fun h => h2 h a w hf hg
theorem WPc.region {id : Nat} {l : List Oper} (h : WPl P n W S Γ F l.toArray l Q) : WPc P n W S Γ F (.region id l.toArray false) Q :=
  fun a w hf hg => wp_region_lit (h a w hf hg)

theorem WPl.nil {ops : Array Oper} (h : WPq n W S Γ F Q .normal) : WPl P n W S Γ F ops [] Q := fun a w hf hg => h a w hf hg

theorem WPq.then {y : Code} (h : WPc P n W S Γ F y Q) : WPq n W S Γ F (Exit.then (y.wp P Q) Q) .normal := h
theorem WPq.thenE {K : Act → World → Prop} {id : Nat} (h : WPq n W S Γ F Q (.exit id)) : WPq n W S Γ F (Exit.then K Q) (.exit id) := h
theorem WPq.thenR {K : Act → World → Prop} (h : WPq n W S Γ F Q .ret) : WPq n W S Γ F (Exit.then K Q) .ret := h
theorem WPq.blockN {id : Nat} (h : WPq n W S Γ F Q .normal) : WPq n W S Γ F (Exit.inBlock id Q) .normal := h
theorem WPq.blockR {id : Nat} (h : WPq n W S Γ F Q .ret) : WPq n W S Γ F (Exit.inBlock id Q) .ret := h
theorem WPq.blockE {id : Nat} (h : WPq n W S Γ F Q .normal) : WPq n W S Γ F (Exit.inBlock id Q) (.exit id) := fun a w hf hg => by
  simp only [Exit.inBlock, if_true]; exact h a w hf hg
theorem WPq.blockO {id id' : Nat} (hne : Nat.beq id' id = false) (h : WPq n W S Γ F Q (.exit id')) : WPq n W S Γ F (Exit.inBlock id Q) (.exit id') := fun a w hf hg => by
  have : id' ≠ id := by rintro rfl; simp at hne
  simp only [Exit.inBlock, this, if_false]; exact h a w hf hg

/-- Known less. -/
theorem WPc.conseq {Γ' Γx : List Asn} {F' : List (Nat × Value)} {c : Code} (hΓ : Takes Γ Γ' Γx) (hF : FrSub F F') (h : WPc P n W S Γ' F' c Q) : WPc P n W S Γ F c Q :=
  fun a w hf hg => h a w (hf.sub hF) (hg.perm hΓ).left
theorem WPc.slots {F' : List (Nat × Value)} {c : Code} (hF : FrSub F F') (h : WPc P n W S Γ F' c Q) : WPc P n W S Γ F c Q :=
  fun a w hf hg => h a w (hf.sub hF) hg

/-- What is in the state can be asked at any time. -/
theorem WPc.know {p : Prop} {c : Code} (hp : ∀ w, Holds Γ w → p) (h : p → WPc P n W S Γ F c Q) : WPc P n W S Γ F c Q :=
  fun a w hf hg => h (hp w hg.all) a w hf hg
theorem WPl.know {p : Prop} {ops : Array Oper} {os : List Oper} (hp : ∀ w, Holds Γ w → p) (h : p → WPl P n W S Γ F ops os Q) : WPl P n W S Γ F ops os Q :=
  fun a w hf hg => h (hp w hg.all) a w hf hg

theorem WPc.dup {A : Asn} {c : Code} (hA : A ∈ Γ) (ho : A.own = false) (h : WPc P n W S (A :: Γ) F c Q) : WPc P n W S Γ F c Q := fun a w hf hg => h a w hf (hg.dup hA ho)
theorem WPl.dup {A : Asn} {ops : Array Oper} {os : List Oper} (hA : A ∈ Γ) (ho : A.own = false) (h : WPl P n W S (A :: Γ) F ops os Q) : WPl P n W S Γ F ops os Q := fun a w hf hg => h a w hf (hg.dup hA ho)

/-- A loop: what stands at its head, over all x that are ok. -/
theorem WPc.loop {σ : Type} {c : Code} (ok : σ → Prop) (ΓI : σ → List Asn) (FI : σ → List (Nat × Value)) (μ : σ → Nat) (x0 : σ) {Γx : List Asn} (h0 : ok x0) (hΓ : Takes Γ (ΓI x0) Γx) (hF : FrSub F (FI x0))
    (round : ∀ x k, ok x → k = μ x → WPc P n W S (ΓI x) (FI x) c (Exit.then (fun a w => ∃ x', ok x' ∧ μ x' < k ∧ Fr n (FI x') a ∧ Good W S (ΓI x') w) Q)) : WPc P n W S Γ F (.loop c) Q := by
  intro a w hf hg
  refine fun b k cs => ?_
  have key : ∀ m x a w, μ x = m → ok x → Fr n (FI x) a → Good W S (ΓI x) w →
      ∃ e a' w', Q e a' w' ∧ Arrives P (lone (b.at a (.code c :: .inLoop c :: k)) cs w) b k cs e a' w' := by
    intro m
    induction m using Nat.strongRecOn with
    | _ m ih =>
      intro x a w hm hx hfx hgx
      obtain ⟨e, a₁, w₁, hq, harr⟩ := round x _ hx rfl a w hfx hgx b (.inLoop c :: k) cs
      cases e with
      | normal =>
        obtain ⟨x', hx', hlt, hf', hg'⟩ := hq
        obtain ⟨e₂, a₂, w₂, hq₂, harr₂⟩ := ih (μ x') (hm ▸ hlt) x' a₁ w₁ rfl hx' hf' hg'
        exact ⟨e₂, a₂, w₂, hq₂, .of_steps (Steps.trans harr (.one step_inLoop)) harr₂⟩
      | exit id => exact ⟨_, a₁, w₁, hq, .pass (x := .inLoop c) rfl (fun _ _ => .inl (by simp)) harr⟩
      | goto l => exact ⟨_, a₁, w₁, hq, .pass (x := .inLoop c) rfl (fun _ _ => .inl (by simp)) harr⟩
      | ret => exact ⟨_, a₁, w₁, hq, .pass (x := .inLoop c) rfl (fun _ _ => .inl (by simp)) harr⟩
      | panic ch => exact ⟨_, a₁, w₁, hq, .pass (x := .inLoop c) rfl (fun _ _ => .inl (by simp)) harr⟩
      | outgrown => exact ⟨_, a₁, w₁, hq, .pass (x := .inLoop c) rfl (fun _ _ => .inl (by simp)) harr⟩
  obtain ⟨e, a', w', hq, harr⟩ := key _ x0 a w rfl h0 (hf.sub hF) (hg.perm hΓ).left
  exact ⟨e, a', w', hq, .of_steps (.one step_loop) harr⟩

/-- The end of a round. -/
theorem WPq.round {σ : Type} {ok : σ → Prop} {ΓI : σ → List Asn} {FI : σ → List (Nat × Value)} {μ : σ → Nat} {k : Nat} (x' : σ) {Γx : List Asn} (h0 : ok x') (hμ : μ x' < k) (hΓ : Takes Γ (ΓI x') Γx) (hF : FrSub F (FI x')) :
    WPq n W S Γ F (Exit.then (fun a w => ∃ x', ok x' ∧ μ x' < k ∧ Fr n (FI x') a ∧ Good W S (ΓI x') w) Q) .normal :=
  fun a w hf hg => ⟨x', h0, hμ, hf.sub hF, (hg.perm hΓ).left⟩

/-! ### Operations -/

/-- What an operation that is wanted does. -/
def DoesW (P : Program) (o : Oper) (ρ : Act) (w : World) (R : Value → World → Prop) : Prop :=
  match (execOp ρ.eval o).run P w with
  | .ok (.value v) w' => R v w'
  | .ok .skip w' => R undef w'
  | .ok (.enter f args) w' => Calls P f args w' fun e w'' => ∃ v, e = .returned v ∧ R v w''
  | .ok (.row row args) w' => Rows P row args w' R
  | _ => False

theorem DoesW.mono {o : Oper} {ρ : Act} {w : World} {R R' : Value → World → Prop} (h : DoesW P o ρ w R) (hr : ∀ v w', R v w' → R' v w') : DoesW P o ρ w R' := by
  unfold DoesW at *
  generalize (execOp ρ.eval o).run P w = r at h
  cases r with
  | ok m w' =>
    cases m with
    | value v => exact hr _ _ h
    | skip => exact hr _ _ h
    | enter f args => exact Calls.mono h fun e w'' ⟨v, he, hR⟩ => ⟨v, he, hr _ _ hR⟩
    | row row args => exact Rows.mono h hr
    | _ => exact h.elim
  | halt x w' => exact h.elim

theorem DoesW.wpList {ops : Array Oper} {os : List Oper} {o : Oper} {a : Act} {w : World} {R : Value → World → Prop} (hg : Region.wanted o (yielded ops a.tmps) = true) (h : DoesW P o a w R)
    (k : ∀ v w', R v w' → wpList P ops Q os (a.put o.dst v) w') : wpList P ops Q (o :: os) a w := by
  refine wpList_step fun K hK => ?_
  rw [if_pos hg]
  unfold DoesW at h
  unfold Oper.wp
  generalize (execOp a.eval o).run P w = r at h
  cases r with
  | ok m w' =>
    cases m with
    | value v => exact hK _ _ (k _ _ h)
    | skip => exact hK _ _ (k _ _ h)
    | enter f args =>
      refine Calls.mono h ?_
      rintro e w'' ⟨v, rfl, hR⟩
      exact hK _ _ (k _ _ hR)
    | row row args => exact Rows.mono h fun v w'' hR => hK _ _ (k _ _ hR)
    | _ => exact h.elim
  | halt x w' => exact h.elim

/-- Whether an operation is wanted. -/
def wantG (F : List (Nat × Value)) (ops : Array Oper) : Option (Nat × Bool) → Option Bool
  | none => some true
  | some (j, b) => match (ops[j]?).bind (·.dst) with
    | none => none
    | some d => match lkT F d with
      | some (.bool c) => some (c == b)
      | some (.tuple _) => some false
      | _ => none

theorem wanted_of {ops : Array Oper} {o : Oper} {a : Act} {b : Bool} (hf : Fr n F a) (h : wantG F ops o.guard = some b) : Region.wanted o (yielded ops a.tmps) = b := by
  unfold wantG at h
  cases hg : o.guard with
  | none => rw [hg] at h; cases h; simp [Region.wanted, hg]
  | some jb =>
    obtain ⟨j, c⟩ := jb
    rw [hg] at h
    simp only at h
    cases hd : (ops[j]?).bind (·.dst) with
    | none => rw [hd] at h; cases h
    | some d =>
      rw [hd] at h
      simp only at h
      split at h
      · rename_i c' hc'
        cases h
        by_cases e : c' = c
        · subst e
          rw [wanted_yes hg hd (hf.get _ _ hc')]
          simp
        · rw [wanted_no hg hd (hf.get _ _ hc') e]
          simp [e]
      · rename_i vs hc'
        cases h
        have hv := hf.get _ _ hc'
        simp only [Region.wanted, hg, yielded, hd, Option.bind_some]
        rw [Array.getD_eq_getD_getElem?] at hv
        cases ht : a.tmps[d]? with
        | none => rfl
        | some v => rw [ht] at hv; simp only [Option.getD_some] at hv; subst hv; rfl
      · cases h

/-- The rule of an operation: it takes Γo, and leaves Γ'. -/
theorem WPl.op {ops : Array Oper} {os : List Oper} {o : Oper} {Γo Γf : List Asn} {R : Value → List Asn → Prop} (hp : Takes Γ Γo Γf) (hd : dstOk n o.dst = true) (hw : wantG F ops o.guard = some true)
    (h : ∀ ρ w, Fr n F ρ → Holds Γ w → Γ.Pairwise Apart → DoesW P o ρ w fun v w' => ∃ Γ', R v Γ' ∧ Post (ownFp Γo) w Γ' w')
    (k : ∀ v Γ', R v Γ' → WPl P n W S (Γ' ++ Γf) (putF F o.dst v) ops os Q) : WPl P n W S Γ F ops (o :: os) Q := by
  intro a w hf hg
  refine DoesW.wpList (wanted_of hf hw) (h a w hf hg.all hg.apart) ?_
  rintro v w' ⟨Γ', hR, hpost⟩
  exact k v Γ' hR _ _ (hf.put hd v) ((hg.perm hp).step hpost)

theorem WPl.skip {ops : Array Oper} {os : List Oper} {o : Oper} {d : Tmp} (hw : wantG F ops o.guard = some false) (hd : o.dst = some d) (hlt : Nat.blt d n = true) (k : WPl P n W S Γ ((d, undef) :: F) ops os Q) : WPl P n W S Γ F ops (o :: os) Q := by
  intro a w hf hg
  unfold wpList
  rw [if_neg (by rw [wanted_of hf hw]; decide), hd]
  exact k _ _ (hf.put (d := some d) hlt undef) hg

/-- A slot's bool is decided. -/
theorem WPl.split {ops : Array Oper} {os : List Oper} (d : Nat) {b : Bool} (h : lkT F d = some (.bool b)) (h1 : b = true → WPl P n W S Γ ((d, .bool true) :: F) ops os Q) (h2 : b = false → WPl P n W S Γ ((d, .bool false) :: F) ops os Q) : WPl P n W S Γ F ops os Q := by
  intro a w hf hg
  have key : Fr n ((d, .bool b) :: F) a := by
    refine ⟨hf.size, hf.defers, fun t v hv => ?_⟩
    by_cases e : d = t
    · subst e
      rw [lkT_cons_eq] at hv
      cases hv
      exact hf.get _ _ h
    · rw [lkT_cons_ne _ _ e] at hv
      exact hf.get _ _ hv
  cases hb : b with
  | true => rw [hb] at key; exact h1 hb a w key hg
  | false => rw [hb] at key; exact h2 hb a w key hg

/-- What an operation that only reads gives. -/
def ReadR (P : Program) (n : Nat) (Γ : List Asn) (F : List (Nat × Value)) (o : Oper) (v : Value) : Prop :=
  ∀ (ρ : Act) (w : World), Fr n F ρ → Holds Γ w → (execOp ρ.eval o).run P w = .ok (.value v) w

theorem WPl.read {ops : Array Oper} {os : List Oper} {o : Oper} {v : Value} {d : Tmp} (hd : o.dst = some d) (hlt : Nat.blt d n = true) (hw : wantG F ops o.guard = some true) (h : ReadR P n Γ F o v)
    (k : WPl P n W S Γ ((d, v) :: F) ops os Q) : WPl P n W S Γ F ops (o :: os) Q := by
  intro a w hf hg
  refine DoesW.wpList (R := fun v' w' => v' = v ∧ w' = w) (wanted_of hf hw) (by unfold DoesW; rw [h a w hf hg.all]; exact ⟨rfl, rfl⟩) ?_
  rintro v' w' ⟨rfl, rfl⟩
  rw [hd]
  exact k _ _ (hf.put (d := some d) hlt v') hg

end

/-! ### Calls -/

/-- What is needed of the state, and can be had of it. -/
def Prov (Γ : List Asn) (A : Asn) : Prop := A.own = false ∧ ∀ w, Holds Γ w → A.holds w
def Provs (Γ : List Asn) : List Asn → Prop
  | [] => True
  | A :: Δ => Prov Γ A ∧ Provs Γ Δ
theorem Provs.nil {Γ : List Asn} : Provs Γ [] := trivial
theorem Provs.cons {Γ Δ : List Asn} {A : Asn} (h : Prov Γ A) (k : Provs Γ Δ) : Provs Γ (A :: Δ) := ⟨h, k⟩
theorem Provs.mem {Γ : List Asn} : ∀ {Δ : List Asn}, Provs Γ Δ → ∀ A, A ∈ Δ → Prov Γ A
  | B :: Δ, h, A, hA => by
    rcases List.mem_cons.1 hA with rfl | hA
    · exact h.1
    · exact Provs.mem h.2 A hA

theorem apart_ro {Γ : List Asn} (h : ∀ A, A ∈ Γ → A.own = false) : Γ.Pairwise Apart := by
  rw [List.pairwise_iff_getElem]
  intro i j hi hj _ ho
  have h1 := h _ (List.getElem_mem hi)
  have h2 := h _ (List.getElem_mem hj)
  rw [h1, h2] at ho
  simp at ho

theorem ownFp_ro {Γ : List Asn} (h : ∀ A, A ∈ Γ → A.own = false) (g : Nat) : ¬ ownFp Γ g := by
  rintro ⟨A, hA, ho, _⟩
  rw [h A hA] at ho
  cases ho

/-- The call of a function. -/
def callOp (d : Option Tmp) (f : FuncId) (xs : Array Operand) (ts : Array TypeId) (ty : TypeId) (pos : String) (af : Array Edge) (gd : Option (Nat × Bool)) : Oper :=
  ⟨d, .call { callee := .value (.func f), args := xs, argTypes := ts }, ty, pos, af, gd⟩

def evFs (F : List (Nat × Value)) : List Operand → List Value → Prop
  | [], [] => True
  | x :: xs, v :: vs => evF F x = some v ∧ evFs F xs vs
  | _, _ => False
theorem evFs.nil {F : List (Nat × Value)} : evFs F [] [] := trivial
theorem evFs.cons {F : List (Nat × Value)} {x : Operand} {xs : List Operand} {v : Value} {vs : List Value} (h : evF F x = some v) (k : evFs F xs vs) : evFs F (x :: xs) (v :: vs) := ⟨h, k⟩
theorem evFs.map {n : Nat} {F : List (Nat × Value)} {a : Act} (hf : Fr n F a) : ∀ {xs : List Operand} {vs : List Value}, evFs F xs vs → xs.map a.eval = vs
  | [], [], _ => rfl
  | x :: xs, v :: vs, h => by rw [List.map_cons, hf.eval h.1, evFs.map hf h.2]
  | [], _ :: _, h => h.elim
  | _ :: _, [], h => h.elim

def isCode (P : Program) (f : FuncId) : Bool := match P.funcs[f]? with
  | some fn => decide (fn.name ≠ "runtime.NumGoroutine") && fn.body.isSome
  | none => false

theorem run_call {P : Program} {d : Option Tmp} {f : FuncId} {xs : List Operand} {ts : Array TypeId} {ty : TypeId} {pos : String} {af : Array Edge} {gd : Option (Nat × Bool)} {a : Act} {w : World} (hc : isCode P f = true) :
    (execOp a.eval ⟨d, .call { callee := .value (.func f), args := xs.toArray, argTypes := ts }, ty, pos, af, gd⟩).run P w = .ok (.enter f (xs.map a.eval).toArray) w := by
  unfold isCode at hc
  cases hf : P.funcs[f]? with
  | none => rw [hf] at hc; cases hc
  | some fn =>
    rw [hf] at hc
    simp only [Bool.and_eq_true, decide_eq_true_eq] at hc
    obtain ⟨h1, h2⟩ := hc
    obtain ⟨b, hb⟩ := Option.isSome_iff_exists.1 h2
    simp [execOp, resolve, invoke, callFunc, Act.eval, Deferred.ofValue, Sem.run_bind, hf, h1, hb, go_sem]

section
variable {P : Program} {n : Nat} {W : World} {S : Nat → Prop} {Γ : List Asn} {F : List (Nat × Value)} {Q : Exit → Act → World → Prop}

theorem Triple.frame {f : FuncId} {args : Array Value} {Δ Γo : List Asn} {R : Value → List Asn → Prop} (h : Triple P f args (Δ ++ Γo) R) {Γf : List Asn} {w : World} (hw : Holds (Γo ++ Γf) w) (ha : (Γo ++ Γf).Pairwise Apart) (hΔ : Provs Γf Δ) (hfp : ∀ A, A ∈ Δ → ∀ g, A.fp g → ¬ ownFp Γo g) :
    Calls P f args w fun e w' => ∃ v Γ', e = .returned v ∧ R v Γ' ∧ Post (ownFp Γo) w Γ' w' := by
  have hΔo : ∀ A, A ∈ Δ → A.own = false := fun A hA => (hΔ.mem A hA).1
  have hfo : ∀ g, ownFp (Δ ++ Γo) g ↔ ownFp Γo g := by
    intro g
    constructor
    · rintro ⟨A, hA, ho, hg⟩
      rcases List.mem_append.1 hA with hA | hA
      · rw [hΔo A hA] at ho; cases ho
      · exact ⟨A, hA, ho, hg⟩
    · rintro ⟨A, hA, ho, hg⟩
      exact ⟨A, List.mem_append_right _ hA, ho, hg⟩
  have hfo' : ownFp (Δ ++ Γo) = ownFp Γo := funext fun g => propext (hfo g)
  have := h w (fun A hA => by
    rcases List.mem_append.1 hA with hA | hA
    · exact (hΔ.mem A hA).2 w fun B hB => hw B (List.mem_append_right _ hB)
    · exact hw A (List.mem_append_left _ hA)) (List.pairwise_append.2 ⟨apart_ro hΔo, (List.pairwise_append.1 ha).1, fun A hA B hB ho g hg hg' => by
      rcases ho with ho | ho
      · rw [hΔo A hA] at ho; cases ho
      · exact hfp A hA g hg ⟨B, hB, ho, hg'⟩⟩)
  rw [hfo'] at this
  exact this

/-- The rule of a call whose arguments are only read. -/
theorem WPl.call {ops : Array Oper} {os : List Oper} {d : Option Tmp} {f : FuncId} {xs : List Operand} {ts : Array TypeId} {ty : TypeId} {pos : String} {af : Array Edge} {gd : Option (Nat × Bool)} {vs : List Value} {Δ : List Asn} {R : Value → List Asn → Prop}
    (h : Triple P f vs.toArray Δ R) (hx : evFs F xs vs) (hΔ : Provs Γ Δ) (hc : isCode P f = true) (hd : dstOk n d = true) (hw : wantG F ops gd = some true)
    (k : ∀ v Γ', R v Γ' → WPl P n W S (Γ' ++ Γ) (putF F d v) ops os Q) :
    WPl P n W S Γ F ops (⟨d, .call { callee := .value (.func f), args := xs.toArray, argTypes := ts }, ty, pos, af, gd⟩ :: os) Q := by
  refine WPl.op (Γo := []) (Γf := Γ) (R := R) .nil hd hw (fun ρ w hf hw ha => ?_) k
  unfold DoesW
  rw [run_call hc, hx.map hf]
  refine (Triple.frame (Γo := []) (Γf := Γ) (by rw [List.append_nil]; exact h) hw ha hΔ (fun A _ g _ => ?_)).mono ?_
  · rintro ⟨B, hB, _⟩; cases hB
  · rintro e w' ⟨v, Γ', he, hR, hp⟩
    exact ⟨v, he, Γ', hR, hp⟩

/-- The rule of a call that takes some of the state. -/
theorem WPl.callO {ops : Array Oper} {os : List Oper} {d : Option Tmp} {f : FuncId} {xs : List Operand} {ts : Array TypeId} {ty : TypeId} {pos : String} {af : Array Edge} {gd : Option (Nat × Bool)} {vs : List Value} {Δ Γo Γf : List Asn} {R : Value → List Asn → Prop}
    (h : Triple P f vs.toArray (Δ ++ Γo) R) (hx : evFs F xs vs) (hp : Takes Γ Γo Γf) (hΔ : Provs Γf Δ) (hfp : ∀ A, A ∈ Δ → ∀ g, A.fp g → ∃ B, B ∈ Γf ∧ B.fp g) (hc : isCode P f = true) (hd : dstOk n d = true) (hw : wantG F ops gd = some true)
    (k : ∀ v Γ', R v Γ' → WPl P n W S (Γ' ++ Γf) (putF F d v) ops os Q) :
    WPl P n W S Γ F ops (⟨d, .call { callee := .value (.func f), args := xs.toArray, argTypes := ts }, ty, pos, af, gd⟩ :: os) Q := by
  refine WPl.op (Γo := Γo) (Γf := Γf) (R := R) hp hd hw (fun ρ w hf hw ha => ?_) k
  unfold DoesW
  rw [run_call hc, hx.map hf]
  have ha' := apart_perm hp ha
  refine (Triple.frame (Γo := Γo) (Γf := Γf) h (fun A hA => hw A (hp.mem_iff.2 hA)) ha' hΔ ?_).mono ?_
  · rintro A hA g hg ⟨B, hB, ho, hg'⟩
    obtain ⟨C, hC, hCg⟩ := hfp A hA g hg
    exact (List.pairwise_append.1 ha').2.2 B hB C hC (.inl ho) g hg' hCg
  · rintro e w' ⟨v, Γ', he, hR, hp⟩
    exact ⟨v, he, Γ', hR, hp⟩

/-! ### Entering and leaving -/

def argsF : Nat → List Value → List (Nat × Value)
  | _, [] => []
  | i, v :: vs => (i, v) :: argsF (i + 1) vs

theorem argsF_get : ∀ (vs : List Value) (i t : Nat) (v : Value), lkT (argsF i vs) t = some v → i ≤ t ∧ vs[t - i]? = some v
  | [], _, _, _, h => by simp [argsF, lkT] at h
  | u :: vs, i, t, v, h => by
    by_cases e : i = t
    · subst e
      rw [argsF, lkT_cons_eq] at h
      cases h
      simp
    · rw [argsF, lkT_cons_ne _ _ e] at h
      obtain ⟨h1, h2⟩ := argsF_get vs (i + 1) t v h
      refine ⟨by omega, ?_⟩
      rw [show t - i = (t - (i + 1)) + 1 by omega, List.getElem?_cons_succ]
      exact h2

/-- What stands at a function's end. -/
def Done (P : Program) (fn : Func) (W : World) (S : Nat → Prop) (R : Value → List Asn → Prop) : Exit → Act → World → Prop :=
  bodyPost P fn fun e w' => ∃ v Γ', e = .returned v ∧ R v Γ' ∧ Post S W Γ' w'

theorem Triple.enter {f : FuncId} {fn : Func} {c : Code} {vs : List Value} {R : Value → List Asn → Prop} (hf : P.funcs[f]? = some fn) (hb : fn.body = some c) (hn : fn.ntmps = n) (hle : Nat.ble vs.length n = true)
    (h : ∀ W, WPc P n W (ownFp Γ) Γ (argsF 0 vs) c (Done P fn W (ownFp Γ) R)) : Triple P f vs.toArray Γ R := by
  intro w hw ha
  have hle' : vs.length ≤ n := by simpa using hle
  refine calls_of_wp hf hb (h w _ w ⟨?_, rfl, ?_⟩ ⟨Mod.refl _ _, hw, ha, fun A hA ho g hg => .inr ⟨A, hA, ho, hg⟩⟩)
  · simp [hn]; omega
  · intro t v hv
    obtain ⟨h1, h2⟩ := argsF_get vs 0 t v hv
    have hlt := (List.getElem?_eq_some_iff.1 h2).1
    have : (vs.toArray ++ Array.replicate (fn.ntmps - vs.toArray.size) undef)[t]? = some v := by
      rw [Array.getElem?_append_left (by simpa using hlt)]
      simpa using h2
    show (vs.toArray ++ Array.replicate (fn.ntmps - vs.toArray.size) undef).getD t undef = v
    rw [Array.getD_eq_getD_getElem?, this]; rfl

/-- What a function hands back. -/
def ResF (P : Program) (Γ : List Asn) (F : List (Nat × Value)) : List ResultVar → List Value → Prop
  | [], vs => vs = []
  | .tmp t :: rs, vs => match vs with | [] => False | v :: vs => lkT F t = some v ∧ ResF P Γ F rs vs
  | .cell p ty :: rs, vs => match vs with | [] => False | v :: vs => (∃ ad, lkT F p = some (.pointer (some ad)) ∧ ∀ w, Holds Γ w → (loadVar ty ad).run P w = .ok v w) ∧ ResF P Γ F rs vs

def resV : List Value → Value
  | [v] => v
  | vs => .tuple vs.toArray

def resAct (a : Act) : ResultVar → Sem Value
  | .tmp t => pure (a.tmps.getD t undef)
  | .cell p ty => do loadVar ty (← asAddr (a.tmps.getD p undef))

theorem run_results {fn : Func} {rs : List ResultVar} {vs : List Value} (hr : fn.results = rs.toArray) (h : ResF P Γ F rs vs) {a : Act} (hf : Fr n F a) {w : World} (hw : Holds Γ w) : (results fn a.tmps).run P w = .ok (resV vs) w := by
  have key : ∀ (rs : List ResultVar) (vs : List Value), ResF P Γ F rs vs →
      (rs.mapM (resAct a)).run P w = .ok vs w := by
    intro rs
    induction rs with
    | nil => intro vs h; cases h; rfl
    | cons r rs ih =>
      intro vs h
      cases r with
      | tmp t =>
        cases vs with
        | nil => exact h.elim
        | cons v vs =>
          obtain ⟨h1, h2⟩ := h
          rw [List.mapM_cons]
          simp only [resAct, Sem.run_bind, Sem.run_pure, Result.andThen_ok, ih vs h2, hf.get t v h1]
      | cell p ty =>
        cases vs with
        | nil => exact h.elim
        | cons v vs =>
          obtain ⟨⟨ad, h1, h1'⟩, h2⟩ := h
          rw [List.mapM_cons]
          simp only [resAct, Sem.run_bind, hf.get p _ h1, asAddr, Sem.run_pure, Result.andThen_ok, h1' w hw, ih vs h2]
  have e := key rs vs h
  have hres : results fn a.tmps = (do let vs ← fn.results.mapM (resAct a); pure (if h : vs.size = 1 then vs[0] else .tuple vs)) := by
    unfold results resAct; rfl
  rw [hres, hr, Sem.run_bind, List.mapM_toArray]
  simp only [Sem.run_map, e]
  rcases vs with _ | ⟨v, _ | ⟨v', vs⟩⟩ <;> simp [resV, Sem.run_pure, Result.andThen_ok]

theorem WPq.done {fn : Func} {rs : List ResultVar} {vs : List Value} {R : Value → List Asn → Prop} {Γ' Γx : List Asn} {e : Exit} (he : e = .ret ∨ e = .normal) (hr : fn.results = rs.toArray) (h : ResF P Γ F rs vs) (hΓ : Takes Γ Γ' Γx) (ho : ∀ A, A ∈ Γ' → A.own = true) (hR : R (resV vs) Γ') :
    WPq n W S Γ F (Done P fn W S R) e := by
  intro a w hf hg
  have hg' := (hg.perm hΓ).left
  have key : a.defers = [] ∧ ∃ v, (results fn a.tmps).run P w = .ok v w ∧ ∃ v' Γ', Ending.returned v = .returned v' ∧ R v' Γ' ∧ Post S W Γ' w :=
    ⟨hf.defers, resV vs, run_results hr h hf hg.all, resV vs, Γ', rfl, hR, hg'.mod, hg'.all, hg'.apart, fun A hA g hAg => hg'.mine A hA (ho A hA) g hAg⟩
  rcases he with rfl | rfl <;> exact key

end
end Go.Proofs.Ytpjfkomicehinaa
