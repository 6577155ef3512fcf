/- What the row of gateHeld_card_holds needs: part 1. -/
import Derived.WalkKit
import Derived.Test.YtpilenbdimhegaaGreatDoorRows
import Derived.WalkSpells
import Derived.WalkLawsBesides
import Derived.Laws.AppendOwnNone
import Derived.Laws.CopyOwn
import Derived.Laws.StructEq
import Derived.Deep.AppendLies
/- A region that draws its order, whose operations only read what is there and lay new blocks: one obligation an operation serves every order. -/
namespace Go.Proofs.YtpilenbdimhegaaGreatDoor
open Go.RowKit
set_option linter.unusedSimpArgs false
set_option linter.unusedVariables false

/-- What one operation does: whether wanted or not, it leaves a value and a world in R. -/
def Does (P : Program) (ops : Array Oper) (o : Oper) (ρ : Act) (w : World) (R : Value → World → Prop) : Prop :=
  if Region.wanted o (yielded ops ρ.tmps) then
    match (execOp ρ.eval o).run P w with
    | .ok (.value v) w' => R v w'
    | .ok .skip w' => R undef w'
    | .ok (.enter f args) w' => Calls P f args w' fun | .returned v, w'' => R v w'' | _, _ => False
    | .ok (.row row args) w' => Rows P row args w' R
    | _ => False
  else R undef w

/-- The fact of operation i. -/
def factAt (Fs : List (Value → World → Prop)) (i : Nat) : Value → World → Prop := Fs.getD i fun _ _ => True

/-- The value of operation i in the slots. -/
def valAt (ops : Array Oper) (tmps : Array Value) (i : Nat) : Value :=
  match (ops[i]?).bind (·.dst) with
  | some d => tmps.getD d undef
  | none => undef

def hit (d : Option Tmp) (v : Value) : Value := match d with | some _ => v | none => undef

/-- The facts of what stands ahead of an operation. -/
def ahead (ops : Array Oper) (Fs : List (Value → World → Prop)) (tmps : Array Value) (w : World) : List Edge → Prop
  | [] => True
  | e :: es => (Region.binds .any e = true → factAt Fs e.on (valAt ops tmps e.on) w) ∧ ahead ops Fs tmps w es

def dstsOf (ops : Array Oper) : List Tmp := ops.toList.filterMap (·.dst)

/-- The obligations, one an operation. -/
def allDo (P : Program) (ops : Array Oper) (dsl : List Tmp) (E : World → World → Prop) (Fs : List (Value → World → Prop)) (a0 : Act) (w0 : World) : List Oper → List (Value → World → Prop) → Prop
  | o :: os, F :: fs => (∀ (ρ : Act) (w : World), E w0 w → (∀ t, dsl.contains t = false → ρ.tmps.getD t undef = a0.tmps.getD t undef) → ahead ops Fs ρ.tmps w o.after.toList →
      Does P ops o ρ w fun v w' => E w w' ∧ F (hit o.dst v) w') ∧ allDo P ops dsl E Fs a0 w0 os fs
  | [], [] => True
  | _, _ => False

/-- What stands behind the region: for all values with their facts. -/
def behind (w' : World) (K : Act → Prop) : List (Option Tmp) → List (Value → World → Prop) → Act → Prop
  | d :: ds, F :: fs, a => ∀ v, F v w' → behind w' K ds fs (a.put d v)
  | _, _, a => K a

/-- All facts last. -/
def allKeep (E : World → World → Prop) : List (Value → World → Prop) → Prop
  | [] => True
  | F :: fs => (∀ v w w', E w w' → F v w → F v w') ∧ allKeep E fs

/-- The closed facts on a region: edges go back, slots are apart and there. -/
def relOk (n : Nat) (ops : Array Oper) : Bool :=
  (ops.toList.zipIdx.all fun (o, i) => o.after.toList.all fun e => !Region.binds .any e || decide (e.on < i)) &&
  decide (dstsOf ops).Nodup && (dstsOf ops).all (fun d => decide (d < n))

structure Inv (E : World → World → Prop) (ops : Array Oper) (Fs : List (Value → World → Prop)) (a0 : Act) (w0 : World) (listed : Array Bool) (a : Act) (w : World) : Prop where
  defers : a.defers = a0.defers
  size : a.tmps.size = a0.tmps.size
  out : ∀ t, (dstsOf ops).contains t = false → a.tmps.getD t undef = a0.tmps.getD t undef
  world : E w0 w
  fact : ∀ i, i < ops.size → listed.getD i false = true → factAt Fs i (valAt ops a.tmps i) w

theorem dst_mem {ops : Array Oper} {i : Nat} {o : Oper} {d : Tmp} (ho : ops[i]? = some o) (hd : o.dst = some d) : d ∈ dstsOf ops := by
  unfold dstsOf
  rw [List.mem_filterMap]
  exact ⟨o, by rw [Array.mem_toList_iff]; exact Array.mem_of_getElem? ho, hd⟩

theorem nodup_filterMap_inj {l : List Oper} (h : (l.filterMap (·.dst)).Nodup) : ∀ {i j : Nat} {x y : Oper} {d : Tmp}, l[i]? = some x → l[j]? = some y → x.dst = some d → y.dst = some d → i = j := by
  induction l with
  | nil => intro i j x y d hi; simp at hi
  | cons o l ih =>
    intro i j x y d hi hj hx hy
    cases hod : o.dst with
    | none =>
      rw [List.filterMap_cons_none hod] at h
      cases i with
      | zero => simp at hi; subst hi; exact absurd (hod.symm.trans hx) (by simp)
      | succ i => cases j with
        | zero => simp at hj; subst hj; exact absurd (hod.symm.trans hy) (by simp)
        | succ j => exact congrArg (· + 1) (ih h (by simpa using hi) (by simpa using hj) hx hy)
    | some d' =>
      rw [List.filterMap_cons_some hod, List.nodup_cons] at h
      have mem : ∀ {k : Nat} {z : Oper}, l[k]? = some z → z.dst = some d → d ∈ l.filterMap (·.dst) := fun hk hz => List.mem_filterMap.2 ⟨_, List.mem_of_getElem? hk, hz⟩
      cases i with
      | zero =>
        simp at hi; subst hi
        rw [hod] at hx; cases hx
        cases j with
        | zero => rfl
        | succ j => exact absurd (mem (by simpa using hj) hy) h.1
      | succ i => cases j with
        | zero =>
          simp at hj; subst hj
          rw [hod] at hy; cases hy
          exact absurd (mem (by simpa using hi) hx) h.1
        | succ j => exact congrArg (· + 1) (ih h.2 (by simpa using hi) (by simpa using hj) hx hy)

theorem put_defers (a : Act) (d : Option Tmp) (v : Value) : (a.put d v).defers = a.defers := by cases d <;> rfl
theorem put_size (a : Act) (d : Option Tmp) (v : Value) : (a.put d v).tmps.size = a.tmps.size := by cases d <;> simp [Act.put]
theorem put_getD_ne (a : Act) (d : Option Tmp) (v : Value) (t : Tmp) (h : d ≠ some t) : (a.put d v).tmps.getD t undef = a.tmps.getD t undef := by
  cases d with
  | none => rfl
  | some d => simp only [Act.put, Array.getD_eq_getD_getElem?]; rw [Array.getElem?_setIfInBounds_ne (by intro e; subst e; exact h rfl)]
theorem put_getD_eq (a : Act) (v : Value) (t : Tmp) (h : t < a.tmps.size) : (a.put (some t) v).tmps.getD t undef = v := by
  simp [Act.put, h]

theorem countP_set_lt {l : List Bool} {i : Nat} (h : l[i]? = some false) : (l.set i true).countP (!·) + 1 = l.countP (!·) := by
  induction l generalizing i with
  | nil => simp at h
  | cons b l ih =>
    cases i with
    | zero => simp at h; subst h; simp
    | succ i =>
      have := ih (by simpa using h)
      simp only [List.set_cons_succ, List.countP_cons]
      omega

/-- The closed facts where the last operation stands behind all others. -/
def tailOk (n : Nat) (ops : Array Oper) (pre : List Oper) (ol : Oper) : Bool :=
  decide (ops.size = pre.length + 1) && (List.range pre.length).all fun j => ol.after.toList.any fun e => Region.binds .any e && decide (e.on = j)

theorem getD_conf {l : Array Bool} {j : Nat} (h1 : l.getD j false = true) (h2 : l.getD j true = false) : False := by
  rw [Array.getD_eq_getD_getElem?] at h1 h2
  cases h : l[j]? with
  | none => rw [h] at h1; cases h1
  | some b => rw [h] at h1 h2; simp only [Option.getD_some] at h1 h2; rw [h1] at h2; cases h2

structure Inv2 (E : World → World → Prop) (ops : Array Oper) (n : Nat) (dsl : List Tmp) (Fs : List (Value → World → Prop)) (a0 : Act) (w0 : World) (listed : Array Bool) (a : Act) (w : World) : Prop where
  defers : a.defers = a0.defers
  size : a.tmps.size = a0.tmps.size
  out : ∀ t, dsl.contains t = false → a.tmps.getD t undef = a0.tmps.getD t undef
  world : E w0 w
  fact : ∀ i, i < n → listed.getD i false = true → factAt Fs i (valAt ops a.tmps i) w

theorem yielded_of {ops : Array Oper} {tmps : Array Value} {j : Nat} {d : Tmp} {b : Bool} (h : (ops[j]?).bind (·.dst) = some d) (hv : tmps.getD d undef = .bool b) : yielded ops tmps j = some b := by
  unfold yielded
  rw [h]
  simp only [Option.bind_some]
  cases ht : tmps[d]? with
  | none => simp [ht, undef] at hv
  | some x =>
    rw [Array.getD_eq_getD_getElem?, ht] at hv
    simp only [Option.getD_some] at hv
    rw [hv]

theorem wanted_yes {ops : Array Oper} {tmps : Array Value} {o : Oper} {j : Nat} {d : Tmp} {b : Bool} (hg : o.guard = some (j, b)) (h : (ops[j]?).bind (·.dst) = some d) (hv : tmps.getD d undef = .bool b) :
    Region.wanted o (yielded ops tmps) = true := by
  simp [Region.wanted, hg, yielded_of h hv]

theorem wanted_no {ops : Array Oper} {tmps : Array Value} {o : Oper} {j : Nat} {d : Tmp} {b c : Bool} (hg : o.guard = some (j, c)) (h : (ops[j]?).bind (·.dst) = some d) (hv : tmps.getD d undef = .bool b) (hne : b ≠ c) :
    Region.wanted o (yielded ops tmps) = false := by
  simp [Region.wanted, hg, yielded_of h hv, hne]

/-- The fact 'it is c'. -/
def Is (c : Value) : Value → World → Prop := fun v _ => v = c

end Go.Proofs.YtpilenbdimhegaaGreatDoor
/- Separation: assertions on blocks, the state of a walk as a list of them, contracts of functions in these words, rules for code. -/
namespace Go.Proofs.YtpilenbdimhegaaGreatDoor
open Go.RowKit
set_option linter.unusedSimpArgs false
set_option linter.unusedVariables false

/-- An assertion on some blocks of memory: of one's own, or to be read. -/
structure Asn where
  own : Bool
  fp : Nat → Prop
  holds : World → Prop
  lt : ∀ w, holds w → ∀ g, fp g → g < w.heap.size
  loc : ∀ w w', holds w → (∀ g, fp g → w'.heap[g]? = w.heap[g]?) → holds w'

def Apart (A B : Asn) : Prop := (A.own = true ∨ B.own = true) → ∀ g, A.fp g → B.fp g → False
theorem Apart.symm {A B : Asn} (h : Apart A B) : Apart B A := fun ho g hb ha => h ho.symm g ha hb

def ownFp (Γ : List Asn) (g : Nat) : Prop := ∃ A, A ∈ Γ ∧ A.own = true ∧ A.fp g

def Holds (Γ : List Asn) (w : World) : Prop := ∀ A, A ∈ Γ → A.holds w

/-! ### Draws are never taken back -/
theorem ask_drawn {α : Type} (a : Ask α) : ∀ w : World, w.drawn ≤ (w.ask a).2.drawn := by
  induction a with
  | done a => intro w; exact Nat.le_refl _
  | ask what range k ih =>
    intro w
    unfold World.ask
    simp only
    split
    · exact ih _ w
    · exact Nat.le_trans (Nat.le_succ w.drawn) (ih _ ({ w with drawn := w.drawn + 1 } : World))
theorem sys_drawn (w : World) (c : Sys) : w.drawn ≤ (w.sys c).2.drawn := by
  have h := ask_drawn (Kernel.perform c w.os) w
  unfold World.sys
  split
  · exact Nat.le_refl _
  · rename_i e
    rw [e] at h
    exact h
theorem far_drawn {p : Program} {w w' : World} {a : Addr} {v : Value} {b : Bool} {l : List Addr} (h : w.farStore p a v b = .ok (w', l)) : w'.drawn = w.drawn := by
  unfold World.farStore at h
  split at h
  · split at h
    · rename_i r hr
      cases h
      unfold World.viewStore at hr
      simp only [bind, Except.bind, pure, Except.pure, throw, throwThe, MonadExceptOf.throw] at hr
      repeat' split at hr
      all_goals first | (cases hr; done) | (cases hr; rfl)
    · cases h
  · cases h
theorem run_drawn {α : Type} {P : Program} (s : Sem α) : ∀ {w w' : World} {a : α}, s.run P w = .ok a w' → w.drawn ≤ w'.drawn := by
  induction s with
  | pure a => intro w w' b h; simp only [Sem.run] at h; cases h; exact Nat.le_refl _
  | load m ad k ih =>
    intro w w' b h
    simp only [Sem.run] at h
    split at h
    · exact ih _ h
    · split at h
      · exact ih _ h
      · cases h
  | store m ad v k ih =>
    intro w w' b h
    have key : (∀ xs, v ≠ .agg xs) → (∀ xs, v ≠ .tuple xs) → w.drawn ≤ w'.drawn := fun n1 n2 => by
      rw [Sem.run.eq_5 P w m ad v k n1 n2] at h
      split at h
      · split at h
        · cases h
        · exact ih (w := w.setCell ad v) h
      · split at h
        · rename_i hf
          have := ih h
          rwa [far_drawn hf] at this
        · cases h
    cases v with
    | agg xs => simp only [Sem.run] at h; cases h
    | tuple xs => simp only [Sem.run] at h; cases h
    | _ => exact key (fun xs h => by cases h) (fun xs h => by cases h)
  | new o k ih => intro w w' b h; exact ih _ (w := { w with heap := w.heap.push o }) h
  | shape r k ih => intro w w' b h; exact ih _ h
  | freeze ad n k ih =>
    intro w w' b h
    have := ih (w := w.freeze ad n) h
    unfold World.freeze at this
    split at this <;> exact this
  | frozen ad k ih => intro w w' b h; exact ih _ h
  | getObj r k ih =>
    intro w w' b h
    simp only [Sem.run] at h
    split at h
    · cases h
    · exact ih _ h
    · cases h
  | setObj r o k ih =>
    intro w w' b h
    simp only [Sem.run] at h
    split at h
    · cases h
    · exact ih (w := { w with heap := w.heap.setIfInBounds r o }) h
    · cases h
  | choose q k ih =>
    intro w w' b h
    simp only [Sem.run] at h
    split at h
    · exact ih _ h
    · exact Nat.le_trans (Nat.le_succ _) (ih _ h)
  | sys c k ih => intro w w' b h; exact Nat.le_trans (sys_drawn w c) (ih _ (w := (w.sys c).2) h)
  | program k ih => intro w w' b h; exact ih _ h
  | mark m k ih => intro w w' b h; exact ih h
  | halt hh => intro w w' b h; cases h

/-- Outside T nothing has turned. -/
structure Mod (T : Nat → Prop) (w w' : World) : Prop where
  os : w'.os = w.os
  tape : w'.tape = w.tape
  output : w'.output = w.output
  size : w.heap.size ≤ w'.heap.size
  drawn : w.drawn ≤ w'.drawn
  block : ∀ g, g < w.heap.size → ¬ T g → w'.heap[g]? = w.heap[g]?

theorem Mod.refl (T : Nat → Prop) (w : World) : Mod T w w := ⟨rfl, rfl, rfl, Nat.le_refl _, Nat.le_refl _, fun _ _ _ => rfl⟩
theorem Mod.trans {T : Nat → Prop} {a b c : World} (h : Mod T a b) (k : Mod T b c) : Mod T a c :=
  ⟨k.os.trans h.os, k.tape.trans h.tape, k.output.trans h.output, Nat.le_trans h.size k.size, Nat.le_trans h.drawn k.drawn, fun g hg ht => (k.block g (Nat.lt_of_lt_of_le hg h.size) ht).trans (h.block g hg ht)⟩
theorem Mod.weaken {T T' : Nat → Prop} {a b : World} (h : Mod T a b) (ht : ∀ g, g < a.heap.size → T g → T' g) : Mod T' a b :=
  ⟨h.os, h.tape, h.output, h.size, h.drawn, fun g hg hn => h.block g hg fun ht' => hn (ht g hg ht')⟩
/-- A step that turns only T, and what is new since a. -/
theorem Mod.after {T T' : Nat → Prop} {a b c : World} (h : Mod T a b) (k : Mod T' b c) (ht : ∀ g, g < a.heap.size → T' g → T g) : Mod T a c :=
  ⟨k.os.trans h.os, k.tape.trans h.tape, k.output.trans h.output, Nat.le_trans h.size k.size, Nat.le_trans h.drawn k.drawn,
    fun g hg hn => (k.block g (Nat.lt_of_lt_of_le hg h.size) fun h' => hn (ht g hg h')).trans (h.block g hg hn)⟩

/-- What a step that may turn T leaves: these assertions, on new blocks or on T. -/
structure Post (T : Nat → Prop) (w : World) (Γ : List Asn) (w' : World) : Prop where
  mod : Mod T w w'
  all : Holds Γ w'
  apart : Γ.Pairwise Apart
  new : ∀ A, A ∈ Γ → ∀ g, A.fp g → w.heap.size ≤ g ∨ T g

theorem Post.nil {T : Nat → Prop} {w w' : World} (h : Mod T w w') : Post T w [] w' := ⟨h, by simp [Holds], .nil, by simp⟩

/-- The state of a walk that began at W and may turn S. -/
structure Good (W : World) (S : Nat → Prop) (Γ : List Asn) (w : World) : Prop where
  mod : Mod S W w
  all : Holds Γ w
  apart : Γ.Pairwise Apart
  mine : ∀ A, A ∈ Γ → A.own = true → ∀ g, A.fp g → W.heap.size ≤ g ∨ S g

theorem apart_perm {Γ Γ' : List Asn} (hp : Γ.Perm Γ') (h : Γ.Pairwise Apart) : Γ'.Pairwise Apart :=
  hp.pairwise h (fun h => h.symm)

theorem Good.perm {W w : World} {S : Nat → Prop} {Γ Γ' : List Asn} (hp : Γ.Perm Γ') (h : Good W S Γ w) : Good W S Γ' w :=
  ⟨h.mod, fun A hA => h.all A (hp.mem_iff.2 hA), apart_perm hp h.apart, fun A hA => h.mine A (hp.mem_iff.2 hA)⟩

theorem Good.left {W w : World} {S : Nat → Prop} {Γ Γ' : List Asn} (h : Good W S (Γ ++ Γ') w) : Good W S Γ w :=
  ⟨h.mod, fun A hA => h.all A (List.mem_append_left _ hA), (List.pairwise_append.1 h.apart).1, fun A hA => h.mine A (List.mem_append_left _ hA)⟩

/-- The frame: a step on Γo leaves the rest as it is. -/
theorem Good.step {W w w' : World} {S : Nat → Prop} {Γo Γf Γ' : List Asn} (h : Good W S (Γo ++ Γf) w) (hp : Post (ownFp Γo) w Γ' w') : Good W S (Γ' ++ Γf) w' := by
  obtain ⟨ha1, ha2, ha3⟩ := List.pairwise_append.1 h.apart
  have hlt : ∀ A, A ∈ Γf → ∀ g, A.fp g → g < w.heap.size := fun A hA g hg => A.lt w (h.all A (List.mem_append_right _ hA)) g hg
  have hno : ∀ A, A ∈ Γf → ∀ g, A.fp g → ¬ ownFp Γo g := by
    rintro A hA g hg ⟨B, hB, ho, hBg⟩
    exact ha3 B hB A hA (.inl ho) g hBg hg
  refine ⟨?_, ?_, ?_, ?_⟩
  · refine h.mod.after hp.mod ?_
    rintro g hg ⟨B, hB, ho, hBg⟩
    rcases h.mine B (List.mem_append_left _ hB) ho g hBg with h1 | h1
    · omega
    · exact h1
  · intro A hA
    rcases List.mem_append.1 hA with hA | hA
    · exact hp.all A hA
    · exact A.loc w w' (h.all A (List.mem_append_right _ hA)) fun g hg => hp.mod.block g (hlt A hA g hg) (hno A hA g hg)
  · refine List.pairwise_append.2 ⟨hp.apart, ha2, fun A hA B hB ho g hg hg' => ?_⟩
    rcases hp.new A hA g hg with h1 | h1
    · have := hlt B hB g hg'; omega
    · exact hno B hB g hg' h1
  · intro A hA ho g hg
    rcases List.mem_append.1 hA with hA | hA
    · rcases hp.new A hA g hg with h1 | ⟨B, hB, hBo, hBg⟩
      · exact .inl (Nat.le_trans h.mod.size h1)
      · exact h.mine B (List.mem_append_left _ hB) hBo g hBg
    · exact h.mine A (List.mem_append_right _ hA) ho g hg

/-- A part of a list, and the rest. -/
def Take (Γ : List Asn) (A : Asn) (Γ' : List Asn) : Prop := Γ.Perm (A :: Γ')
theorem Take.here {A : Asn} {Γ : List Asn} : Take (A :: Γ) A Γ := .refl _
theorem Take.there {A B : Asn} {Γ Γ' : List Asn} (h : Take Γ A Γ') : Take (B :: Γ) A (B :: Γ') := (h.cons B).trans (.swap A B Γ')

def Takes (Γ Δ Γ' : List Asn) : Prop := Γ.Perm (Δ ++ Γ')
theorem Takes.nil {Γ : List Asn} : Takes Γ [] Γ := .refl _
theorem Takes.cons {A : Asn} {Γ Δ Γ1 Γ2 : List Asn} (h : Take Γ A Γ1) (h' : Takes Γ1 Δ Γ2) : Takes Γ (A :: Δ) Γ2 :=
  List.Perm.trans h (List.Perm.cons A h')

theorem Takes.skip {A : Asn} {Γ Δ Γ' : List Asn} (h : Takes Γ Δ Γ') : Takes (A :: Γ) Δ (A :: Γ') := (List.Perm.cons A h).trans List.perm_middle.symm
theorem Takes.all {Γ : List Asn} : Takes Γ Γ [] := by unfold Takes; rw [List.append_nil]

/-- What is only read can be told twice. -/
theorem Good.dup {W w : World} {S : Nat → Prop} {Γ : List Asn} {A : Asn} (hA : A ∈ Γ) (ho : A.own = false) (h : Good W S Γ w) : Good W S (A :: Γ) w := by
  refine ⟨h.mod, fun B hB => ?_, List.pairwise_cons.2 ⟨fun B hB hor g hg hg' => ?_, h.apart⟩, fun B hB => ?_⟩
  · rcases List.mem_cons.1 hB with rfl | hB
    · exact h.all _ hA
    · exact h.all B hB
  · rw [ho] at hor
    have hBo : B.own = true := hor.resolve_left (by simp)
    have key : ∀ {l : List Asn}, l.Pairwise Apart → A ∈ l → B ∈ l → A = B ∨ Apart A B := by
      intro l hl
      induction hl with
      | nil => intro h; cases h
      | cons hx _ ih =>
        intro h1 h2
        rcases List.mem_cons.1 h1 with e1 | e1
        · rcases List.mem_cons.1 h2 with e2 | e2
          · exact .inl (e1.trans e2.symm)
          · exact .inr (e1 ▸ hx _ e2)
        · rcases List.mem_cons.1 h2 with e2 | e2
          · exact .inr (e2 ▸ (hx _ e1)).symm
          · exact ih e1 e2
    rcases key h.apart hA hB with rfl | hap
    · rw [ho] at hBo; cases hBo
    · exact hap (.inr hBo) g hg hg'
  · rcases List.mem_cons.1 hB with rfl | hB
    · intro h'; rw [ho] at h'; cases h'
    · exact h.mine B hB

/-- The contract of a function. -/
def Triple (P : Program) (f : FuncId) (args : Array Value) (Γ : List Asn) (R : Value → List Asn → Prop) : Prop :=
  ∀ w, Holds Γ w → Γ.Pairwise Apart → Calls P f args w fun e w' => ∃ v Γ', e = .returned v ∧ R v Γ' ∧ Post (ownFp Γ) w Γ' w'

theorem Triple.mono {P : Program} {f : FuncId} {args : Array Value} {Γ : List Asn} {R R' : Value → List Asn → Prop} (h : Triple P f args Γ R) (hr : ∀ v Γ', R v Γ' → R' v Γ') : Triple P f args Γ R' :=
  fun w hw ha => (h w hw ha).mono fun _ _ ⟨v, Γ', he, r, p⟩ => ⟨v, Γ', he, hr _ _ r, p⟩

/-! ### Slots -/

/-- What is known of the slots. -/
def lkT : List (Nat × Value) → Nat → Option Value
  | [], _ => none
  | (t, v) :: F, u => match Nat.beq t u with | true => some v | false => lkT F u

def evF (F : List (Nat × Value)) : Operand → Option Value
  | .tmp t => lkT F t
  | .const v => some v
  | .func f => some (.func (.func f) #[] #[])
  | .global g => some (.pointer (some ⟨g, 0, none⟩))

structure Fr (n : Nat) (F : List (Nat × Value)) (a : Act) : Prop where
  size : a.tmps.size = n
  defers : a.defers = []
  get : ∀ t v, lkT F t = some v → a.tmps.getD t undef = v

theorem Fr.eval {n : Nat} {F : List (Nat × Value)} {a : Act} (h : Fr n F a) {x : Operand} {v : Value} (hx : evF F x = some v) : a.eval x = v := by
  cases x with
  | tmp t => exact h.get t v hx
  | const c => cases hx; rfl
  | func f => cases hx; rfl
  | global g => cases hx; rfl

def putF (F : List (Nat × Value)) : Option Tmp → Value → List (Nat × Value)
  | none, _ => F
  | some d, v => (d, v) :: F

def dstOk (n : Nat) : Option Tmp → Bool
  | none => true
  | some d => Nat.blt d n

theorem lkT_cons_eq (F : List (Nat × Value)) (t : Nat) (v : Value) : lkT ((t, v) :: F) t = some v := by simp [lkT]
theorem lkT_cons_ne (F : List (Nat × Value)) {t u : Nat} (v : Value) (h : t ≠ u) : lkT ((t, v) :: F) u = lkT F u := by
  have : Nat.beq t u = false := by rw [← Bool.not_eq_true]; intro hb; exact h (Nat.eq_of_beq_eq_true hb)
  simp [lkT, this]

theorem Fr.put {n : Nat} {F : List (Nat × Value)} {a : Act} (h : Fr n F a) {d : Option Tmp} (hd : dstOk n d = true) (v : Value) : Fr n (putF F d v) (a.put d v) := by
  refine ⟨by rw [put_size]; exact h.size, by rw [put_defers]; exact h.defers, ?_⟩
  cases d with
  | none => exact h.get
  | some d =>
    have hlt : d < n := Nat.le_of_ble_eq_true hd
    intro t u ht
    by_cases e : d = t
    · subst e
      simp only [putF, lkT_cons_eq] at ht
      cases ht
      exact put_getD_eq _ _ _ (by rw [h.size]; exact hlt)
    · rw [putF, lkT_cons_ne _ _ e] at ht
      rw [put_getD_ne _ _ _ _ (by intro hh; cases hh; exact e rfl)]
      exact h.get t u ht

/-- Fewer slots. -/
def FrSub (F : List (Nat × Value)) : List (Nat × Value) → Prop
  | [] => True
  | (t, v) :: F' => lkT F t = some v ∧ FrSub F F'
theorem FrSub.nil {F : List (Nat × Value)} : FrSub F [] := trivial
theorem FrSub.cons {F F' : List (Nat × Value)} {t : Nat} {v : Value} (h : lkT F t = some v) (k : FrSub F F') : FrSub F ((t, v) :: F') := ⟨h, k⟩
theorem FrSub.get {F : List (Nat × Value)} : ∀ {F' : List (Nat × Value)}, FrSub F F' → ∀ t v, lkT F' t = some v → lkT F t = some v
  | [], _, _, _, h => by simp [lkT] at h
  | (t', v') :: F', h, t, v, hv => by
    by_cases e : t' = t
    · subst e
      rw [lkT_cons_eq] at hv
      cases hv
      exact h.1
    · rw [lkT_cons_ne _ _ e] at hv
      exact FrSub.get h.2 t v hv
theorem Fr.sub {n : Nat} {F F' : List (Nat × Value)} {a : Act} (h : Fr n F a) (hs : FrSub F F') : Fr n F' a :=
  ⟨h.size, h.defers, fun t v hv => h.get t v (hs.get t v hv)⟩

/-! ### The judgements -/

def WPc (P : Program) (n : Nat) (W : World) (S : Nat → Prop) (Γ : List Asn) (F : List (Nat × Value)) (c : Code) (Q : Exit → Act → World → Prop) : Prop :=
  ∀ a w, Fr n F a → Good W S Γ w → c.wp P Q a w
def WPl (P : Program) (n : Nat) (W : World) (S : Nat → Prop) (Γ : List Asn) (F : List (Nat × Value)) (ops : Array Oper) (os : List Oper) (Q : Exit → Act → World → Prop) : Prop :=
  ∀ a w, Fr n F a → Good W S Γ w → wpList P ops Q os a w
def WPq (n : Nat) (W : World) (S : Nat → Prop) (Γ : List Asn) (F : List (Nat × Value)) (Q : Exit → Act → World → Prop) (e : Exit) : Prop :=
  ∀ a w, Fr n F a → Good W S Γ w → Q e a w

section
variable {P : Program} {n : Nat} {W : World} {S : Nat → Prop} {Γ : List Asn} {F : List (Nat × Value)} {Q : Exit → Act → World → Prop}

theorem WPc.seq {x y : Code} (h : WPc P n W S Γ F x (Exit.then (y.wp P Q) Q)) : WPc P n W S Γ F (.seq x y) Q := fun a w hf hg => wp_seq (h a w hf hg)
theorem WPc.skip (h : WPq n W S Γ F Q .normal) : WPc P n W S Γ F .skip Q := fun a w hf hg => wp_skip (h a w hf hg)
theorem WPc.exit {id : Nat} (h : WPq n W S Γ F Q (.exit id)) : WPc P n W S Γ F (.exit id) Q := fun a w hf hg => wp_exit (h a w hf hg)
theorem WPc.ret (h : WPq n W S Γ F Q .ret) : WPc P n W S Γ F .ret Q := fun a w hf hg => wp_ret (h a w hf hg)
theorem WPc.block {id : Nat} {c : Code} (h : WPc P n W S Γ F c (Exit.inBlock id Q)) : WPc P n W S Γ F (.block id c) Q := fun a w hf hg => wp_block (h a w hf hg)
theorem WPc.condT {c : Operand} {x y : Code} (hc : evF F c = some (.bool true)) (h : WPc P n W S Γ F x Q) : WPc P n W S Γ F (.cond c x y) Q :=
  fun a w hf hg => wp_cond_true (hf.eval hc) (h a w hf hg)
theorem WPc.condF {c : Operand} {x y : Code} (hc : evF F c = some (.bool false)) (h : WPc P n W S Γ F y Q) : WPc P n W S Γ F (.cond c x y) Q :=
  fun a w hf hg => wp_cond_false (hf.eval hc) (h a w hf hg)
theorem WPc.cond {c : Operand} {x y : Code} {b : Bool} (hc : evF F c = some (.bool b)) (h1 : b = true → WPc P n W S Γ F x Q) (h2 : b = false → WPc P n W S Γ F y Q) : WPc P n W S Γ F (.cond c x y) Q :=
  fun a w hf hg => wp_cond_split (hf.eval hc) (fun h => h1 h a w hf hg) fun h => h2 h a w hf hg
theorem WPc.region {id : Nat} {l : List Oper} (h : WPl P n W S Γ F l.toArray l Q) : WPc P n W S Γ F (.region id l.toArray false) Q :=
  fun a w hf hg => wp_region_lit (h a w hf hg)

theorem WPl.nil {ops : Array Oper} (h : WPq n W S Γ F Q .normal) : WPl P n W S Γ F ops [] Q := fun a w hf hg => h a w hf hg

theorem WPq.then {y : Code} (h : WPc P n W S Γ F y Q) : WPq n W S Γ F (Exit.then (y.wp P Q) Q) .normal := h
theorem WPq.thenE {K : Act → World → Prop} {id : Nat} (h : WPq n W S Γ F Q (.exit id)) : WPq n W S Γ F (Exit.then K Q) (.exit id) := h
theorem WPq.thenR {K : Act → World → Prop} (h : WPq n W S Γ F Q .ret) : WPq n W S Γ F (Exit.then K Q) .ret := h
theorem WPq.blockN {id : Nat} (h : WPq n W S Γ F Q .normal) : WPq n W S Γ F (Exit.inBlock id Q) .normal := h
theorem WPq.blockR {id : Nat} (h : WPq n W S Γ F Q .ret) : WPq n W S Γ F (Exit.inBlock id Q) .ret := h
theorem WPq.blockE {id : Nat} (h : WPq n W S Γ F Q .normal) : WPq n W S Γ F (Exit.inBlock id Q) (.exit id) := fun a w hf hg => by
  simp only [Exit.inBlock, if_true]; exact h a w hf hg
theorem WPq.blockO {id id' : Nat} (hne : Nat.beq id' id = false) (h : WPq n W S Γ F Q (.exit id')) : WPq n W S Γ F (Exit.inBlock id Q) (.exit id') := fun a w hf hg => by
  have : id' ≠ id := by rintro rfl; simp at hne
  simp only [Exit.inBlock, this, if_false]; exact h a w hf hg

/-- What is in the state can be asked at any time. -/
theorem WPc.know {p : Prop} {c : Code} (hp : ∀ w, Holds Γ w → p) (h : p → WPc P n W S Γ F c Q) : WPc P n W S Γ F c Q :=
  fun a w hf hg => h (hp w hg.all) a w hf hg
theorem WPc.dup {A : Asn} {c : Code} (hA : A ∈ Γ) (ho : A.own = false) (h : WPc P n W S (A :: Γ) F c Q) : WPc P n W S Γ F c Q := fun a w hf hg => h a w hf (hg.dup hA ho)
/-- A loop: what stands at its head, over all x that are ok. -/
theorem WPc.loop {σ : Type} {c : Code} (ok : σ → Prop) (ΓI : σ → List Asn) (FI : σ → List (Nat × Value)) (μ : σ → Nat) (x0 : σ) {Γx : List Asn} (h0 : ok x0) (hΓ : Takes Γ (ΓI x0) Γx) (hF : FrSub F (FI x0))
    (round : ∀ x k, ok x → k = μ x → WPc P n W S (ΓI x) (FI x) c (Exit.then (fun a w => ∃ x', ok x' ∧ μ x' < k ∧ Fr n (FI x') a ∧ Good W S (ΓI x') w) Q)) : WPc P n W S Γ F (.loop c) Q := by
  intro a w hf hg
  refine fun b k cs => ?_
  have key : ∀ m x a w, μ x = m → ok x → Fr n (FI x) a → Good W S (ΓI x) w →
      ∃ e a' w', Q e a' w' ∧ Arrives P (lone (b.at a (.code c :: .inLoop c :: k)) cs w) b k cs e a' w' := by
    intro m
    induction m using Nat.strongRecOn with
    | _ m ih =>
      intro x a w hm hx hfx hgx
      obtain ⟨e, a₁, w₁, hq, harr⟩ := round x _ hx rfl a w hfx hgx b (.inLoop c :: k) cs
      cases e with
      | normal =>
        obtain ⟨x', hx', hlt, hf', hg'⟩ := hq
        obtain ⟨e₂, a₂, w₂, hq₂, harr₂⟩ := ih (μ x') (hm ▸ hlt) x' a₁ w₁ rfl hx' hf' hg'
        exact ⟨e₂, a₂, w₂, hq₂, .of_steps (Steps.trans harr (.one step_inLoop)) harr₂⟩
      | exit id => exact ⟨_, a₁, w₁, hq, .pass (x := .inLoop c) rfl (fun _ _ => .inl (by simp)) harr⟩
      | goto l => exact ⟨_, a₁, w₁, hq, .pass (x := .inLoop c) rfl (fun _ _ => .inl (by simp)) harr⟩
      | ret => exact ⟨_, a₁, w₁, hq, .pass (x := .inLoop c) rfl (fun _ _ => .inl (by simp)) harr⟩
      | panic ch => exact ⟨_, a₁, w₁, hq, .pass (x := .inLoop c) rfl (fun _ _ => .inl (by simp)) harr⟩
      | outgrown => exact ⟨_, a₁, w₁, hq, .pass (x := .inLoop c) rfl (fun _ _ => .inl (by simp)) harr⟩
  obtain ⟨e, a', w', hq, harr⟩ := key _ x0 a w rfl h0 (hf.sub hF) (hg.perm hΓ).left
  exact ⟨e, a', w', hq, .of_steps (.one step_loop) harr⟩

/-- The end of a round. -/
theorem WPq.round {σ : Type} {ok : σ → Prop} {ΓI : σ → List Asn} {FI : σ → List (Nat × Value)} {μ : σ → Nat} {k : Nat} (x' : σ) {Γx : List Asn} (h0 : ok x') (hμ : μ x' < k) (hΓ : Takes Γ (ΓI x') Γx) (hF : FrSub F (FI x')) :
    WPq n W S Γ F (Exit.then (fun a w => ∃ x', ok x' ∧ μ x' < k ∧ Fr n (FI x') a ∧ Good W S (ΓI x') w) Q) .normal :=
  fun a w hf hg => ⟨x', h0, hμ, hf.sub hF, (hg.perm hΓ).left⟩

/-! ### Operations -/

/-- What an operation that is wanted does. -/
def DoesW (P : Program) (o : Oper) (ρ : Act) (w : World) (R : Value → World → Prop) : Prop :=
  match (execOp ρ.eval o).run P w with
  | .ok (.value v) w' => R v w'
  | .ok .skip w' => R undef w'
  | .ok (.enter f args) w' => Calls P f args w' fun e w'' => ∃ v, e = .returned v ∧ R v w''
  | .ok (.row row args) w' => Rows P row args w' R
  | _ => False

theorem DoesW.mono {o : Oper} {ρ : Act} {w : World} {R R' : Value → World → Prop} (h : DoesW P o ρ w R) (hr : ∀ v w', R v w' → R' v w') : DoesW P o ρ w R' := by
  unfold DoesW at *
  generalize (execOp ρ.eval o).run P w = r at h
  cases r with
  | ok m w' =>
    cases m with
    | value v => exact hr _ _ h
    | skip => exact hr _ _ h
    | enter f args => exact Calls.mono h fun e w'' ⟨v, he, hR⟩ => ⟨v, he, hr _ _ hR⟩
    | row row args => exact Rows.mono h hr
    | _ => exact h.elim
  | halt x w' => exact h.elim

theorem DoesW.wpList {ops : Array Oper} {os : List Oper} {o : Oper} {a : Act} {w : World} {R : Value → World → Prop} (hg : Region.wanted o (yielded ops a.tmps) = true) (h : DoesW P o a w R)
    (k : ∀ v w', R v w' → wpList P ops Q os (a.put o.dst v) w') : wpList P ops Q (o :: os) a w := by
  refine wpList_step fun K hK => ?_
  rw [if_pos hg]
  unfold DoesW at h
  unfold Oper.wp
  generalize (execOp a.eval o).run P w = r at h
  cases r with
  | ok m w' =>
    cases m with
    | value v => exact hK _ _ (k _ _ h)
    | skip => exact hK _ _ (k _ _ h)
    | enter f args =>
      refine Calls.mono h ?_
      rintro e w'' ⟨v, rfl, hR⟩
      exact hK _ _ (k _ _ hR)
    | row row args => exact Rows.mono h fun v w'' hR => hK _ _ (k _ _ hR)
    | _ => exact h.elim
  | halt x w' => exact h.elim

/-- Whether an operation is wanted. -/
def wantG (F : List (Nat × Value)) (ops : Array Oper) : Option (Nat × Bool) → Option Bool
  | none => some true
  | some (j, b) => match (ops[j]?).bind (·.dst) with
    | none => none
    | some d => match lkT F d with
      | some (.bool c) => some (c == b)
      | some (.tuple _) => some false
      | _ => none

theorem wanted_of {ops : Array Oper} {o : Oper} {a : Act} {b : Bool} (hf : Fr n F a) (h : wantG F ops o.guard = some b) : Region.wanted o (yielded ops a.tmps) = b := by
  unfold wantG at h
  cases hg : o.guard with
  | none => rw [hg] at h; cases h; simp [Region.wanted, hg]
  | some jb =>
    obtain ⟨j, c⟩ := jb
    rw [hg] at h
    simp only at h
    cases hd : (ops[j]?).bind (·.dst) with
    | none => rw [hd] at h; cases h
    | some d =>
      rw [hd] at h
      simp only at h
      split at h
      · rename_i c' hc'
        cases h
        by_cases e : c' = c
        · subst e
          rw [wanted_yes hg hd (hf.get _ _ hc')]
          simp
        · rw [wanted_no hg hd (hf.get _ _ hc') e]
          simp [e]
      · rename_i vs hc'
        cases h
        have hv := hf.get _ _ hc'
        simp only [Region.wanted, hg, yielded, hd, Option.bind_some]
        rw [Array.getD_eq_getD_getElem?] at hv
        cases ht : a.tmps[d]? with
        | none => rfl
        | some v => rw [ht] at hv; simp only [Option.getD_some] at hv; subst hv; rfl
      · cases h

/-- The rule of an operation: it takes Γo, and leaves Γ'. -/
theorem WPl.op {ops : Array Oper} {os : List Oper} {o : Oper} {Γo Γf : List Asn} {R : Value → List Asn → Prop} (hp : Takes Γ Γo Γf) (hd : dstOk n o.dst = true) (hw : wantG F ops o.guard = some true)
    (h : ∀ ρ w, Fr n F ρ → Holds Γ w → Γ.Pairwise Apart → DoesW P o ρ w fun v w' => ∃ Γ', R v Γ' ∧ Post (ownFp Γo) w Γ' w')
    (k : ∀ v Γ', R v Γ' → WPl P n W S (Γ' ++ Γf) (putF F o.dst v) ops os Q) : WPl P n W S Γ F ops (o :: os) Q := by
  intro a w hf hg
  refine DoesW.wpList (wanted_of hf hw) (h a w hf hg.all hg.apart) ?_
  rintro v w' ⟨Γ', hR, hpost⟩
  exact k v Γ' hR _ _ (hf.put hd v) ((hg.perm hp).step hpost)

theorem WPl.skip {ops : Array Oper} {os : List Oper} {o : Oper} {d : Tmp} (hw : wantG F ops o.guard = some false) (hd : o.dst = some d) (hlt : Nat.blt d n = true) (k : WPl P n W S Γ ((d, undef) :: F) ops os Q) : WPl P n W S Γ F ops (o :: os) Q := by
  intro a w hf hg
  unfold wpList
  rw [if_neg (by rw [wanted_of hf hw]; decide), hd]
  exact k _ _ (hf.put (d := some d) hlt undef) hg

/-- What an operation that only reads gives. -/
def ReadR (P : Program) (n : Nat) (Γ : List Asn) (F : List (Nat × Value)) (o : Oper) (v : Value) : Prop :=
  ∀ (ρ : Act) (w : World), Fr n F ρ → Holds Γ w → (execOp ρ.eval o).run P w = .ok (.value v) w

theorem WPl.read {ops : Array Oper} {os : List Oper} {o : Oper} {v : Value} {d : Tmp} (hd : o.dst = some d) (hlt : Nat.blt d n = true) (hw : wantG F ops o.guard = some true) (h : ReadR P n Γ F o v)
    (k : WPl P n W S Γ ((d, v) :: F) ops os Q) : WPl P n W S Γ F ops (o :: os) Q := by
  intro a w hf hg
  refine DoesW.wpList (R := fun v' w' => v' = v ∧ w' = w) (wanted_of hf hw) (by unfold DoesW; rw [h a w hf hg.all]; exact ⟨rfl, rfl⟩) ?_
  rintro v' w' ⟨rfl, rfl⟩
  rw [hd]
  exact k _ _ (hf.put (d := some d) hlt v') hg

end

/-! ### Calls -/

/-- What is needed of the state, and can be had of it. -/
def Prov (Γ : List Asn) (A : Asn) : Prop := A.own = false ∧ ∀ w, Holds Γ w → A.holds w
def Provs (Γ : List Asn) : List Asn → Prop
  | [] => True
  | A :: Δ => Prov Γ A ∧ Provs Γ Δ
theorem Provs.nil {Γ : List Asn} : Provs Γ [] := trivial
theorem Provs.cons {Γ Δ : List Asn} {A : Asn} (h : Prov Γ A) (k : Provs Γ Δ) : Provs Γ (A :: Δ) := ⟨h, k⟩
theorem Provs.mem {Γ : List Asn} : ∀ {Δ : List Asn}, Provs Γ Δ → ∀ A, A ∈ Δ → Prov Γ A
  | B :: Δ, h, A, hA => by
    rcases List.mem_cons.1 hA with rfl | hA
    · exact h.1
    · exact Provs.mem h.2 A hA

theorem apart_ro {Γ : List Asn} (h : ∀ A, A ∈ Γ → A.own = false) : Γ.Pairwise Apart := by
  rw [List.pairwise_iff_getElem]
  intro i j hi hj _ ho
  have h1 := h _ (List.getElem_mem hi)
  have h2 := h _ (List.getElem_mem hj)
  rw [h1, h2] at ho
  simp at ho

/-- The call of a function. -/
def callOp (d : Option Tmp) (f : FuncId) (xs : Array Operand) (ts : Array TypeId) (ty : TypeId) (pos : String) (af : Array Edge) (gd : Option (Nat × Bool)) : Oper :=
  ⟨d, .call { callee := .value (.func f), args := xs, argTypes := ts }, ty, pos, af, gd⟩

def evFs (F : List (Nat × Value)) : List Operand → List Value → Prop
  | [], [] => True
  | x :: xs, v :: vs => evF F x = some v ∧ evFs F xs vs
  | _, _ => False
theorem evFs.nil {F : List (Nat × Value)} : evFs F [] [] := trivial
theorem evFs.cons {F : List (Nat × Value)} {x : Operand} {xs : List Operand} {v : Value} {vs : List Value} (h : evF F x = some v) (k : evFs F xs vs) : evFs F (x :: xs) (v :: vs) := ⟨h, k⟩
theorem evFs.map {n : Nat} {F : List (Nat × Value)} {a : Act} (hf : Fr n F a) : ∀ {xs : List Operand} {vs : List Value}, evFs F xs vs → xs.map a.eval = vs
  | [], [], _ => rfl
  | x :: xs, v :: vs, h => by rw [List.map_cons, hf.eval h.1, evFs.map hf h.2]
  | [], _ :: _, h => h.elim
  | _ :: _, [], h => h.elim

def isCode (P : Program) (f : FuncId) : Bool := match P.funcs[f]? with
  | some fn => decide (fn.name ≠ "runtime.NumGoroutine") && fn.body.isSome
  | none => false

theorem run_call {P : Program} {d : Option Tmp} {f : FuncId} {xs : List Operand} {ts : Array TypeId} {ty : TypeId} {pos : String} {af : Array Edge} {gd : Option (Nat × Bool)} {a : Act} {w : World} (hc : isCode P f = true) :
    (execOp a.eval ⟨d, .call { callee := .value (.func f), args := xs.toArray, argTypes := ts }, ty, pos, af, gd⟩).run P w = .ok (.enter f (xs.map a.eval).toArray) w := by
  unfold isCode at hc
  cases hf : P.funcs[f]? with
  | none => rw [hf] at hc; cases hc
  | some fn =>
    rw [hf] at hc
    simp only [Bool.and_eq_true, decide_eq_true_eq] at hc
    obtain ⟨h1, h2⟩ := hc
    obtain ⟨b, hb⟩ := Option.isSome_iff_exists.1 h2
    simp [execOp, resolve, invoke, callFunc, Act.eval, Deferred.ofValue, Sem.run_bind, hf, h1, hb, go_sem]

section
variable {P : Program} {n : Nat} {W : World} {S : Nat → Prop} {Γ : List Asn} {F : List (Nat × Value)} {Q : Exit → Act → World → Prop}

theorem Triple.frame {f : FuncId} {args : Array Value} {Δ Γo : List Asn} {R : Value → List Asn → Prop} (h : Triple P f args (Δ ++ Γo) R) {Γf : List Asn} {w : World} (hw : Holds (Γo ++ Γf) w) (ha : (Γo ++ Γf).Pairwise Apart) (hΔ : Provs Γf Δ) (hfp : ∀ A, A ∈ Δ → ∀ g, A.fp g → ¬ ownFp Γo g) :
    Calls P f args w fun e w' => ∃ v Γ', e = .returned v ∧ R v Γ' ∧ Post (ownFp Γo) w Γ' w' := by
  have hΔo : ∀ A, A ∈ Δ → A.own = false := fun A hA => (hΔ.mem A hA).1
  have hfo : ∀ g, ownFp (Δ ++ Γo) g ↔ ownFp Γo g := by
    intro g
    constructor
    · rintro ⟨A, hA, ho, hg⟩
      rcases List.mem_append.1 hA with hA | hA
      · rw [hΔo A hA] at ho; cases ho
      · exact ⟨A, hA, ho, hg⟩
    · rintro ⟨A, hA, ho, hg⟩
      exact ⟨A, List.mem_append_right _ hA, ho, hg⟩
  have hfo' : ownFp (Δ ++ Γo) = ownFp Γo := funext fun g => propext (hfo g)
  have := h w (fun A hA => by
    rcases List.mem_append.1 hA with hA | hA
    · exact (hΔ.mem A hA).2 w fun B hB => hw B (List.mem_append_right _ hB)
    · exact hw A (List.mem_append_left _ hA)) (List.pairwise_append.2 ⟨apart_ro hΔo, (List.pairwise_append.1 ha).1, fun A hA B hB ho g hg hg' => by
      rcases ho with ho | ho
      · rw [hΔo A hA] at ho; cases ho
      · exact hfp A hA g hg ⟨B, hB, ho, hg'⟩⟩)
  rw [hfo'] at this
  exact this

/-- The rule of a call whose arguments are only read. -/
theorem WPl.call {ops : Array Oper} {os : List Oper} {d : Option Tmp} {f : FuncId} {xs : List Operand} {ts : Array TypeId} {ty : TypeId} {pos : String} {af : Array Edge} {gd : Option (Nat × Bool)} {vs : List Value} {Δ : List Asn} {R : Value → List Asn → Prop}
    (h : Triple P f vs.toArray Δ R) (hx : evFs F xs vs) (hΔ : Provs Γ Δ) (hc : isCode P f = true) (hd : dstOk n d = true) (hw : wantG F ops gd = some true)
    (k : ∀ v Γ', R v Γ' → WPl P n W S (Γ' ++ Γ) (putF F d v) ops os Q) :
    WPl P n W S Γ F ops (⟨d, .call { callee := .value (.func f), args := xs.toArray, argTypes := ts }, ty, pos, af, gd⟩ :: os) Q := by
  refine WPl.op (Γo := []) (Γf := Γ) (R := R) .nil hd hw (fun ρ w hf hw ha => ?_) k
  unfold DoesW
  rw [run_call hc, hx.map hf]
  refine (Triple.frame (Γo := []) (Γf := Γ) (by rw [List.append_nil]; exact h) hw ha hΔ (fun A _ g _ => ?_)).mono ?_
  · rintro ⟨B, hB, _⟩; cases hB
  · rintro e w' ⟨v, Γ', he, hR, hp⟩
    exact ⟨v, he, Γ', hR, hp⟩

/-- The rule of a call that takes some of the state. -/
theorem WPl.callO {ops : Array Oper} {os : List Oper} {d : Option Tmp} {f : FuncId} {xs : List Operand} {ts : Array TypeId} {ty : TypeId} {pos : String} {af : Array Edge} {gd : Option (Nat × Bool)} {vs : List Value} {Δ Γo Γf : List Asn} {R : Value → List Asn → Prop}
    (h : Triple P f vs.toArray (Δ ++ Γo) R) (hx : evFs F xs vs) (hp : Takes Γ Γo Γf) (hΔ : Provs Γf Δ) (hfp : ∀ A, A ∈ Δ → ∀ g, A.fp g → ∃ B, B ∈ Γf ∧ B.fp g) (hc : isCode P f = true) (hd : dstOk n d = true) (hw : wantG F ops gd = some true)
    (k : ∀ v Γ', R v Γ' → WPl P n W S (Γ' ++ Γf) (putF F d v) ops os Q) :
    WPl P n W S Γ F ops (⟨d, .call { callee := .value (.func f), args := xs.toArray, argTypes := ts }, ty, pos, af, gd⟩ :: os) Q := by
  refine WPl.op (Γo := Γo) (Γf := Γf) (R := R) hp hd hw (fun ρ w hf hw ha => ?_) k
  unfold DoesW
  rw [run_call hc, hx.map hf]
  have ha' := apart_perm hp ha
  refine (Triple.frame (Γo := Γo) (Γf := Γf) h (fun A hA => hw A (hp.mem_iff.2 hA)) ha' hΔ ?_).mono ?_
  · rintro A hA g hg ⟨B, hB, ho, hg'⟩
    obtain ⟨C, hC, hCg⟩ := hfp A hA g hg
    exact (List.pairwise_append.1 ha').2.2 B hB C hC (.inl ho) g hg' hCg
  · rintro e w' ⟨v, Γ', he, hR, hp⟩
    exact ⟨v, he, Γ', hR, hp⟩

/-! ### Entering and leaving -/

def argsF : Nat → List Value → List (Nat × Value)
  | _, [] => []
  | i, v :: vs => (i, v) :: argsF (i + 1) vs

theorem argsF_get : ∀ (vs : List Value) (i t : Nat) (v : Value), lkT (argsF i vs) t = some v → i ≤ t ∧ vs[t - i]? = some v
  | [], _, _, _, h => by simp [argsF, lkT] at h
  | u :: vs, i, t, v, h => by
    by_cases e : i = t
    · subst e
      rw [argsF, lkT_cons_eq] at h
      cases h
      simp
    · rw [argsF, lkT_cons_ne _ _ e] at h
      obtain ⟨h1, h2⟩ := argsF_get vs (i + 1) t v h
      refine ⟨by omega, ?_⟩
      rw [show t - i = (t - (i + 1)) + 1 by omega, List.getElem?_cons_succ]
      exact h2

/-- What stands at a function's end. -/
def Done (P : Program) (fn : Func) (W : World) (S : Nat → Prop) (R : Value → List Asn → Prop) : Exit → Act → World → Prop :=
  bodyPost P fn fun e w' => ∃ v Γ', e = .returned v ∧ R v Γ' ∧ Post S W Γ' w'

theorem Triple.enter {f : FuncId} {fn : Func} {c : Code} {vs : List Value} {R : Value → List Asn → Prop} (hf : P.funcs[f]? = some fn) (hb : fn.body = some c) (hn : fn.ntmps = n) (hle : Nat.ble vs.length n = true)
    (h : ∀ W, WPc P n W (ownFp Γ) Γ (argsF 0 vs) c (Done P fn W (ownFp Γ) R)) : Triple P f vs.toArray Γ R := by
  intro w hw ha
  have hle' : vs.length ≤ n := by simpa using hle
  refine calls_of_wp hf hb (h w _ w ⟨?_, rfl, ?_⟩ ⟨Mod.refl _ _, hw, ha, fun A hA ho g hg => .inr ⟨A, hA, ho, hg⟩⟩)
  · simp [hn]; omega
  · intro t v hv
    obtain ⟨h1, h2⟩ := argsF_get vs 0 t v hv
    have hlt := (List.getElem?_eq_some_iff.1 h2).1
    have : (vs.toArray ++ Array.replicate (fn.ntmps - vs.toArray.size) undef)[t]? = some v := by
      rw [Array.getElem?_append_left (by simpa using hlt)]
      simpa using h2
    show (vs.toArray ++ Array.replicate (fn.ntmps - vs.toArray.size) undef).getD t undef = v
    rw [Array.getD_eq_getD_getElem?, this]; rfl

/-- What a function hands back. -/
def ResF (P : Program) (Γ : List Asn) (F : List (Nat × Value)) : List ResultVar → List Value → Prop
  | [], vs => vs = []
  | .tmp t :: rs, vs => match vs with | [] => False | v :: vs => lkT F t = some v ∧ ResF P Γ F rs vs
  | .cell p ty :: rs, vs => match vs with | [] => False | v :: vs => (∃ ad, lkT F p = some (.pointer (some ad)) ∧ ∀ w, Holds Γ w → (loadVar ty ad).run P w = .ok v w) ∧ ResF P Γ F rs vs

def resV : List Value → Value
  | [v] => v
  | vs => .tuple vs.toArray

def resAct (a : Act) : ResultVar → Sem Value
  | .tmp t => pure (a.tmps.getD t undef)
  | .cell p ty => do loadVar ty (← asAddr (a.tmps.getD p undef))

theorem run_results {fn : Func} {rs : List ResultVar} {vs : List Value} (hr : fn.results = rs.toArray) (h : ResF P Γ F rs vs) {a : Act} (hf : Fr n F a) {w : World} (hw : Holds Γ w) : (results fn a.tmps).run P w = .ok (resV vs) w := by
  have key : ∀ (rs : List ResultVar) (vs : List Value), ResF P Γ F rs vs →
      (rs.mapM (resAct a)).run P w = .ok vs w := by
    intro rs
    induction rs with
    | nil => intro vs h; cases h; rfl
    | cons r rs ih =>
      intro vs h
      cases r with
      | tmp t =>
        cases vs with
        | nil => exact h.elim
        | cons v vs =>
          obtain ⟨h1, h2⟩ := h
          rw [List.mapM_cons]
          simp only [resAct, Sem.run_bind, Sem.run_pure, Result.andThen_ok, ih vs h2, hf.get t v h1]
      | cell p ty =>
        cases vs with
        | nil => exact h.elim
        | cons v vs =>
          obtain ⟨⟨ad, h1, h1'⟩, h2⟩ := h
          rw [List.mapM_cons]
          simp only [resAct, Sem.run_bind, hf.get p _ h1, asAddr, Sem.run_pure, Result.andThen_ok, h1' w hw, ih vs h2]
  have e := key rs vs h
  have hres : results fn a.tmps = (do let vs ← fn.results.mapM (resAct a); pure (if h : vs.size = 1 then vs[0] else .tuple vs)) := by
    unfold results resAct; rfl
  rw [hres, hr, Sem.run_bind, List.mapM_toArray]
  simp only [Sem.run_map, e]
  rcases vs with _ | ⟨v, _ | ⟨v', vs⟩⟩ <;> simp [resV, Sem.run_pure, Result.andThen_ok]

theorem WPq.done {fn : Func} {rs : List ResultVar} {vs : List Value} {R : Value → List Asn → Prop} {Γ' Γx : List Asn} {e : Exit} (he : e = .ret ∨ e = .normal) (hr : fn.results = rs.toArray) (h : ResF P Γ F rs vs) (hΓ : Takes Γ Γ' Γx) (ho : ∀ A, A ∈ Γ' → A.own = true) (hR : R (resV vs) Γ') :
    WPq n W S Γ F (Done P fn W S R) e := by
  intro a w hf hg
  have hg' := (hg.perm hΓ).left
  have key : a.defers = [] ∧ ∃ v, (results fn a.tmps).run P w = .ok v w ∧ ∃ v' Γ', Ending.returned v = .returned v' ∧ R v' Γ' ∧ Post S W Γ' w :=
    ⟨hf.defers, resV vs, run_results hr h hf hg.all, resV vs, Γ', rfl, hR, hg'.mod, hg'.all, hg'.apart, fun A hA g hAg => hg'.mine A hA (ho A hA) g hAg⟩
  rcases he with rfl | rfl <;> exact key

end
end Go.Proofs.YtpilenbdimhegaaGreatDoor
/- Separation: blocks of known cells, rows of cells, and what operations do with them. -/
namespace Go.Proofs.YtpilenbdimhegaaGreatDoor
open Go.RowKit
set_option linter.unusedSimpArgs false
set_option linter.unusedVariables false

/-! ### Bytes -/

def u8s (l : List UInt8) : List Value := l.map fun b => Value.int .u8 ((b.toNat : Nat) : Int)
@[simp] theorem u8s_length (l : List UInt8) : (u8s l).length = l.length := by simp [u8s]
theorem u8s_append (l k : List UInt8) : u8s (l ++ k) = u8s l ++ u8s k := by simp [u8s]
theorem u8s_one (l : List UInt8) : ∀ u, u ∈ u8s l → u.oneCell' = true := by
  intro u hu
  simp only [u8s, List.mem_map] at hu
  obtain ⟨b, _, rfl⟩ := hu
  rfl
theorem u8s_get {l : List UInt8} {i : Nat} (h : i < l.length) : (u8s l)[i]? = some (.int .u8 ((l.getD i 0).toNat : Nat)) := by simp [u8s, h]
theorem u8s_drop (l : List UInt8) (k : Nat) : (u8s l).drop k = u8s (l.drop k) := by simp [u8s, List.map_drop]
theorem u8s_take (l : List UInt8) (k : Nat) : (u8s l).take k = u8s (l.take k) := by simp [u8s, List.map_take]
theorem u8s_set (l : List UInt8) (i : Nat) (c : UInt8) : (u8s l).set i (.int .u8 ((c.toNat : Nat) : Int)) = u8s (l.set i c) := by simp [u8s, List.map_set]
theorem u8s_inj {l m : List UInt8} : u8s l = u8s m ↔ l = m := by
  constructor
  · intro h
    induction l generalizing m with
    | nil => cases m with
      | nil => rfl
      | cons y m => simp [u8s] at h
    | cons x l ih => cases m with
      | nil => simp [u8s] at h
      | cons y m =>
        simp only [u8s, List.map_cons, List.cons.injEq, Value.int.injEq, true_and] at h
        rw [ih h.2, show x = y from UInt8.toNat_inj.1 (by have := h.1; omega)]
  · rintro rfl; rfl
/-! ### Types, so far as the program has them -/

def aggB : TypeDesc → Bool
  | .struct _ | .array _ _ => true
  | _ => false

class TyI (P : Program) (T : TypeId) (ag : outParam Bool) (sz : outParam Nat) : Prop where
  und : (P.underlying T).map aggB = some ag
  size : (P.info? T).map (·.size) = some sz
class SliI (P : Program) (T : TypeId) (e : outParam TypeId) : Prop where
  und : P.underlying T = some (.slice e)
class ArrI (P : Program) (T : TypeId) (m : outParam Nat) (e : outParam TypeId) : Prop where
  und : P.underlying T = some (.array m e)
class IntI (P : Program) (T : TypeId) (k : outParam IntKind) : Prop where
  und : P.underlying T = some (.int k)
/-- The places and sizes of a struct's fields. -/
class StrI (P : Program) (T : TypeId) (places : outParam (List (Nat × Nat))) : Prop where
  str : (match P.underlying T with | some (.struct fs) => fs.toList.mapM (fun f => (P.info? f.type).map fun i => (f.offset, i.size)) | _ => none) = some places
class FldI (P : Program) (T : TypeId) (k : Nat) (off : outParam Nat) : Prop where
  fld : (match P.underlying T with | some (.struct fs) => (fs[k]?).bind fun f => (P.info? f.type).bind fun i => if i.size = 0 then none else some f.offset | _ => none) = some off

theorem TyI.run_isAgg {P : Program} {T : TypeId} {ag : Bool} {sz : Nat} [h : TyI P T ag sz] (w : World) : (isAgg T).run P w = .ok ag w := by
  have h1 := h.und
  cases hd : P.underlying T with
  | none => rw [hd] at h1; cases h1
  | some d =>
    rw [hd] at h1
    have h2 : aggB d = ag := by simpa using h1
    unfold isAgg
    rw [Sem.run_bind, run_underlying hd w, ← h2]
    cases d <;> rfl
theorem TyI.run_sizeOf {P : Program} {T : TypeId} {ag : Bool} {sz : Nat} [h : TyI P T ag sz] (w : World) : (sizeOf T).run P w = .ok sz w := by
  have h1 := h.size
  cases hi : P.info? T with
  | none => rw [hi] at h1; cases h1
  | some i =>
    rw [hi] at h1
    have h2 : i.size = sz := by simpa using h1
    simp [sizeOf, typeInfo, hi, Sem.run_bind, h2]
theorem FldI.run {P : Program} {T : TypeId} {k off : Nat} [h : FldI P T k off] (ad : Addr) (w : World) : (Instr.fieldAt T (.pointer (some ad)) k).run P w = .ok (.pointer (some (ad.add off))) w := by
  have h1 := h.fld
  cases hd : P.underlying T with
  | none => rw [hd] at h1; cases h1
  | some d =>
    rw [hd] at h1
    cases d with
    | struct fs =>
      simp only at h1
      cases hf : fs[k]? with
      | none => rw [hf] at h1; cases h1
      | some f =>
        rw [hf] at h1
        simp only [Option.bind_some] at h1
        cases hi : P.info? f.type with
        | none => rw [hi] at h1; cases h1
        | some i =>
          rw [hi] at h1
          simp only [Option.bind_some] at h1
          split at h1
          · cases h1
          · rename_i hz
            cases h1
            simp [Instr.fieldAt, run_underlying hd, hf, Instr.sureAddr, fieldPlace, sizeOf, typeInfo, hi, Sem.run_bind, hz, Sem.run_ite]
    | _ => cases h1

/-! ### Cells in chunks -/

abbrev Ch := List (Nat × List Value)

def flat : Ch → List Value
  | [] => []
  | [c] => c.2
  | c :: cs => c.2 ++ flat cs
theorem flat_eq : ∀ cs : Ch, flat cs = (cs.map (·.2)).flatten
  | [] => rfl
  | [c] => by simp [flat]
  | c :: c' :: cs => by
    show c.2 ++ flat (c' :: cs) = _
    rw [flat_eq (c' :: cs)]; simp
def total : Ch → Nat
  | [] => 0
  | c :: cs => c.1 + total cs
def chOk (cs : Ch) : Prop := ∀ c, c ∈ cs → c.2.length = c.1
theorem flat_length {cs : Ch} (h : chOk cs) : (flat cs).length = total cs := by
  rw [flat_eq]
  induction cs with
  | nil => rfl
  | cons c cs ih =>
    rw [List.map_cons, List.flatten_cons, List.length_append, ih fun d hd => h d (List.mem_cons_of_mem _ hd), h c (List.mem_cons_self ..)]
    rfl

/-- Chunks of the sizes that they tell, of single cells. -/
structure FOk (cs : Ch) : Prop where
  len : chOk cs
  one : ∀ v, v ∈ flat cs → v.oneCell' = true
theorem FOk.nil : FOk [] := ⟨(fun _ h => by cases h), (fun _ h => by cases h)⟩
theorem FOk.seg {n : Nat} {l : List Value} {cs : Ch} (h : l.length = n) (h1 : ∀ v, v ∈ l → v.oneCell' = true) (k : FOk cs) : FOk ((n, l) :: cs) := by
  refine ⟨fun c hc => ?_, fun v hv => ?_⟩
  · rcases List.mem_cons.1 hc with rfl | hc
    · exact h
    · exact k.len c hc
  · rw [flat_eq, List.map_cons, List.flatten_cons, ← flat_eq] at hv
    rcases List.mem_append.1 hv with hv | hv
    · exact h1 v hv
    · exact k.one v hv
theorem FOk.one1 {v : Value} {cs : Ch} (h : v.oneCell' = true) (k : FOk cs) : FOk ((1, [v]) :: cs) := FOk.seg rfl (fun u hu => by rw [List.mem_singleton.1 hu]; exact h) k
theorem FOk.bytes {n : Nat} {l : List UInt8} {cs : Ch} (h : l.length = n) (k : FOk cs) : FOk ((n, u8s l) :: cs) := FOk.seg (by rw [u8s_length]; exact h) (u8s_one l) k

/-- A struct's or an array's value. -/
def ag (cs : Ch) : Value := .agg (flat cs).toArray

def takeCh : Ch → Nat → Option Ch
  | cs, n => match Nat.beq n 0 with
    | true => some []
    | false => match cs with
      | [] => none
      | c :: cs => match Nat.ble c.1 n with
        | true => (takeCh cs (n - c.1)).map (c :: ·)
        | false => none
/-- The chunks from a place on. -/
def sel : Ch → Nat → Nat → Option Ch
  | [], _, _ => none
  | c :: cs, off, n => match Nat.beq off 0 with
    | true => takeCh (c :: cs) n
    | false => match Nat.ble c.1 off with
      | true => sel cs (off - c.1) n
      | false => none
def dropCh : Ch → Nat → Option Ch
  | cs, n => match Nat.beq n 0 with
    | true => some cs
    | false => match cs with
      | [] => none
      | c :: cs => match Nat.ble c.1 n with
        | true => dropCh cs (n - c.1)
        | false => none
def appCh (new : Ch) : Ch → Ch
  | [] => new
  | c :: cs => new ++ c :: cs
/-- Other chunks from a place on. -/
def upd (new : Ch) : Ch → Nat → Nat → Option Ch
  | [], _, _ => none
  | c :: cs, off, n => match Nat.beq off 0 with
    | true => (dropCh (c :: cs) n).map (appCh new)
    | false => match Nat.ble c.1 off with
      | true => (upd new cs (off - c.1) n).map (c :: ·)
      | false => none

theorem beq_true {a b : Nat} (h : Nat.beq a b = true) : a = b := Nat.eq_of_beq_eq_true h
theorem takeCh_spec : ∀ {cs : Ch} {n : Nat} {ds : Ch}, takeCh cs n = some ds → chOk cs → chOk ds ∧ total ds = n ∧ ∃ es, cs = ds ++ es
  | [], n, ds, h, _ => by
    unfold takeCh at h
    split at h
    · rename_i hb; cases h; exact ⟨(fun _ h => by cases h), (beq_true hb).symm, [], rfl⟩
    · cases h
  | c :: cs, n, ds, h, hk => by
    unfold takeCh at h
    split at h
    · rename_i hb; cases h; exact ⟨(fun _ h => by cases h), (beq_true hb).symm, _, rfl⟩
    · simp only at h
      split at h
      · rename_i hle
        rw [Option.map_eq_some_iff] at h
        obtain ⟨ds', h1, rfl⟩ := h
        obtain ⟨a, b, es, rfl⟩ := takeCh_spec h1 fun d hd => hk d (List.mem_cons_of_mem _ hd)
        refine ⟨fun d hd => ?_, ?_, es, rfl⟩
        · rcases List.mem_cons.1 hd with rfl | hd
          · exact hk _ (List.mem_cons_self ..)
          · exact a d hd
        · have := Nat.le_of_ble_eq_true hle
          simp only [total, b]; omega
      · cases h
theorem dropCh_spec : ∀ {cs : Ch} {n : Nat} {es : Ch}, dropCh cs n = some es → ∃ ds, cs = ds ++ es ∧ total ds = n
  | [], n, ds, h => by
    unfold dropCh at h
    split at h
    · rename_i hb; cases h; exact ⟨[], rfl, (beq_true hb).symm⟩
    · cases h
  | c :: cs, n, ds, h => by
    unfold dropCh at h
    split at h
    · rename_i hb; cases h; exact ⟨[], rfl, (beq_true hb).symm⟩
    · simp only at h
      split at h
      · rename_i hle
        obtain ⟨ds', rfl, hb⟩ := dropCh_spec h
        refine ⟨c :: ds', rfl, ?_⟩
        have := Nat.le_of_ble_eq_true hle
        simp only [total, hb]; omega
      · cases h
theorem sel_spec : ∀ {cs : Ch} {off n : Nat} {ds : Ch}, sel cs off n = some ds → chOk cs → chOk ds ∧ total ds = n ∧ ∃ pre es, cs = pre ++ (ds ++ es) ∧ total pre = off
  | [], _, _, _, h, _ => by cases h
  | c :: cs, off, n, ds, h, hk => by
    unfold sel at h
    split at h
    · rename_i hb
      obtain ⟨a, b, es, he⟩ := takeCh_spec h hk
      exact ⟨a, b, [], es, he, (beq_true hb).symm⟩
    · split at h
      · rename_i hle
        obtain ⟨a, b, pre, es, rfl, ht⟩ := sel_spec h fun d hd => hk d (List.mem_cons_of_mem _ hd)
        refine ⟨a, b, c :: pre, es, rfl, ?_⟩
        have := Nat.le_of_ble_eq_true hle
        simp only [total, ht]; omega
      · cases h
theorem upd_spec {new : Ch} : ∀ {cs : Ch} {off n : Nat} {ds : Ch}, upd new cs off n = some ds → ∃ pre bs es, cs = pre ++ (bs ++ es) ∧ ds = pre ++ (new ++ es) ∧ total pre = off ∧ total bs = n
  | [], _, _, _, h => by cases h
  | c :: cs, off, n, ds, h => by
    unfold upd at h
    split at h
    · rename_i hb
      rw [Option.map_eq_some_iff] at h
      obtain ⟨es, h1, rfl⟩ := h
      obtain ⟨bs, he, ht⟩ := dropCh_spec h1
      refine ⟨[], bs, es, he, ?_, (beq_true hb).symm, ht⟩
      cases es <;> simp [appCh]
    · split at h
      · rename_i hle
        rw [Option.map_eq_some_iff] at h
        obtain ⟨ds', h1, rfl⟩ := h
        obtain ⟨pre, bs, es, rfl, rfl, ha, hb⟩ := upd_spec h1
        refine ⟨c :: pre, bs, es, rfl, rfl, ?_, hb⟩
        have := Nat.le_of_ble_eq_true hle
        simp only [total, ha]; omega
      · cases h
theorem flat_append (pre bs : Ch) : flat (pre ++ bs) = flat pre ++ flat bs := by simp [flat_eq]
theorem chOk_append {pre bs : Ch} : chOk (pre ++ bs) ↔ chOk pre ∧ chOk bs := by
  constructor
  · exact fun h => ⟨fun c hc => h c (List.mem_append_left _ hc), fun c hc => h c (List.mem_append_right _ hc)⟩
  · rintro ⟨h, k⟩ c hc
    rcases List.mem_append.1 hc with hc | hc
    · exact h c hc
    · exact k c hc

class ZeroI (P : Program) (T : TypeId) (cs : outParam Ch) : Prop where
  zero : ((P.info? T).bind (·.zero)).map (fun z => z.cells.toList) = some (flat cs)
  ok : FOk cs
theorem ZeroI.run {P : Program} {T : TypeId} {cs : Ch} [h : ZeroI P T cs] (w : World) : ∃ z, (zeroValue T).run P w = .ok z w ∧ z.cells = (flat cs).toArray := by
  have h1 := h.zero
  cases hi : P.info? T with
  | none => rw [hi] at h1; cases h1
  | some i =>
    rw [hi] at h1
    simp only [Option.bind_some] at h1
    cases hz : i.zero with
    | none => rw [hz] at h1; cases h1
    | some z =>
      rw [hz] at h1
      refine ⟨z, by simp [zeroValue, typeInfo, hi, hz, Sem.run_bind], ?_⟩
      have h2 : z.cells.toList = flat cs := by simpa using h1
      rw [← h2]

/-! ### Blocks of known cells -/

/-- Block g is one's own and holds these cells. -/
def bx (g : Nat) (T : TypeId) (cs : Ch) : Asn where
  own := true
  fp := fun g' => g' = g
  holds := fun w => w.heap[g]? = some (.cells (flat cs).toArray T (0, 0)) ∧ FOk cs
  lt := fun w h g' hg => by
    subst hg
    rcases Nat.lt_or_ge g' w.heap.size with h1 | h1
    · exact h1
    · rw [Array.getElem?_eq_none h1] at h; cases h.1
  loc := fun w w' h hl => ⟨by rw [hl g rfl]; exact h.1, h.2⟩

theorem bx_own {g : Nat} {T : TypeId} {cs : Ch} : (bx g T cs).own = true := rfl
theorem bx_cell {g : Nat} {T : TypeId} {cs : Ch} {w : World} (h : (bx g T cs).holds w) (i : Nat) : w.cell? ⟨g, i, none⟩ = (flat cs)[i]? := by
  simp [World.cell?, h.1]

theorem add_mk (g o i : Nat) : (⟨g, o, none⟩ : Addr).add i = ⟨g, o + i, none⟩ := by
  unfold Addr.add; split <;> simp_all

theorem sel_cells {cs : Ch} {off n : Nat} {ds : Ch} (h : sel cs off n = some ds) (hk : chOk cs) : ∀ j v, (flat ds)[j]? = some v → (flat cs)[off + j]? = some v := by
  intro j v hj
  obtain ⟨h1, h2, pre, es, rfl, ht⟩ := sel_spec h hk
  rw [flat_append, flat_append]
  have ha := flat_length (chOk_append.1 hk).1
  have hjl := (List.getElem?_eq_some_iff.1 hj).1
  rw [List.getElem?_append_right (by omega), List.getElem?_append_left (by omega), ← hj]
  congr 1
  omega

/-- A load of a struct or an array out of a block. -/
theorem run_loadA {P : Program} {T T' : TypeId} {sz g off : Nat} {cs ds : Ch} {w : World} [hT : TyI P T true sz] (hs : sel cs off sz = some ds) (h : (bx g T' cs).holds w) : (loadVar T ⟨g, off, none⟩).run P w = .ok (ag ds) w := by
  have hl : (loadCells ⟨g, off, none⟩ sz).run P w = .ok (flat ds).toArray w := by
    have h2 := (sel_spec hs h.2.len)
    have h3 := flat_length h2.1
    rw [h2.2.1] at h3
    have := run_loadCells_list (P := P) w ⟨g, off, none⟩ (flat ds) fun j v hv => by
      rw [add_mk, bx_cell h]
      exact sel_cells hs h.2.len j v hv
    rw [h3] at this
    exact this
  simp [loadVar, Sem.run_bind, hT.run_isAgg, hT.run_sizeOf, hl, ag]

/-- A load of one cell. -/
theorem run_load1 {P : Program} {T : TypeId} {sz : Nat} {ad : Addr} {v : Value} {w : World} [hT : TyI P T false sz] (h : w.cell? ad = some v) : (loadVar T ad).run P w = .ok v w := by
  simp [loadVar, Sem.run_bind, hT.run_isAgg, load, Sem.run, h]

/-! ### Rows of cells -/

/-- From v, of n elements, these cells are read. -/
def Reads (w : World) (v : Value) (n : Nat) (xs : List Value) : Prop :=
  (v = .slice none 0 0 ∧ n = 0 ∧ xs = []) ∨ ∃ ad cap, v = .slice (some ad) n cap ∧ n ≤ cap ∧ cap ≤ maxLen ∧ ∀ i u, xs[i]? = some u → w.cell? (ad.add i) = some u

theorem Reads.at {w : World} {v : Value} {n : Nat} {xs : List Value} (h : Reads w v n xs) : ∃ a cap, v = .slice a n cap ∧ n ≤ cap ∧ cap ≤ maxLen ∧ (a = none → cap = 0) ∧ ∀ i u, xs[i]? = some u → ∃ ad, a = some ad ∧ w.cell? (ad.add i) = some u := by
  rcases h with ⟨rfl, rfl, rfl⟩ | ⟨ad, cap, rfl, h1, h2, h3⟩
  · exact ⟨none, 0, rfl, Nat.le_refl _, by simp [maxLen], fun _ => rfl, by simp⟩
  · exact ⟨_, cap, rfl, h1, h2, by simp, fun i u hu => ⟨ad, rfl, h3 i u hu⟩⟩

theorem add_block (a : Addr) (i : Nat) : (a.add i).block = a.block := by unfold Addr.add; split <;> rfl

/-- From v these cells are read: to be read alone. -/
def rdN (v : Value) (n : Nat) (xs : List Value) : Asn where
  own := false
  fp := fun g => xs ≠ [] ∧ v.ownBlock = some g
  holds := fun w => Reads w v n xs
  lt := fun w h g hg => by
    obtain ⟨hne, hb⟩ := hg
    rcases h with ⟨rfl, _, rfl⟩ | ⟨ad, cap, rfl, h1, h2, h3⟩
    · exact absurd rfl hne
    · cases xs with
      | nil => exact absurd rfl hne
      | cons x xs =>
        have := World.block_lt_of_cell? w _ (h3 0 x rfl)
        rw [add_block] at this
        cases hb
        exact this
  loc := fun w w' h hl => by
    rcases h with ⟨rfl, rfl, rfl⟩ | ⟨ad, cap, rfl, h1, h2, h3⟩
    · exact .inl ⟨rfl, rfl, rfl⟩
    · refine .inr ⟨ad, cap, rfl, h1, h2, fun i u hu => ?_⟩
      rw [← h3 i u hu]
      refine World.cell?_of_block (w := w) ?_
      rw [add_block]
      refine hl _ ⟨?_, rfl⟩
      rintro rfl
      simp at hu

theorem rdN_own {v : Value} {n : Nat} {xs : List Value} : (rdN v n xs).own = false := rfl
/-- A row of one's own: n elements of some cells. -/
def rowN (e : TypeId) (sz : Nat) (v : Value) (n : Nat) (xs : List Value) : Asn where
  own := true
  fp := fun g => v.ownBlock = some g
  holds := fun w => w.ownsRow 0 e sz v n xs
  lt := fun w h g hg => (World.ownsRow.lt h g hg).2
  loc := fun w w' h hl => by
    refine ⟨h.1, ?_⟩
    rcases h.2 with hn | ⟨g, cap, cur, hv, hb, hg, r⟩
    · exact .inl hn
    · refine .inr ⟨g, cap, cur, hv, hb, ?_, r⟩
      rw [hl g (by rw [hv]; rfl)]
      exact hg

theorem rowN_own {e : TypeId} {sz : Nat} {v : Value} {n : Nat} {xs : List Value} : (rowN e sz v n xs).own = true := rfl
theorem row_reads {e : TypeId} {sz : Nat} {v : Value} {n : Nat} {xs : List Value} {w : World} (h : (rowN e sz v n xs).holds w) : Reads w v n xs := by
  rcases h.2 with ⟨rfl, h0⟩ | ⟨g, cap, cur, rfl, hB, hg, hnc, hcm, hcs, ht⟩
  · subst h0
    exact .inl ⟨rfl, rfl, List.eq_nil_of_length_eq_zero (by rw [h.1]; simp)⟩
  · refine .inr ⟨⟨g, 0, none⟩, cap, rfl, hnc, hcm, fun j u hj => ?_⟩
    have hlt : j < n * sz := by rw [← h.1]; exact (List.getElem?_eq_some_iff.1 hj).1
    rw [← ht, List.getElem?_take, if_pos hlt] at hj
    rw [add_mk]
    simp only [World.cell?, hg]
    simpa using hj
/-- Bytes to be read; bytes of one's own. -/
abbrev rb (v : Value) (l : List UInt8) : Asn := rdN v l.length (u8s l)
abbrev ob (v : Value) (l : List UInt8) : Asn := rowN 5 1 v l.length (u8s l)

/-- Slices of bytes to be read, each. -/
abbrev rbz (vs : List Value) (ls : List (List UInt8)) : List Asn := List.zipWith rb vs ls
theorem mem_rbz : ∀ {vs : List Value} {ls : List (List UInt8)} {i : Nat} {v : Value} {l : List UInt8}, vs[i]? = some v → ls[i]? = some l → rb v l ∈ rbz vs ls
  | v :: vs, l :: ls, 0, _, _, h1, h2 => by simp at h1 h2; subst h1 h2; exact List.mem_cons_self ..
  | v :: vs, l :: ls, i + 1, _, _, h1, h2 => List.mem_cons_of_mem _ (mem_rbz (by simpa using h1) (by simpa using h2))
  | [], _, _, _, _, h1, _ => by simp at h1
  | _ :: _, [], _, _, _, _, h2 => by simp at h2

theorem rbz_own : ∀ {vs : List Value} {ls : List (List UInt8)} (A : Asn), A ∈ rbz vs ls → A.own = false
  | [], _, A, h => by simp [rbz] at h
  | _ :: _, [], A, h => by simp [rbz] at h
  | v :: vs, l :: ls, A, h => by
    rcases List.mem_cons.1 h with rfl | h
    · rfl
    · exact rbz_own A h
theorem Provs.of_mem {Γ : List Asn} : ∀ {Δ : List Asn}, (∀ A, A ∈ Δ → A.own = false ∧ A ∈ Γ) → Provs Γ Δ
  | [], _ => trivial
  | A :: Δ, h => ⟨⟨(h A (List.mem_cons_self ..)).1, fun w hw => hw A (h A (List.mem_cons_self ..)).2⟩, Provs.of_mem fun B hB => h B (List.mem_cons_of_mem _ hB)⟩
theorem Provs.rbz {vs : List Value} {ls : List (List UInt8)} : Provs (rbz vs ls) (rbz vs ls) := Provs.of_mem fun A hA => ⟨rbz_own A hA, hA⟩
theorem Provs.skipA {Γ : List Asn} {B : Asn} : ∀ {Δ : List Asn}, Provs Γ Δ → Provs (B :: Γ) Δ
  | [], _ => trivial
  | A :: Δ, h => ⟨⟨h.1.1, fun w hw => h.1.2 w fun C hC => hw C (List.mem_cons_of_mem _ hC)⟩, Provs.skipA h.2⟩
def HasS (Γ : List Asn) (v : Value) (n : Nat) (xs : List Value) : Prop := ∀ w, Holds Γ w → Reads w v n xs
theorem HasS.rd {Γ : List Asn} {v : Value} {n : Nat} {xs : List Value} (h : rdN v n xs ∈ Γ) : HasS Γ v n xs := fun w hw => hw _ h
theorem HasS.row {Γ : List Asn} {e : TypeId} {sz : Nat} {v : Value} {n : Nat} {xs : List Value} (h : rowN e sz v n xs ∈ Γ) : HasS Γ v n xs := fun w hw => row_reads (hw _ h)
theorem HasS.nil {Γ : List Asn} : HasS Γ (.slice none 0 0) 0 [] := fun _ _ => .inl ⟨rfl, rfl, rfl⟩
theorem HasS.nilB {Γ : List Asn} : HasS Γ (.slice none 0 0) ([] : List UInt8).length (u8s []) := fun _ _ => .inl ⟨rfl, rfl, rfl⟩
theorem Prov.rd {Γ : List Asn} {v : Value} {n : Nat} {xs : List Value} (h : HasS Γ v n xs) : Prov Γ (rdN v n xs) := ⟨rfl, h⟩
theorem HasS.one {Γ : List Asn} {v : Value} {n : Nat} {xs : List Value} (h : HasS Γ v n xs) : ∀ w, Holds Γ w → v.oneCell' = true := fun w hw => by
  obtain ⟨a, cap, rfl, _⟩ := (h w hw).at
  rfl

/-- A part of a slice whose elements have sz cells. -/
def subv (sz : Nat) (v : Value) (k n : Nat) : Value :=
  match v with
  | .slice (some a) _ cap => .slice (some (if cap = k then a else a.add (k * sz))) n (cap - k)
  | v => v
theorem add_add (a : Addr) (k i : Nat) : (a.add k).add i = a.add (k + i) := by
  unfold Addr.add
  by_cases h1 : k = 0 <;> by_cases h2 : i = 0 <;> simp_all <;> omega
theorem Reads.sub {w : World} {v : Value} {m : Nat} {xs : List Value} (h : Reads w v m xs) {sz k n : Nat} (hx : xs.length = m * sz) (hk : k + n ≤ m) : Reads w (subv sz v k n) n ((xs.drop (k * sz)).take (n * sz)) := by
  have h2 : k * sz + n * sz ≤ xs.length := by rw [hx, ← Nat.add_mul]; exact Nat.mul_le_mul_right _ hk
  have hl : ((xs.drop (k * sz)).take (n * sz)).length = n * sz := by simp; omega
  rcases h with ⟨rfl, rfl, rfl⟩ | ⟨ad, cap, rfl, h1, h2, h3⟩
  · have : n = 0 := by omega
    subst this
    exact .inl ⟨rfl, rfl, by simp⟩
  · refine .inr ⟨if cap = k then ad else ad.add (k * sz), cap - k, rfl, by omega, by omega, fun i u hu => ?_⟩
    have hi : i < n * sz := by have := (List.getElem?_eq_some_iff.1 hu).1; omega
    have hn : n ≠ 0 := by rintro rfl; simp at hi
    rw [if_neg (by omega), add_add]
    refine h3 _ _ ?_
    rw [List.getElem?_take, if_pos hi, List.getElem?_drop] at hu
    exact hu
theorem HasS.sub {Γ : List Asn} {v : Value} {m : Nat} {xs : List Value} (h : HasS Γ v m xs) {sz k n : Nat} (hx : xs.length = m * sz) (hk : k + n ≤ m) : HasS Γ (subv sz v k n) n ((xs.drop (k * sz)).take (n * sz)) := fun w hw => (h w hw).sub hx hk

/-- A part of bytes. -/
def seg (l : List UInt8) (k n : Nat) : List UInt8 := (l.drop k).take n
@[simp] theorem seg_length {l : List UInt8} {k n : Nat} (h : k + n ≤ l.length) : (seg l k n).length = n := by simp [seg]; omega
theorem HasS.subB {Γ : List Asn} {v : Value} {l : List UInt8} (h : HasS Γ v l.length (u8s l)) {k n : Nat} (hk : k + n ≤ l.length) : HasS Γ (subv 1 v k n) (seg l k n).length (u8s (seg l k n)) := by
  have := HasS.sub (sz := 1) h (by simp [u8s_length]) hk
  simp only [Nat.mul_one, u8s_drop, u8s_take] at this
  rw [seg_length hk]
  exact this

/-- The place of a cell. -/
def ela (v : Value) (i : Nat) : Addr := match v with | .slice (some a) _ _ => a.add i | _ => ⟨0, 0, none⟩
theorem HasS.cell {Γ : List Asn} {v : Value} {n : Nat} {xs : List Value} (h : HasS Γ v n xs) {i : Nat} {u : Value} (hu : xs[i]? = some u) {w : World} (hw : Holds Γ w) : w.cell? (ela v i) = some u := by
  obtain ⟨a, cap, rfl, h1, h2, _, h3⟩ := (h w hw).at
  obtain ⟨ad, rfl, hc⟩ := h3 i u hu
  exact hc

end Go.Proofs.YtpilenbdimhegaaGreatDoor
/- Separation: the rules of operations. -/
namespace Go.Proofs.YtpilenbdimhegaaGreatDoor
open Go.RowKit
set_option linter.unusedSimpArgs false
set_option linter.unusedVariables false

section
variable {P : Program} {n : Nat} {Γ : List Asn} {F : List (Nat × Value)} {d : Option Tmp} {ty : TypeId} {pos : String} {af : Array Edge} {gd : Option (Nat × Bool)}

/-! ### Operations that only read -/

theorem ReadR.move {x : Operand} {v : Value} (hx : evF F x = some v) : ReadR P n Γ F ⟨d, .move x, ty, pos, af, gd⟩ v := fun ρ w hf hw => by
  simp [execOp, hf.eval hx]
theorem ReadR.assign {x : Operand} {v : Value} (hx : evF F x = some v) : ReadR P n Γ F ⟨d, .assign x, ty, pos, af, gd⟩ v := fun ρ w hf hw => by
  simp [execOp, hf.eval hx]
theorem ReadR.pickT {c a b : Operand} {v : Value} (hc : evF F c = some (.bool true)) (ha : evF F a = some v) : ReadR P n Γ F ⟨d, .pick c a b, ty, pos, af, gd⟩ v := fun ρ w hf hw => by
  simp [execOp, hf.eval hc, hf.eval ha, asBool]
theorem ReadR.pickF {c a b : Operand} {v : Value} (hc : evF F c = some (.bool false)) (hb : evF F b = some v) : ReadR P n Γ F ⟨d, .pick c a b, ty, pos, af, gd⟩ v := fun ρ w hf hw => by
  simp [execOp, hf.eval hc, hf.eval hb, asBool]
theorem ReadR.not {x : Operand} {b : Bool} {T : TypeId} (hx : evF F x = some (.bool b)) : ReadR P n Γ F ⟨d, .unOp .not T x, ty, pos, af, gd⟩ (.bool (!b)) := fun ρ w hf hw => by
  simp [execOp, hf.eval hx, Op.unary]
theorem ReadR.extract {x : Operand} {vs : List Value} {i : Nat} {v : Value} (hx : evF F x = some (.tuple vs.toArray)) (hv : vs[i]? = some v) : ReadR P n Γ F ⟨d, .extract x i, ty, pos, af, gd⟩ v := fun ρ w hf hw => by
  simp [execOp, hf.eval hx, Instr.extract, hv]
theorem ReadR.nilCheck {x : Operand} {a : Addr} (hx : evF F x = some (.pointer (some a))) : ReadR P n Γ F ⟨d, .nilCheck x, ty, pos, af, gd⟩ (.pointer (some a)) := fun ρ w hf hw => by
  simp [execOp, hf.eval hx]

theorem ReadR.len {x : Operand} {T e : TypeId} [hT : SliI P T e] {v : Value} {m : Nat} {xs : List Value} (hx : evF F x = some v) (h : HasS Γ v m xs) :
    ReadR P n Γ F ⟨d, .call { callee := .builtin .len, args := #[x], argTypes := #[T] }, ty, pos, af, gd⟩ (.int .i64 m) := fun ρ w hf hw => by
  obtain ⟨a, cap, rfl, _⟩ := (h w hw).at
  simp [execOp, resolve, invoke, builtin, Builtin.len_, hf.eval hx, run_underlying hT.und, goInt]

theorem ReadR.loadS {T T' : TypeId} [hT : TyI P T false 1] {x : Operand} {g off : Nat} {cs : Ch} {v : Value} (hx : evF F x = some (.pointer (some ⟨g, off, none⟩))) (hm : bx g T' cs ∈ Γ) (hs : sel cs off 1 = some [(1, [v])]) :
    ReadR P n Γ F ⟨d, .load T x, ty, pos, af, gd⟩ v := fun ρ w hf hw => by
  have hb := hw _ hm
  have hc : w.cell? ⟨g, off, none⟩ = some v := by
    rw [bx_cell hb]
    exact sel_cells hs hb.2.len 0 v rfl
  simp [execOp, hf.eval hx, Instr.loadAt, Instr.sureAddr, run_load1 (T := T) hc]
theorem ReadR.loadA {T T' : TypeId} {sz : Nat} [hT : TyI P T true sz] {x : Operand} {g off : Nat} {cs ds : Ch} (hx : evF F x = some (.pointer (some ⟨g, off, none⟩))) (hm : bx g T' cs ∈ Γ) (hs : sel cs off sz = some ds) :
    ReadR P n Γ F ⟨d, .load T x, ty, pos, af, gd⟩ (ag ds) := fun ρ w hf hw => by
  simp [execOp, hf.eval hx, Instr.loadAt, Instr.sureAddr, run_loadA (T := T) hs (hw _ hm)]
/-- The chunk that begins at a place. -/
def chAt : Ch → Nat → Option (Nat × List Value)
  | [], _ => none
  | c :: cs, off => match Nat.beq off 0 with
    | true => some c
    | false => match Nat.ble c.1 off with
      | true => chAt cs (off - c.1)
      | false => none
theorem chAt_spec : ∀ {cs : Ch} {off : Nat} {c : Nat × List Value}, chAt cs off = some c → ∃ pre es, cs = pre ++ (c :: es) ∧ total pre = off
  | [], _, _, h => by cases h
  | c' :: cs, off, c, h => by
    unfold chAt at h
    split at h
    · rename_i hb; cases h; exact ⟨[], cs, rfl, (beq_true hb).symm⟩
    · split at h
      · rename_i hle
        obtain ⟨pre, es, rfl, ht⟩ := chAt_spec h
        refine ⟨c' :: pre, es, rfl, ?_⟩
        have := Nat.le_of_ble_eq_true hle
        simp only [total, ht]; omega
      · cases h
theorem chAt_cell {cs : Ch} {off : Nat} {c : Nat × List Value} (h : chAt cs off = some c) (hk : chOk cs) {i : Nat} {v : Value} (hv : c.2[i]? = some v) : (flat cs)[off + i]? = some v := by
  obtain ⟨pre, es, rfl, ht⟩ := chAt_spec h
  have ha := flat_length (chOk_append.1 hk).1
  have hl := (List.getElem?_eq_some_iff.1 hv).1
  rw [flat_append, List.getElem?_append_right (by omega), show off + i - (flat pre).length = i by omega, flat_eq, List.map_cons, List.flatten_cons, List.getElem?_append_left hl]
  exact hv
theorem ReadR.loadR {T T' : TypeId} [hT : TyI P T false 1] {x : Operand} {g off i m : Nat} {cs : Ch} {xs : List Value} {v : Value} (hx : evF F x = some (.pointer (some ⟨g, off + i, none⟩))) (hm : bx g T' cs ∈ Γ) (hs : chAt cs off = some (m, xs)) (hv : xs[i]? = some v) :
    ReadR P n Γ F ⟨d, .load T x, ty, pos, af, gd⟩ v := fun ρ w hf hw => by
  have hb := hw _ hm
  have hc : w.cell? ⟨g, off + i, none⟩ = some v := by
    rw [bx_cell hb]
    exact chAt_cell hs hb.2.len hv
  simp [execOp, hf.eval hx, Instr.loadAt, Instr.sureAddr, run_load1 (T := T) hc]
theorem ReadR.loadRB {T T' : TypeId} [hT : TyI P T false 1] {x : Operand} {g off i m : Nat} {cs : Ch} {l : List UInt8} (hx : evF F x = some (.pointer (some ⟨g, off + i, none⟩))) (hm : bx g T' cs ∈ Γ) (hs : chAt cs off = some (m, u8s l)) (hi : i < l.length) :
    ReadR P n Γ F ⟨d, .load T x, ty, pos, af, gd⟩ (.int .u8 ((l.getD i 0).toNat : Nat)) := ReadR.loadR hx hm hs (u8s_get hi)
theorem ReadR.loadE {T : TypeId} [hT : TyI P T false 1] {x : Operand} {s : Value} {i m : Nat} {xs : List Value} {v : Value} (hx : evF F x = some (.pointer (some (ela s i)))) (h : HasS Γ s m xs) (hv : xs[i]? = some v) :
    ReadR P n Γ F ⟨d, .load T x, ty, pos, af, gd⟩ v := fun ρ w hf hw => by
  simp [execOp, hf.eval hx, Instr.loadAt, Instr.sureAddr, run_load1 (T := T) (h.cell hv hw)]
theorem ReadR.loadEB {T : TypeId} [hT : TyI P T false 1] {x : Operand} {s : Value} {i : Nat} {l : List UInt8} (hx : evF F x = some (.pointer (some (ela s i)))) (h : HasS Γ s l.length (u8s l)) (hi : i < l.length) :
    ReadR P n Γ F ⟨d, .load T x, ty, pos, af, gd⟩ (.int .u8 ((l.getD i 0).toNat : Nat)) := ReadR.loadE hx h (u8s_get hi)
theorem ela_add (s : Value) (i j : Nat) (h : ∃ a n c, s = .slice (some a) n c) : (ela s i).add j = ela s (i + j) := by
  obtain ⟨a, n, c, rfl⟩ := h
  exact add_add a i j
/-- A struct or an array out of a row. -/
theorem ReadR.loadEA {T : TypeId} {sz : Nat} [hT : TyI P T true sz] {x : Operand} {s : Value} {i m : Nat} {xs : List Value} (hx : evF F x = some (.pointer (some (ela s i)))) (h : HasS Γ s m xs) (hi : i + sz ≤ xs.length) :
    ReadR P n Γ F ⟨d, .load T x, ty, pos, af, gd⟩ (ag [(sz, (xs.drop i).take sz)]) := fun ρ w hf hw => by
  have hlen : ((xs.drop i).take sz).length = sz := by simp; omega
  have hl : (loadCells (ela s i) sz).run P w = .ok ((xs.drop i).take sz).toArray w := by
    have := run_loadCells_list (P := P) w (ela s i) ((xs.drop i).take sz) fun j v hv => by
      obtain ⟨a, cap, hv', h1, h2, h3, h4⟩ := (h w hw).at
      have hj : j < sz := by have := (List.getElem?_eq_some_iff.1 hv).1; omega
      rw [List.getElem?_take, if_pos hj, List.getElem?_drop] at hv
      obtain ⟨ad, rfl, hc⟩ := h4 _ _ hv
      rw [ela_add _ _ _ ⟨_, _, _, hv'⟩, hv']
      exact hc
    rw [hlen] at this
    exact this
  simp [execOp, hf.eval hx, Instr.loadAt, Instr.sureAddr, loadVar, Sem.run_bind, hT.run_isAgg, hT.run_sizeOf, hl, ag, flat]
theorem ReadR.loadEAB {T : TypeId} {sz : Nat} [hT : TyI P T true sz] {x : Operand} {s : Value} {i : Nat} {l : List UInt8} (hx : evF F x = some (.pointer (some (ela s i)))) (h : HasS Γ s l.length (u8s l)) (hi : i + sz ≤ l.length) :
    ReadR P n Γ F ⟨d, .load T x, ty, pos, af, gd⟩ (ag [(sz, u8s ((l.drop i).take sz))]) := by
  have := ReadR.loadEA (P := P) (n := n) (d := d) (ty := ty) (pos := pos) (af := af) (gd := gd) (T := T) hx h (by rw [u8s_length]; exact hi)
  rwa [u8s_drop, u8s_take] at this

theorem ReadR.field {T : TypeId} {k o g off : Nat} [hT : FldI P T k o] {x : Operand} (hx : evF F x = some (.pointer (some ⟨g, off, none⟩))) : ReadR P n Γ F ⟨d, .fieldAddr T x k, ty, pos, af, gd⟩ (.pointer (some ⟨g, off + o, none⟩)) := fun ρ w hf hw => by
  simp [execOp, hf.eval hx, hT.run, add_mk]
theorem ReadR.fieldE {T : TypeId} {k o i : Nat} [hT : FldI P T k o] {x : Operand} {s : Value} {m : Nat} {xs : List Value} (hx : evF F x = some (.pointer (some (ela s i)))) (h : HasS Γ s m xs) (hi : i < xs.length) : ReadR P n Γ F ⟨d, .fieldAddr T x k, ty, pos, af, gd⟩ (.pointer (some (ela s (i + o)))) := fun ρ w hf hw => by
  obtain ⟨a, cap, hv', h1, h2, h3, h4⟩ := (h w hw).at
  obtain ⟨ad, rfl, _⟩ := h4 i _ (List.getElem?_eq_getElem hi)
  simp [execOp, hf.eval hx, hT.run, ela_add _ _ _ ⟨_, _, _, hv'⟩]
/-- The place of an element of a slice. -/
theorem ReadR.indexE {T e : TypeId} {ag : Bool} {sz : Nat} [hT : SliI P T e] [he : TyI P e ag sz] {x ix : Operand} {s : Value} {k : IntKind} {i m : Nat} {xs : List Value} (hx : evF F x = some s) (hi : evF F ix = some (.int k (Int.ofNat i))) (h : HasS Γ s m xs) (hlt : i < m) :
    ReadR P n Γ F ⟨d, .indexAddr T x ix, ty, pos, af, gd⟩ (.pointer (some (ela s (i * sz)))) := fun ρ w hf hw => by
  obtain ⟨a, cap, rfl, h1, h2, h3, h4⟩ := (h w hw).at
  cases a with
  | none => have := h3 rfl; omega
  | some ad =>
    have h5 : ¬ m ≤ i := by omega
    simp [execOp, hf.eval hx, hf.eval hi, Instr.indexAt, run_underlying hT.und, asIntOf, Sem.run_bind, h5, he.run_sizeOf, ela]
theorem ReadR.indexE1 {T e : TypeId} {ag : Bool} [hT : SliI P T e] [he : TyI P e ag 1] {x ix : Operand} {s : Value} {k : IntKind} {i m : Nat} {xs : List Value} (hx : evF F x = some s) (hi : evF F ix = some (.int k (Int.ofNat i))) (h : HasS Γ s m xs) (hlt : i < m) :
    ReadR P n Γ F ⟨d, .indexAddr T x ix, ty, pos, af, gd⟩ (.pointer (some (ela s i))) := by
  have := ReadR.indexE (P := P) (n := n) (d := d) (ty := ty) (pos := pos) (af := af) (gd := gd) (T := T) hx hi h hlt
  rwa [Nat.mul_one] at this
/-- The place of an element of an array. -/
theorem ReadR.indexR {T e : TypeId} {ag : Bool} {m : Nat} [hT : ArrI P T m e] [he : TyI P e ag 1] {x ix : Operand} {g off : Nat} {k : IntKind} {i : Nat} (hx : evF F x = some (.pointer (some ⟨g, off, none⟩))) (hi : evF F ix = some (.int k (Int.ofNat i))) (hlt : i < m) :
    ReadR P n Γ F ⟨d, .indexAddr T x ix, ty, pos, af, gd⟩ (.pointer (some ⟨g, off + i, none⟩)) := fun ρ w hf hw => by
  have h5 : ¬ m ≤ i := by omega
  simp [execOp, hf.eval hx, hf.eval hi, Instr.indexAt, run_underlying hT.und, asIntOf, Instr.sureAddr, Sem.run_bind, h5, he.run_sizeOf, add_mk]

/-- An array behind a slice. -/
theorem ReadR.toArr {T e : TypeId} {m : Nat} [hT : ArrI P T m e] {x : Operand} {s : Value} {k : Nat} {xs : List Value} (hx : evF F x = some s) (h : HasS Γ s k xs) (hle : m ≤ k) (h0 : 0 < k) :
    ReadR P n Γ F ⟨d, .sliceToArrayPointer T x, ty, pos, af, gd⟩ (.pointer (some (ela s 0))) := fun ρ w hf hw => by
  obtain ⟨a, cap, rfl, h1, h2, h3, h4⟩ := (h w hw).at
  cases a with
  | none => have := h3 rfl; omega
  | some ad =>
    have : ¬ k < m := by omega
    simp [execOp, hf.eval hx, Instr.arrayAt, run_underlying hT.und, Sem.run_bind, this, ela, Addr.add]

theorem run_bound {P : Program} {k : IntKind} {i y : Nat} {c : BoundsCode} {w : World} (h : i ≤ y) : (Instr.sliceBound (.int k (Int.ofNat i)) y c).run P w = .ok i w := by
  have : ((i : Nat) : Int) ≤ ((y : Nat) : Int) := by omega
  simp [Instr.sliceBound, asIntOf, Sem.run_bind, this]

theorem ReadR.sliceLH {T e : TypeId} {ag : Bool} {sz : Nat} [hT : SliI P T e] [he : TyI P e ag sz] {x lo hi : Operand} {s : Value} {k1 k2 : IntKind} {i j m : Nat} {xs : List Value} (hx : evF F x = some s) (hl : evF F lo = some (.int k1 (Int.ofNat i))) (hh : evF F hi = some (.int k2 (Int.ofNat j))) (h : HasS Γ s m xs) (h1 : i ≤ j) (h2 : j ≤ m) :
    ReadR P n Γ F ⟨d, .slice T x (some lo) (some hi) none, ty, pos, af, gd⟩ (subv sz s i (j - i)) := fun ρ w hf hw => by
  obtain ⟨a, cap, rfl, g1, g2, g3, g4⟩ := (h w hw).at
  have b1 : ∀ c, (Instr.sliceBound (.int k2 (Int.ofNat j)) cap c).run P w = .ok j w := fun c => run_bound (by omega)
  have b2 : ∀ c, (Instr.sliceBound (.int k1 (Int.ofNat i)) j c).run P w = .ok i w := fun c => run_bound h1
  simp only [execOp, hf.eval hx, hf.eval hl, hf.eval hh, Option.map_some, Option.map_none, Instr.sliceAt, Instr.slice, run_underlying hT.und, Sem.run_bind, Result.andThen_ok, Instr.sliceBounds, Sem.run_pure, if_true, b1, b2, he.run_sizeOf, Option.isSome_none, Bool.false_eq_true, if_false]
  cases a with
  | none =>
    have := g3 rfl
    have hi0 : i = 0 := by omega
    have hj0 : j = 0 := by omega
    have hm0 : m = 0 := by omega
    subst hi0 hj0 hm0
    simp [subv]
  | some ad => simp only [subv]; split <;> simp
theorem ReadR.sliceL {T e : TypeId} {ag : Bool} {sz : Nat} [hT : SliI P T e] [he : TyI P e ag sz] {x lo : Operand} {s : Value} {k1 : IntKind} {i m : Nat} {xs : List Value} (hx : evF F x = some s) (hl : evF F lo = some (.int k1 (Int.ofNat i))) (h : HasS Γ s m xs) (h1 : i ≤ m) :
    ReadR P n Γ F ⟨d, .slice T x (some lo) none none, ty, pos, af, gd⟩ (subv sz s i (m - i)) := fun ρ w hf hw => by
  obtain ⟨a, cap, rfl, g1, g2, g3, g4⟩ := (h w hw).at
  have b2 : ∀ c, (Instr.sliceBound (.int k1 (Int.ofNat i)) m c).run P w = .ok i w := fun c => run_bound h1
  simp only [execOp, hf.eval hx, hf.eval hl, Option.map_some, Option.map_none, Instr.sliceAt, Instr.slice, run_underlying hT.und, Sem.run_bind, Result.andThen_ok, Instr.sliceBounds, Sem.run_pure, if_true, b2, he.run_sizeOf, Option.isSome_none, Bool.false_eq_true, if_false]
  cases a with
  | none =>
    have := g3 rfl
    have hi0 : i = 0 := by omega
    have hm : m = 0 := by omega
    subst hi0 hm
    simp [subv]
  | some ad => simp only [subv]; split <;> simp
theorem ReadR.sliceH {T e : TypeId} {ag : Bool} {sz : Nat} [hT : SliI P T e] [he : TyI P e ag sz] {x hi : Operand} {s : Value} {k2 : IntKind} {j m : Nat} {xs : List Value} (hx : evF F x = some s) (hh : evF F hi = some (.int k2 (Int.ofNat j))) (h : HasS Γ s m xs) (h2 : j ≤ m) :
    ReadR P n Γ F ⟨d, .slice T x none (some hi) none, ty, pos, af, gd⟩ (subv sz s 0 j) := fun ρ w hf hw => by
  obtain ⟨a, cap, rfl, g1, g2, g3, g4⟩ := (h w hw).at
  have b1 : ∀ c, (Instr.sliceBound (.int k2 (Int.ofNat j)) cap c).run P w = .ok j w := fun c => run_bound (by omega)
  simp only [execOp, hf.eval hx, hf.eval hh, Option.map_some, Option.map_none, Instr.sliceAt, Instr.slice, run_underlying hT.und, Sem.run_bind, Result.andThen_ok, Instr.sliceBounds, Sem.run_pure, if_true, b1, he.run_sizeOf, Option.isSome_none, Bool.false_eq_true, if_false]
  cases a with
  | none =>
    have := g3 rfl
    have hj0 : j = 0 := by omega
    have hm0 : m = 0 := by omega
    subst hj0 hm0
    simp [subv]
  | some ad => simp only [subv]; split <;> simp [Addr.add]

theorem ReadR.arrL {T e : TypeId} {ag : Bool} {m : Nat} [hT : ArrI P T m e] [he : TyI P e ag 1] {x lo : Operand} {g off : Nat} {k1 : IntKind} {i : Nat} (hx : evF F x = some (.pointer (some ⟨g, off, none⟩))) (hl : evF F lo = some (.int k1 (Int.ofNat i))) (h3 : i < m) :
    ReadR P n Γ F ⟨d, .slice T x (some lo) none none, ty, pos, af, gd⟩ (.slice (some ⟨g, off + i, none⟩) (m - i) (m - i)) := fun ρ w hf hw => by
  have b2 : ∀ c, (Instr.sliceBound (.int k1 (Int.ofNat i)) m c).run P w = .ok i w := fun c => run_bound (by omega)
  have hne : ¬ m = i := by omega
  simp only [execOp, hf.eval hx, hf.eval hl, Option.map_some, Option.map_none, Instr.sliceAt, Instr.sureAddr, run_underlying hT.und, Sem.run_bind, Result.andThen_ok, Instr.sliceBounds, Sem.run_pure, b2, he.run_sizeOf, Option.isSome_none, Bool.false_eq_true, if_false, hne, Nat.mul_one, add_mk]
theorem ReadR.arrH {T e : TypeId} {ag : Bool} {m : Nat} [hT : ArrI P T m e] [he : TyI P e ag 1] {x hi : Operand} {g off : Nat} {k2 : IntKind} {j : Nat} (hx : evF F x = some (.pointer (some ⟨g, off, none⟩))) (hh : evF F hi = some (.int k2 (Int.ofNat j))) (h2 : j ≤ m) :
    ReadR P n Γ F ⟨d, .slice T x none (some hi) none, ty, pos, af, gd⟩ (.slice (some ⟨g, off + 0, none⟩) j m) := fun ρ w hf hw => by
  have b1 : ∀ c, (Instr.sliceBound (.int k2 (Int.ofNat j)) m c).run P w = .ok j w := fun c => run_bound h2
  simp only [execOp, hf.eval hx, hf.eval hh, Option.map_some, Option.map_none, Instr.sliceAt, Instr.sureAddr, run_underlying hT.und, Sem.run_bind, Result.andThen_ok, Instr.sliceBounds, Sem.run_pure, b1, he.run_sizeOf, Option.isSome_none, Bool.false_eq_true, if_false, Nat.sub_zero, Nat.zero_mul]
  have e : (⟨g, off, none⟩ : Addr).add 0 = ⟨g, off + 0, none⟩ := add_mk g off 0
  split <;> rfl
theorem ReadR.arrAll {T e : TypeId} {ag : Bool} {m : Nat} [hT : ArrI P T m e] [he : TyI P e ag 1] {x : Operand} {g off : Nat} (hx : evF F x = some (.pointer (some ⟨g, off, none⟩))) :
    ReadR P n Γ F ⟨d, .slice T x none none none, ty, pos, af, gd⟩ (.slice (some ⟨g, off + 0, none⟩) m m) := fun ρ w hf hw => by
  simp [execOp, hf.eval hx, Instr.sliceAt, Instr.sureAddr, run_underlying hT.und, Instr.sliceBounds, he.run_sizeOf, add_mk]

/-! ### Numbers -/

def BinR (P : Program) (op : BinOp) (T : TypeId) (a b v : Value) : Prop := ∀ (X Y : Operand) (w : World), (do eqGuard op T X Y a b; binOp op T a b : Sem Value).run P w = .ok v w
theorem ReadR.bin {op : BinOp} {T T2 : TypeId} {x y : Operand} {a b v : Value} (hx : evF F x = some a) (hy : evF F y = some b) (h : BinR P op T a b v) : ReadR P n Γ F ⟨d, .binOp op T x y T2, ty, pos, af, gd⟩ v := fun ρ w hf hw => by
  have := h x y w
  rw [← hf.eval hx, ← hf.eval hy] at this
  simp only [execOp]
  rw [Sem.run_bind, this]
  rfl

variable {T : TypeId} {k : IntKind} {a b : Int}
theorem BinR.lss : BinR P .lss T (.int k a) (.int k b) (.bool (decide (a < b))) := fun X Y w => by simp [eqGuard, binOp, Op.intCmp]
theorem BinR.leq : BinR P .leq T (.int k a) (.int k b) (.bool (decide (a ≤ b))) := fun X Y w => by simp [eqGuard, binOp, Op.intCmp]
theorem BinR.gtr : BinR P .gtr T (.int k a) (.int k b) (.bool (decide (b < a))) := fun X Y w => by simp [eqGuard, binOp, Op.intCmp]
theorem BinR.geq : BinR P .geq T (.int k a) (.int k b) (.bool (decide (b ≤ a))) := fun X Y w => by simp [eqGuard, binOp, Op.intCmp]
theorem BinR.eql : BinR P .eql T (.int k a) (.int k b) (.bool (decide (a = b))) := fun X Y w => by
  simp [eqGuard, binOp, Op.intCmp]; rfl
theorem BinR.neq : BinR P .neq T (.int k a) (.int k b) (.bool (!decide (a = b))) := fun X Y w => by
  simp [eqGuard, binOp, Op.intCmp, bne]; rfl
theorem BinR.addW : BinR P .add T (.int k a) (.int k b) (.int k (k.wrap (a + b))) := fun X Y w => by simp [eqGuard, binOp, Op.intArith]
theorem BinR.subW : BinR P .sub T (.int k a) (.int k b) (.int k (k.wrap (a - b))) := fun X Y w => by simp [eqGuard, binOp, Op.intArith]
theorem BinR.mulW : BinR P .mul T (.int k a) (.int k b) (.int k (k.wrap (a * b))) := fun X Y w => by simp [eqGuard, binOp, Op.intArith]
theorem BinR.of {op : BinOp} {a b v v' : Value} (h : BinR P op T a b v) (e : v = v') : BinR P op T a b v' := e ▸ h
theorem BinR.addI (h1 : -9223372036854775808 ≤ a + b) (h2 : a + b ≤ 9223372036854775807) : BinR P .add T (.int .i64 a) (.int .i64 b) (.int .i64 (a + b)) := BinR.addW.of (by rw [IntKind.wrap_i64, show (a + b + 9223372036854775808) % 18446744073709551616 - 9223372036854775808 = a + b by omega])
theorem BinR.subI (h1 : -9223372036854775808 ≤ a - b) (h2 : a - b ≤ 9223372036854775807) : BinR P .sub T (.int .i64 a) (.int .i64 b) (.int .i64 (a - b)) := BinR.subW.of (by rw [IntKind.wrap_i64, show (a - b + 9223372036854775808) % 18446744073709551616 - 9223372036854775808 = a - b by omega])
theorem BinR.mulI (h1 : -9223372036854775808 ≤ a * b) (h2 : a * b ≤ 9223372036854775807) : BinR P .mul T (.int .i64 a) (.int .i64 b) (.int .i64 (a * b)) := BinR.mulW.of (by
  rw [IntKind.wrap_i64]; generalize a * b = c at *
  rw [show (c + 9223372036854775808) % 18446744073709551616 - 9223372036854775808 = c by omega])
theorem BinR.addU (h1 : 0 ≤ a + b) (h2 : a + b ≤ 18446744073709551615) : BinR P .add T (.int .u64 a) (.int .u64 b) (.int .u64 (a + b)) := BinR.addW.of (by rw [IntKind.wrap_u64, show (a + b) % 18446744073709551616 = a + b by omega])
theorem BinR.subU (h1 : 0 ≤ a - b) (h2 : a - b ≤ 18446744073709551615) : BinR P .sub T (.int .u64 a) (.int .u64 b) (.int .u64 (a - b)) := BinR.subW.of (by rw [IntKind.wrap_u64, show (a - b) % 18446744073709551616 = a - b by omega])

theorem BinR.neqB {a b : Bool} (hT : P.underlying T = some .bool) : BinR P .neq T (.bool a) (.bool b) (.bool (!(a == b))) := fun X Y w => by
  rw [Sem.run_bind, show (eqGuard .neq T X Y (.bool a) (.bool b)).run P w = .ok () w by simp [eqGuard], Result.andThen_ok, run_neq_bool w T a b hT]
theorem BinR.strE {a b : ByteArray} : BinR P .eql T (.string a) (.string b) (.bool (a.toList == b.toList)) := fun X Y w => by simp [eqGuard, binOp, Op.stringOp]
theorem ReadR.convW {T1 T2 : TypeId} {k1 k2 : IntKind} {x : Operand} {a : Int} [h2 : IntI P T2 k2] (h1 : (P.underlying T1).isSome = true) (hx : evF F x = some (.int k1 a)) : ReadR P n Γ F ⟨d, .convert T1 T2 x, ty, pos, af, gd⟩ (.int k2 (k2.wrap a)) := fun ρ w hf hw => by
  obtain ⟨d1, hd1⟩ := Option.isSome_iff_exists.1 h1
  simp [execOp, hf.eval hx, convert, run_underlying hd1, run_underlying h2.und, Conv.intToInt]
theorem ReadR.conv {T1 T2 : TypeId} {k1 k2 : IntKind} {x : Operand} {a : Int} [h2 : IntI P T2 k2] [h1 : IntI P T1 k1] (hx : evF F x = some (.int k1 a)) (hw : k2.wrap a = a) : ReadR P n Γ F ⟨d, .convert T1 T2 x, ty, pos, af, gd⟩ (.int k2 a) := by
  have := ReadR.convW (P := P) (n := n) (Γ := Γ) (F := F) (d := d) (ty := ty) (pos := pos) (af := af) (gd := gd) (T1 := T1) (T2 := T2) (by rw [h1.und]; rfl) hx
  rwa [hw] at this

end
end Go.Proofs.YtpilenbdimhegaaGreatDoor
/- Separation: the rules of operations that make or turn memory. -/
namespace Go.Proofs.YtpilenbdimhegaaGreatDoor
open Go.RowKit
set_option linter.unusedSimpArgs false
set_option linter.unusedVariables false

/-- It gives this value, and nothing turns. -/
def RVal (c : Value) : Value → List Asn → Prop := fun v Γ => v = c ∧ Γ = []
/-- It gives a pointer to a new block. -/
def RNew (T : TypeId) (cs : Ch) : Value → List Asn → Prop := fun v Γ => ∃ g, v = .pointer (some ⟨g, 0, none⟩) ∧ Γ = [bx g T cs]
/-- It gives a slice of one's own. -/
def RRow (e : TypeId) (sz m : Nat) (xs : List Value) : Value → List Asn → Prop := fun v Γ => v.oneCell' = true ∧ Γ = [rowN e sz v m xs]
abbrev ROb (l : List UInt8) : Value → List Asn → Prop := RRow 5 1 l.length (u8s l)
/-- It leaves these. -/
def RLeave (Γ0 : List Asn) : Value → List Asn → Prop := fun v Γ => Γ = Γ0

/-- What an operation does that takes Γo. -/
def OpT (P : Program) (n : Nat) (Γ : List Asn) (F : List (Nat × Value)) (o : Oper) (Γo : List Asn) (R : Value → List Asn → Prop) : Prop :=
  ∀ ρ w, Fr n F ρ → Holds Γ w → Γ.Pairwise Apart → DoesW P o ρ w fun v w' => ∃ Γ', R v Γ' ∧ Post (ownFp Γo) w Γ' w'

section
variable {P : Program} {n : Nat} {W : World} {S : Nat → Prop} {Γ : List Asn} {F : List (Nat × Value)} {Q : Exit → Act → World → Prop}

theorem ReadR.opT {o : Oper} {c : Value} (h : ReadR P n Γ F o c) : OpT P n Γ F o [] (RVal c) := fun ρ w hf hw _ => by
  unfold DoesW
  rw [h ρ w hf hw]
  exact ⟨[], ⟨rfl, rfl⟩, Post.nil (Mod.refl _ _)⟩

theorem Post.one {T : Nat → Prop} {w w' : World} {A : Asn} (h : Mod T w w') (ha : A.holds w') (hn : ∀ g, A.fp g → w.heap.size ≤ g ∨ T g) : Post T w [A] w' :=
  ⟨h, fun B hB => by rw [List.mem_singleton.1 hB]; exact ha, List.pairwise_singleton _ _, fun B hB => by rw [List.mem_singleton.1 hB]; exact hn⟩

theorem Mod.alloc (T : Nat → Prop) (w : World) (o : Obj) : Mod T w (w.alloc o) :=
  ⟨rfl, rfl, rfl, by simp, Nat.le_refl _, fun g hg _ => by
    show (w.heap.push o)[g]? = _
    rw [Array.getElem?_push_lt hg, Array.getElem?_eq_getElem hg]⟩
theorem alloc_new (w : World) (o : Obj) : (w.alloc o).heap[w.heap.size]? = some o := by
  show (w.heap.push o)[w.heap.size]? = _
  simp

theorem Post.bx {T : Nat → Prop} {w : World} {t : TypeId} {cs : Ch} (hk : FOk cs) : Post T w [bx w.heap.size t cs] (w.alloc (.cells (flat cs).toArray t)) :=
  .one (Mod.alloc _ _ _) ⟨alloc_new _ _, hk⟩ fun g hg => .inl (Nat.le_of_eq hg.symm)

variable {d : Option Tmp} {ty : TypeId} {pos : String} {af : Array Edge} {gd : Option (Nat × Bool)}

theorem OpT.alloc {T : TypeId} {cs : Ch} [hz : ZeroI P T cs] : OpT P n Γ F ⟨d, .alloc T, ty, pos, af, gd⟩ [] (RNew T cs) := fun ρ w hf hw _ => by
  obtain ⟨z, h1, h2⟩ := hz.run w
  have : (execOp ρ.eval ⟨d, .alloc T, ty, pos, af, gd⟩).run P w = .ok (.value (.pointer (some ⟨w.heap.size, 0, none⟩))) (w.alloc (.cells (flat cs).toArray T)) := by
    simp [execOp, Instr.alloc, Sem.run_bind, h1, newVar, newRow, newObj, h2, Sem.run]
  unfold DoesW
  rw [this]
  exact ⟨_, ⟨_, rfl, rfl⟩, Post.bx hz.ok⟩

theorem OpT.boxA {T : TypeId} {x : Operand} {cs : Ch} (hx : evF F x = some (ag cs)) (hk : FOk cs) : OpT P n Γ F ⟨d, .box T x, ty, pos, af, gd⟩ [] (RNew T cs) := fun ρ w hf hw _ => by
  have : (execOp ρ.eval ⟨d, .box T x, ty, pos, af, gd⟩).run P w = .ok (.value (.pointer (some ⟨w.heap.size, 0, none⟩))) (w.alloc (.cells (flat cs).toArray T)) := by
    simp [execOp, hf.eval hx, Instr.box, Sem.run_bind, newVar, newRow, newObj, ag, Value.cells, Sem.run]
  unfold DoesW
  rw [this]
  exact ⟨_, ⟨_, rfl, rfl⟩, Post.bx hk⟩
theorem cells_one {v : Value} (h : v.oneCell' = true) : v.cells = #[v] := by cases v <;> first | rfl | simp [Value.oneCell'] at h
theorem OpT.box1 {T : TypeId} {x : Operand} {v : Value} (hx : evF F x = some v) (h1 : v.oneCell' = true) : OpT P n Γ F ⟨d, .box T x, ty, pos, af, gd⟩ [] (RNew T [(1, [v])]) := fun ρ w hf hw _ => by
  have : (execOp ρ.eval ⟨d, .box T x, ty, pos, af, gd⟩).run P w = .ok (.value (.pointer (some ⟨w.heap.size, 0, none⟩))) (w.alloc (.cells (flat [(1, [v])]).toArray T)) := by
    simp [execOp, hf.eval hx, Instr.box, Sem.run_bind, newVar, newRow, newObj, cells_one h1, Sem.run, flat]
  unfold DoesW
  rw [this]
  exact ⟨_, ⟨_, rfl, rfl⟩, Post.bx (.one1 h1 .nil)⟩

/-! ### Stores -/

theorem Mod.setRow {T : Nat → Prop} {g : Nat} (hg : T g) (w : World) (c : Array Value) : Mod T w (w.setRow g c) :=
  ⟨rfl, rfl, rfl, by simp, Nat.le_refl _, fun k _ hk => setRow_other w g k c (fun e => hk (e ▸ hg))⟩

theorem upd_flat {new cs cs' : Ch} {off sz : Nat} (h : upd new cs off sz = some cs') (hk : chOk cs) (hn : FOk new) (ht : total new = sz) :
    (flat cs).take off ++ flat new ++ (flat cs).drop (off + sz) = flat cs' ∧ off + sz ≤ (flat cs).length ∧ (flat new).length = sz := by
  obtain ⟨pre, bs, es, rfl, rfl, h1, h2⟩ := upd_spec h
  have k1 := chOk_append.1 hk
  have k2 := chOk_append.1 k1.2
  have l1 := flat_length k1.1
  have l2 := flat_length k2.1
  have l3 := flat_length hn.len
  simp only [flat_append]
  refine ⟨?_, ?_, by omega⟩
  · rw [List.take_append_of_le_length (by omega), List.take_of_length_le (by omega), List.drop_append, List.drop_of_length_le (by omega), List.nil_append, List.drop_append, List.drop_of_length_le (by omega), show off + sz - (flat pre).length - (flat bs).length = 0 by omega]
    simp
  · simp only [List.length_append]; omega

theorem upd_fok {new cs cs' : Ch} {off sz : Nat} (h : upd new cs off sz = some cs') (hk : FOk cs) (hn : FOk new) : FOk cs' := by
  obtain ⟨pre, bs, es, rfl, rfl, h1, h2⟩ := upd_spec h
  have k1 := chOk_append.1 hk.len
  have k2 := chOk_append.1 k1.2
  refine ⟨chOk_append.2 ⟨k1.1, chOk_append.2 ⟨hn.len, k2.2⟩⟩, fun v hv => ?_⟩
  have ho := hk.one
  simp only [flat_append] at hv ho
  rcases List.mem_append.1 hv with hv | hv
  · exact ho v (List.mem_append_left _ hv)
  · rcases List.mem_append.1 hv with hv | hv
    · exact hn.one v hv
    · exact ho v (List.mem_append_right _ (List.mem_append_right _ hv))

theorem run_store_bx {T T' : TypeId} {ag : Bool} {sz g off : Nat} {cs cs' new : Ch} {v : Value} {w : World} [hT : TyI P T ag sz] (hb : (bx g T' cs).holds w) (hv : v.cells = (flat new).toArray) (hn : FOk new) (ht : total new = sz) (hu : upd new cs off sz = some cs') :
    (storeVar T ⟨g, off, none⟩ v).run P w = .ok () (w.setRow g (flat cs').toArray) ∧ (bx g T' cs').holds (w.setRow g (flat cs').toArray) := by
  obtain ⟨h1, h2, h3⟩ := upd_flat hu hb.2.len hn ht
  have hst := run_storeCells_at P g off T' (flat new) 0 (flat cs).toArray w hb.1 (by simp; omega) hn.one
  simp only [Nat.add_zero, List.toList_toArray, h3, h1] at hst
  refine ⟨?_, setRow_heap w g _ _ T' (0, 0) hb.1, upd_fok hu hb.2 hn⟩
  have hs : ¬ (flat new).length ≠ sz := by omega
  simp [storeVar, Sem.run_bind, hT.run_sizeOf, hv, h3, hst]

theorem OpT.store {T T' : TypeId} {ag : Bool} {sz g off : Nat} {cs cs' new : Ch} {a x : Operand} {v : Value} {Γf : List Asn} [hT : TyI P T ag sz] (ha : evF F a = some (.pointer (some ⟨g, off, none⟩))) (hx : evF F x = some v) (hp : Takes Γ [bx g T' cs] Γf) (hv : v.cells = (flat new).toArray) (hn : FOk new) (ht : total new = sz) (hu : upd new cs off sz = some cs') :
    OpT P n Γ F ⟨d, .store T a x, ty, pos, af, gd⟩ [bx g T' cs] (RLeave [bx g T' cs']) := fun ρ w hf hw _ => by
  have hb : (bx g T' cs).holds w := hw _ (hp.mem_iff.2 (List.mem_cons_self ..))
  obtain ⟨h1, h2⟩ := run_store_bx (P := P) (T := T) hb hv hn ht hu
  have : (execOp ρ.eval ⟨d, .store T a x, ty, pos, af, gd⟩).run P w = .ok .skip (w.setRow g (flat cs').toArray) := by
    simp [execOp, hf.eval ha, hf.eval hx, Instr.storeAt, Instr.sureAddr, Sem.run_bind, h1]
  unfold DoesW
  rw [this]
  have hg : ownFp [bx g T' cs] g := ⟨_, List.mem_singleton.2 rfl, rfl, rfl⟩
  exact ⟨_, rfl, .one (Mod.setRow hg _ _) h2 fun g' hg' => .inr (by rw [show g' = g from hg']; exact hg)⟩
theorem OpT.storeA {T T' : TypeId} {sz g off : Nat} {cs cs' new : Ch} {a x : Operand} {Γf : List Asn} [hT : TyI P T true sz] (ha : evF F a = some (.pointer (some ⟨g, off, none⟩))) (hx : evF F x = some (Go.Proofs.YtpilenbdimhegaaGreatDoor.ag new)) (hp : Takes Γ [bx g T' cs] Γf) (hn : FOk new) (ht : total new = sz) (hu : upd new cs off sz = some cs') :
    OpT P n Γ F ⟨d, .store T a x, ty, pos, af, gd⟩ [bx g T' cs] (RLeave [bx g T' cs']) := OpT.store ha hx hp rfl hn ht hu
theorem OpT.store1 {T T' : TypeId} {g off : Nat} {cs cs' : Ch} {a x : Operand} {v : Value} {Γf : List Asn} [hT : TyI P T false 1] (ha : evF F a = some (.pointer (some ⟨g, off, none⟩))) (hx : evF F x = some v) (hp : Takes Γ [bx g T' cs] Γf) (h1 : v.oneCell' = true) (hu : upd [(1, [v])] cs off 1 = some cs') :
    OpT P n Γ F ⟨d, .store T a x, ty, pos, af, gd⟩ [bx g T' cs] (RLeave [bx g T' cs']) := OpT.store (new := [(1, [v])]) ha hx hp (by rw [cells_one h1]; rfl) (.one1 h1 .nil) rfl hu

/-- Another chunk at a place. -/
def setAt (xs : List Value) : Ch → Nat → Option Ch
  | [], _ => none
  | c :: cs, off => match Nat.beq off 0 with
    | true => some ((c.1, xs) :: cs)
    | false => match Nat.ble c.1 off with
      | true => (setAt xs cs (off - c.1)).map (c :: ·)
      | false => none
theorem setAt_spec {xs : List Value} : ∀ {cs cs' : Ch} {off : Nat}, setAt xs cs off = some cs' → ∃ pre c es, cs = pre ++ (c :: es) ∧ cs' = pre ++ ((c.1, xs) :: es) ∧ total pre = off
  | [], _, _, h => by cases h
  | c :: cs, cs', off, h => by
    unfold setAt at h
    split at h
    · rename_i hb; cases h; exact ⟨[], c, cs, rfl, rfl, (beq_true hb).symm⟩
    · split at h
      · rename_i hle
        rw [Option.map_eq_some_iff] at h
        obtain ⟨ds, h1, rfl⟩ := h
        obtain ⟨pre, c', es, rfl, rfl, ht⟩ := setAt_spec h1
        refine ⟨c :: pre, c', es, rfl, rfl, ?_⟩
        have := Nat.le_of_ble_eq_true hle
        simp only [total, ht]; omega
      · cases h

/-- A store into an array of a block. -/
theorem OpT.storeR {T T' : TypeId} {g off i m : Nat} {cs cs' : Ch} {xs : List Value} {a x : Operand} {v : Value} {Γf : List Asn} [hT : TyI P T false 1] (ha : evF F a = some (.pointer (some ⟨g, off + i, none⟩))) (hx : evF F x = some v) (hp : Takes Γ [bx g T' cs] Γf) (h1 : v.oneCell' = true) (hc : chAt cs off = some (m, xs)) (hi : i < xs.length) (hu : setAt (xs.set i v) cs off = some cs') :
    OpT P n Γ F ⟨d, .store T a x, ty, pos, af, gd⟩ [bx g T' cs] (RLeave [bx g T' cs']) := fun ρ w hf hw _ => by
  have hb : (bx g T' cs).holds w := hw _ (hp.mem_iff.2 (List.mem_cons_self ..))
  obtain ⟨pre, es, he, ht⟩ := chAt_spec hc
  obtain ⟨pre2, c2, es2, he2, rfl, ht2⟩ := setAt_spec hu
  have hpre : pre = pre2 ∧ (m, xs) = c2 ∧ es = es2 := by
    have key : ∀ (p q : Ch) (a b : Nat × List Value) (r s : Ch), total p = total q → chOk (p ++ a :: r) → 0 < a.1 → 0 < b.1 → p ++ a :: r = q ++ b :: s → p = q ∧ a = b ∧ r = s := by
      intro p
      induction p with
      | nil =>
        intro q a b r s h0 _ ha _ h
        cases q with
        | nil => simpa using h
        | cons c q => simp only [List.nil_append, List.cons_append, List.cons.injEq] at h; simp only [total] at h0; obtain ⟨rfl, _⟩ := h; omega
      | cons c p ih =>
        intro q a b r s h0 hk ha hb h
        cases q with
        | nil => simp only [List.nil_append, List.cons_append, List.cons.injEq] at h; simp only [total] at h0; obtain ⟨rfl, _⟩ := h; omega
        | cons c' q =>
          simp only [List.cons_append, List.cons.injEq] at h
          obtain ⟨rfl, h⟩ := h
          simp only [total] at h0
          obtain ⟨rfl, rfl, rfl⟩ := ih q a b r s (by omega) (fun c hc => hk c (List.mem_cons_of_mem _ hc)) ha hb h
          exact ⟨rfl, rfl, rfl⟩
    have hk := hb.2.len
    have hm : xs.length = m := by rw [he] at hk; exact hk _ (List.mem_append_right _ (List.mem_cons_self ..))
    have hm2 : c2.2.length = c2.1 := by rw [he2] at hk; exact hk _ (List.mem_append_right _ (List.mem_cons_self ..))
    by_cases hc0 : 0 < c2.1
    · exact key _ _ _ _ _ _ (by omega) (he ▸ hk) (by show 0 < m; omega) hc0 (he ▸ he2)
    · exfalso
      have : ∀ (p q : Ch) (a b : Nat × List Value) (r s : Ch), total p = total q → 0 < a.1 → b.1 = 0 → setAt (xs.set i v) (p ++ a :: r) (total p) = some (q ++ (b.1, xs.set i v) :: s) → p ++ a :: r = q ++ b :: s → chAt (p ++ a :: r) (total p) = some a → False := by
        intro p
        induction p with
        | nil =>
          intro q a b r s h0 ha hb hs h _
          simp only [total, List.nil_append, setAt, Nat.beq_refl] at hs
          cases q with
          | nil => simp only [List.nil_append, List.cons.injEq] at h; obtain ⟨rfl, _⟩ := h; omega
          | cons c q => simp only [List.nil_append, List.cons_append, List.cons.injEq] at h; simp only [total] at h0; obtain ⟨rfl, _⟩ := h; omega
        | cons c p ih =>
          intro q a b r s h0 ha hb hs h hca
          by_cases hz : c.1 + total p = 0
          · simp only [total, hz, List.cons_append, chAt, Nat.beq_refl] at hca
            cases hca; omega
          · have hbq : Nat.beq (c.1 + total p) 0 = false := by rw [← Bool.not_eq_true]; intro hh; exact hz (beq_true hh)
            have hle : Nat.ble c.1 (c.1 + total p) = true := by simp
            simp only [total, List.cons_append, setAt, chAt, hbq, hle] at hs hca
            rw [show c.1 + total p - c.1 = total p by omega] at hs hca
            rw [Option.map_eq_some_iff] at hs
            obtain ⟨ds, hs, hd⟩ := hs
            cases q with
            | nil =>
              simp only [List.nil_append, List.cons_append, List.cons.injEq] at h
              obtain ⟨rfl, _⟩ := h
              simp only [total] at h0
              omega
            | cons c' q =>
              simp only [List.cons_append, List.cons.injEq] at h hd
              obtain ⟨rfl, h⟩ := h
              simp only [total] at h0
              exact ih q a b r s (by omega) ha hb (by rw [hs, hd.2]) h hca
      refine this pre pre2 (m, xs) c2 es es2 (by omega) (by show 0 < m; omega) (by omega) ?_ (he ▸ he2) ?_
      · rw [← he, ht]; exact hu
      · rw [← he, ht]; exact hc
  obtain ⟨rfl, rfl, rfl⟩ := hpre
  subst he
  have hk := hb.2.len
  have hl := flat_length (chOk_append.1 hk).1
  have hfl : flat (pre ++ (m, xs) :: es) = flat pre ++ (xs ++ flat es) := by rw [flat_append, flat_eq ((m, xs) :: es), List.map_cons, List.flatten_cons, ← flat_eq]
  have hfl' : flat (pre ++ (m, xs.set i v) :: es) = (flat (pre ++ (m, xs) :: es)).set (off + i) v := by
    rw [hfl, flat_append, flat_eq ((m, xs.set i v) :: es), List.map_cons, List.flatten_cons, ← flat_eq, List.set_append_right _ _ (by omega), List.set_append_left _ _ (by omega), show off + i - (flat pre).length = i by omega]
  have hlen : off + i < (flat (pre ++ (m, xs) :: es)).length := by rw [hfl]; simp only [List.length_append]; omega
  have hst := run_storeCells_at P g (off + i) T' [v] 0 (flat (pre ++ (m, xs) :: es)).toArray w hb.1 (by simp; omega) (fun u hu => by rw [List.mem_singleton.1 hu]; exact h1)
  simp only [Nat.add_zero, List.toList_toArray, List.length_singleton] at hst
  have e := List.set_eq_take_append_cons_drop (l := flat (pre ++ (m, xs) :: es)) (i := off + i) (a := v)
  rw [if_pos hlen] at e
  rw [List.append_assoc, List.singleton_append, ← e, ← hfl'] at hst
  have : (execOp ρ.eval ⟨d, .store T a x, ty, pos, af, gd⟩).run P w = .ok .skip (w.setRow g (flat (pre ++ (m, xs.set i v) :: es)).toArray) := by
    simp [execOp, hf.eval ha, hf.eval hx, Instr.storeAt, Instr.sureAddr, Sem.run_bind, storeVar, hT.run_sizeOf, cells_one h1, hst]
  unfold DoesW
  rw [this]
  have hg : ownFp [bx g T' (pre ++ (m, xs) :: es)] g := ⟨_, List.mem_singleton.2 rfl, rfl, rfl⟩
  refine ⟨_, rfl, .one (Mod.setRow hg _ _) ⟨setRow_heap w g _ _ T' (0, 0) hb.1, ?_, ?_⟩ fun g' hg' => .inr (by rw [show g' = g from hg']; exact hg)⟩
  · refine chOk_append.2 ⟨(chOk_append.1 hk).1, fun c hc => ?_⟩
    rcases List.mem_cons.1 hc with rfl | hc
    · have := hk _ (List.mem_append_right _ (List.mem_cons_self ..)); simpa using this
    · exact hk _ (List.mem_append_right _ (List.mem_cons_of_mem _ hc))
  · intro u hu
    rw [hfl'] at hu
    rcases List.mem_or_eq_of_mem_set hu with hu | rfl
    · exact hb.2.one u hu
    · exact h1

/-- A store into a row of one's own. -/
theorem OpT.storeE {T e : TypeId} {i m : Nat} {xs : List Value} {a x : Operand} {s v : Value} {Γf : List Asn} [hT : TyI P T false 1] (ha : evF F a = some (.pointer (some (ela s i)))) (hx : evF F x = some v) (hp : Takes Γ [rowN e 1 s m xs] Γf) (h1 : v.oneCell' = true) (hi : i < xs.length) :
    OpT P n Γ F ⟨d, .store T a x, ty, pos, af, gd⟩ [rowN e 1 s m xs] (RLeave [rowN e 1 s m (xs.set i v)]) := fun ρ w hf hw _ => by
  have hb : (rowN e 1 s m xs).holds w := hw _ (hp.mem_iff.2 (List.mem_cons_self ..))
  obtain ⟨h2, h3⟩ := hb
  have hm : m ≠ 0 := by rintro rfl; simp at h2; subst h2; simp at hi
  rcases h3 with ⟨_, h0⟩ | ⟨g, cap, cur, rfl, hB, hg, hnc, hcm, hcs, ht⟩
  · exact absurd h0 hm
  have hlt : i < cur.size := by rw [hcs]; have : xs.length = m * 1 := h2; omega
  have hst := run_storeCells_at P g i e [v] 0 cur w hg (by simp; omega) (fun u hu => by rw [List.mem_singleton.1 hu]; exact h1)
  simp only [Nat.add_zero, List.length_singleton] at hst
  have e1 := List.set_eq_take_append_cons_drop (l := cur.toList) (i := i) (a := v)
  rw [if_pos (by simpa using hlt)] at e1
  rw [List.append_assoc, List.singleton_append, ← e1] at hst
  have : (execOp ρ.eval ⟨d, .store T a x, ty, pos, af, gd⟩).run P w = .ok .skip (w.setRow g (cur.toList.set i v).toArray) := by
    simp [execOp, hf.eval ha, hf.eval hx, Instr.storeAt, Instr.sureAddr, Sem.run_bind, storeVar, hT.run_sizeOf, cells_one h1, ela, add_mk, hst]
  unfold DoesW
  rw [this]
  have hg' : ownFp [rowN e 1 (.slice (some ⟨g, 0, none⟩) m cap) m xs] g := ⟨_, List.mem_singleton.2 rfl, rfl, rfl⟩
  refine ⟨_, rfl, .one (Mod.setRow hg' _ _) ⟨by simpa using h2, .inr ⟨g, cap, _, rfl, hB, setRow_heap w g _ _ e (0, 0) hg, hnc, hcm, by simpa using hcs, ?_⟩⟩ fun k hk => .inr (by cases hk; exact hg')⟩
  rw [← ht]
  simp [List.take_set]
theorem OpT.storeEB {T : TypeId} {i : Nat} {l : List UInt8} {a x : Operand} {s : Value} {c : Int} {b : UInt8} {Γf : List Asn} [hT : TyI P T false 1] (ha : evF F a = some (.pointer (some (ela s i)))) (hx : evF F x = some (.int .u8 c)) (hp : Takes Γ [ob s l] Γf) (hi : i < l.length) (hc : c = ((b.toNat : Nat) : Int)) :
    OpT P n Γ F ⟨d, .store T a x, ty, pos, af, gd⟩ [ob s l] (RLeave [ob s (l.set i b)]) := by
  subst hc
  have := OpT.storeE (P := P) (n := n) (d := d) (ty := ty) (pos := pos) (af := af) (gd := gd) (T := T) ha hx hp rfl (by rw [u8s_length]; exact hi)
  rw [u8s_set] at this
  unfold ob
  rw [List.length_set]
  exact this

/-! ### Rows that are made -/

/-- Values of single cells, as the state tells. -/
def OneL (Γ : List Asn) : List Value → Prop
  | [] => True
  | v :: vs => (∀ w, Holds Γ w → v.oneCell' = true) ∧ OneL Γ vs
theorem OneL.nil : OneL Γ [] := trivial
theorem OneL.lit {v : Value} {vs : List Value} (h : v.oneCell' = true) (k : OneL Γ vs) : OneL Γ (v :: vs) := ⟨fun _ _ => h, k⟩
theorem OneL.has {v : Value} {m : Nat} {xs vs : List Value} (h : HasS Γ v m xs) (k : OneL Γ vs) : OneL Γ (v :: vs) := ⟨h.one, k⟩
theorem OneL.all : ∀ {vs : List Value}, OneL Γ vs → ∀ {w : World}, Holds Γ w → ∀ v, v ∈ vs → v.oneCell' = true
  | u :: vs, h, w, hw, v, hv => by
    rcases List.mem_cons.1 hv with rfl | hv
    · exact h.1 w hw
    · exact h.2.all hw v hv
theorem OneL.lits : ∀ {vs : List Value}, (∀ v, v ∈ vs → v.oneCell' = true) → OneL Γ vs
  | [], _ => trivial
  | v :: vs, h => ⟨fun _ _ => h v (List.mem_cons_self ..), OneL.lits fun u hu => h u (List.mem_cons_of_mem _ hu)⟩

def evPs (F : List (Nat × Value)) : Nat → List (Nat × Operand) → List Value → Prop
  | _, [], [] => True
  | i, (j, x) :: ps, v :: vs => Nat.beq i j = true ∧ evF F x = some v ∧ evPs F (i + 1) ps vs
  | _, _, _ => False

theorem evPs.nil {F : List (Nat × Value)} {i : Nat} : evPs F i [] [] := trivial
theorem evPs.cons {F : List (Nat × Value)} {i j : Nat} {x : Operand} {ps : List (Nat × Operand)} {v : Value} {vs : List Value} (h1 : Nat.beq i j = true) (h2 : evF F x = some v) (k : evPs F (i + 1) ps vs) : evPs F i ((j, x) :: ps) (v :: vs) := ⟨h1, h2, k⟩
theorem fill_row {a : Act} (hf : Fr n F a) : ∀ (ps : List (Nat × Operand)) (vs : List Value) (i : Nat) (pre : List Value) (rest : List Value), evPs F i ps vs → (∀ v, v ∈ vs → v.oneCell' = true) → pre.length = i → rest.length = vs.length →
    Instr.fill (fun i => some (i, 1)) (pre ++ rest).toArray (ps.map fun q => (q.1, a.eval q.2)) = some (pre ++ vs).toArray
  | [], [], i, pre, rest, _, _, _, hr => by
    have : rest = [] := List.length_eq_zero_iff.1 hr
    subst this
    simp [Instr.fill]
  | (j, x) :: ps, v :: vs, i, pre, rest, h, hone, hp, hr => by
    obtain ⟨h1, h2, h4⟩ := h
    have hj := beq_true h1
    subst hj
    cases rest with
    | nil => simp at hr
    | cons r rest =>
      have hc := cells_one (hone v (List.mem_cons_self ..))
      simp only [List.map_cons, hf.eval h2, Instr.fill, hc]
      have : ¬ ((#[v] : Array Value).size ≠ 1 || decide (i + (#[v] : Array Value).size > (pre ++ r :: rest).toArray.size)) = true := by simp; omega
      rw [if_neg this]
      have e : ((#[v] : Array Value).zipIdx.foldl (fun cs (c, j) => cs.setIfInBounds (i + j) c) (pre ++ r :: rest).toArray) = ((pre ++ [v]) ++ rest).toArray := by
        simp [← hp, List.set_append_right]
      rw [e, fill_row hf ps vs (i + 1) (pre ++ [v]) rest h4 (fun u hu => hone u (List.mem_cons_of_mem _ hu)) (by simp [hp]) (by simpa using hr)]
      simp
  | [], _ :: _, _, _, _, h, _, _, _ => h.elim
  | _ :: _, [], _, _, _, h, _, _, _ => h.elim

class EltI (P : Program) (e : TypeId) (z : outParam Value) (bytes : outParam Nat) : Prop where
  info : (P.info? e).map (fun i => (i.zero, i.size, i.bytes)) = some (some z, 1, bytes)
  one : z.cells.size = 1

theorem OpT.buildSlice {T e : TypeId} {z : Value} {bytes : Nat} [hT : SliI P T e] [he : EltI P e z bytes] {ps : List (Nat × Operand)} {vs : List Value} {m : Nat} (h : evPs F 0 ps vs) (h1 : OneL Γ vs) (hm : vs.length = m) (hsm : Nat.ble m 16777216 = true) :
    OpT P n Γ F ⟨d, .buildSlice T m ps.toArray, ty, pos, af, gd⟩ [] (RRow e 1 m vs) := fun ρ w hf hw _ => by
  obtain ⟨i0, hi, hz0, hz1, hz2⟩ := info_parts he.info
  have hsm' : m ≤ 16777216 := by simpa using hsm
  have hsz : (sizeOf e).run P w = .ok 1 w := by simp [sizeOf, typeInfo, hi, hz1]
  have hz : (zeroValue e).run P w = .ok z w := by simp [zeroValue, typeInfo, hi, hz0]
  have hrun : (Instr.buildSlice T m (ps.toArray.map fun (i, x) => (i, ρ.eval x))).run P w = .ok (.slice (some ⟨w.heap.size, 0, none⟩) m m) (w.alloc (.cells vs.toArray e)) := by
    have hfill : ∀ c : Array Value, c.size = m → Instr.fill (fun i => some (i, 1)) c (ps.map fun x => (x.1, ρ.eval x.2)) = some vs.toArray := by
      intro c hc
      have := fill_row hf ps vs 0 [] c.toList h (h1.all hw) rfl (by simp [hc, hm])
      simpa using this
    unfold Instr.buildSlice
    simp only [Sem.run_bind, run_underlying hT.und, Result.andThen_ok, hsz, Nat.mul_one, Sem.run_ite]
    rw [if_neg (by omega)]
    have hlist : (ps.toArray.map fun (i, x) => (i, ρ.eval x)).toList = ps.map fun x => (x.1, ρ.eval x.2) := by simp
    by_cases h0 : m = 0
    · subst h0
      simp only [if_true, Sem.run_pure, Result.andThen_ok, hlist]
      rw [hfill _ (by simp)]
      simp [newRow, newObj, Sem.run]
    · simp only [h0, if_false, Sem.run_bind, hz, Result.andThen_ok, Sem.run_pure, hlist]
      rw [hfill _ (by simp)]
      simp [newRow, newObj, Sem.run]
  have : (execOp ρ.eval ⟨d, .buildSlice T m ps.toArray, ty, pos, af, gd⟩).run P w = .ok (.value (.slice (some ⟨w.heap.size, 0, none⟩) m m)) (w.alloc (.cells vs.toArray e)) := by
    simp only [execOp, Sem.run_bind, hrun, Result.andThen_ok, Sem.run_pure]
  unfold DoesW
  rw [this]
  refine ⟨_, ⟨rfl, rfl⟩, .one (Mod.alloc _ _ _) ⟨by simp [hm], .inr ⟨w.heap.size, m, vs.toArray, rfl, Nat.zero_le _, alloc_new _ _, Nat.le_refl _, by unfold maxLen; omega, by simp [hm], ?_⟩⟩ fun g hg => .inl ?_⟩
  · simp [List.take_of_length_le, hm]
  · cases hg; exact Nat.le_refl _

/-! ### append -/

theorem OpT.append {T e : TypeId} {z : Value} {bytes : Nat} [hT : SliI P T e] [he : EltI P e z bytes] {s x : Operand} {v v2 : Value} {m m2 : Nat} {xs ys : List Value} {Γf : List Asn} (hs : evF F s = some v) (hx : evF F x = some v2) (hp : Takes Γ [rowN e 1 v m xs] Γf) (h2 : HasS Γ v2 m2 ys) (hm2 : ys.length = m2) (h1 : ∀ u, u ∈ ys → u.oneCell' = true) (h63 : m + m2 ≤ 1099511627776) (hby : bytes ≤ 128) :
    OpT P n Γ F ⟨d, .call { callee := .builtin .append, args := #[s, x], argTypes := #[T, T] }, ty, pos, af, gd⟩ [rowN e 1 v m xs] (RRow e 1 (m + m2) (xs ++ ys)) := fun ρ w hf hw _ => by
  have hb : (rowN e 1 v m xs).holds w := hw _ (hp.mem_iff.2 (List.mem_cons_self ..))
  obtain ⟨i0, hi, hz0, hz1, hz2⟩ := info_parts he.info
  obtain ⟨a, cap, hv2, g1, g2, g3, g4⟩ := (h2 w hw).at
  have key : ∃ v' w', (Builtin.append_ #[T, T] ty #[v, v2]).run P w = .ok v' w' ∧ w'.ownsRow 0 e 1 v' (m + m2) (xs ++ ys) ∧ w.grownBy w' v.ownBlock ∧ (v'.ownBlock = v.ownBlock ∨ ∀ g, v'.ownBlock = some g → w.heap.size ≤ g) := by
    cases a with
    | none =>
      have hc0 := g3 rfl
      have hm0 : m2 = 0 := by omega
      subst hm0 hc0 hv2
      have hy : ys = [] := List.length_eq_zero_iff.1 hm2
      subst hy
      have := run_append_owned_none (P := P) (w := w) 0 T ty e i0 1 hT.und hi v m xs hb
      exact ⟨v, w, this, by have h := hb; unfold rowN at h; simpa using h, ⟨rfl, rfl, rfl, Nat.le_refl _, fun _ _ _ => rfl⟩, .inl rfl⟩
    | some q =>
      subst hv2
      have hq : ∀ j u, ys[j]? = some u → w.cell? (q.add j) = some u := fun j u hj => by
        obtain ⟨ad, h, hc⟩ := g4 j u hj
        cases h; exact hc
      have hbig : (m + m2) * bytes ≤ 140737488355328 := by
        have : (m + m2) * bytes ≤ 1099511627776 * 128 := Nat.mul_le_mul h63 hby
        omega
      by_cases hm0 : m2 = 0
      · subst hm0
        have hy : ys = [] := List.length_eq_zero_iff.1 hm2
        subst hy
        rcases hb.2 with ⟨hv, h0⟩ | ⟨g, cap', cur, hv, hB, hg, hnc, hcm, hcs, ht⟩
        · obtain ⟨v', w', hrun, h3, h4, h5⟩ := run_append_own (P := P) w 0 T ty e i0 z 1 bytes hT.und hi hz0 hz1 hz2 he.one (by decide) v m xs hb q 0 cap [] rfl hq (by simp) (by unfold maxLen; omega) hbig (Nat.zero_le _)
          exact ⟨v', w', hrun, h3, h4, .inl (by rw [h5.2 ⟨hv, rfl⟩, hv])⟩
        · subst hv
          have hl : xs.length = m * 1 := hb.1
          have hfit : m * i0.size + ([] : List Value).length ≤ cur.size := by rw [hz1, hcs]; simp; omega
          have hrun := run_append_room (P := P) w T ty e i0 hT.und hi g m cap' cur hg q 0 cap [] (by simp) hq (by simp) hnc hfit
          refine ⟨_, _, hrun, ⟨by simp at hl ⊢; omega, .inr ⟨g, cap', _, rfl, Nat.zero_le _, setRow_heap w g cur _ e _ hg, hnc, hcm, ?_, ?_⟩⟩, ⟨rfl, rfl, rfl, by simp, fun k _ hk => setRow_other w g k _ (fun e => hk (by simp [Value.ownBlock, e]))⟩, .inl rfl⟩
          · simp only [List.size_toArray, List.length_append, List.length_take, List.length_drop, Array.length_toList, List.length_nil, hz1]
            omega
          · rw [hz1, ht]
            have : (m + 0) * 1 = (xs ++ []).length := by simp at hl ⊢; omega
            rw [this]
            exact List.take_left
      · obtain ⟨g, cap', w', hrun, h3, h4, h5, _⟩ := run_append_lies (P := P) w T ty 0 e i0 z 1 bytes hT.und hi hz0 hz1 hz2 he.one (by decide) v m xs hb q m2 cap ys (by omega) hq h1 (by omega) (by unfold maxLen; omega) hbig (Nat.zero_le _) w.heap.size rfl
        refine ⟨_, w', hrun, h3, h4, ?_⟩
        rcases h5 with h5 | h5
        · exact .inl h5.symm
        · exact .inr fun g' hg' => by cases hg'; exact Nat.le_of_eq h5.symm
  obtain ⟨v', w', hrun, h3, h4, h5⟩ := key
  have : (execOp ρ.eval ⟨d, .call { callee := .builtin .append, args := #[s, x], argTypes := #[T, T] }, ty, pos, af, gd⟩).run P w = .ok (.value v') w' := by
    simp only [execOp, resolve, invoke, builtin, Sem.run_bind, Sem.run_pure, Result.andThen_ok, List.map_toArray, List.map_cons, List.map_nil, hf.eval hs, hf.eval hx, hrun]
  unfold DoesW
  rw [this]
  have hone : v'.oneCell' = true := by
    rcases h3.2 with ⟨rfl, _⟩ | ⟨g, c, cu, rfl, _⟩ <;> rfl
  refine ⟨_, ⟨hone, rfl⟩, .one ⟨h4.os, h4.tape, h4.output, h4.size, run_drawn _ this, fun g hg hn => h4.block g hg fun hh => hn ⟨_, List.mem_singleton.2 rfl, rfl, hh.symm⟩⟩ h3 fun g hg => ?_⟩
  rcases h5 with h5 | h5
  · exact .inr ⟨_, List.mem_singleton.2 rfl, rfl, h5.symm.trans hg⟩
  · exact .inl (h5 g hg)

/-! ### Structs that are built -/

theorem fold_fill (cells : Array Value) (off : Nat) : ∀ (vs : List Value) (i : Nat), off + i + vs.length ≤ cells.size →
    ((vs.zipIdx i).foldl (fun cs (c, j) => cs.setIfInBounds (off + j) c) cells).toList = cells.toList.take (off + i) ++ vs ++ cells.toList.drop (off + i + vs.length)
  | [], i, h => by simp
  | v :: vs, i, h => by
    simp only [List.length_cons] at h
    rw [List.zipIdx_cons, List.foldl_cons]
    have := fold_fill (cells.setIfInBounds (off + i) v) off vs (i + 1) (by simp; omega)
    rw [this]
    have hl : off + i < cells.toList.length := by simp; omega
    apply List.ext_getElem?
    intro j
    simp only [Array.toList_setIfInBounds, List.length_cons]
    simp only [List.getElem?_append, List.length_append, List.length_take, List.length_set, Array.length_toList, List.getElem?_take, List.getElem?_drop, List.getElem?_set, List.length_cons, List.getElem?_cons]
    by_cases h1 : j < off + i
    · rw [if_pos (by omega), if_pos (by omega), if_pos (by omega), if_neg (by omega), if_pos (by omega), if_pos (by omega), if_pos (by omega)]
    · by_cases h2 : j = off + i
      · subst h2
        rw [if_pos (by omega), if_pos (by omega), if_pos (by omega), if_pos rfl, if_pos (by simpa using hl), if_pos (by omega), if_neg (by omega)]
        simp [show off + i - min (off + i) cells.size = 0 by omega]
      · by_cases h3 : j < off + i + 1 + vs.length
        · rw [if_pos (by omega), if_neg (by omega), if_pos (by omega), if_neg (by omega), if_neg (by omega)]
          congr 1
          omega
        · rw [if_neg (by omega), if_neg (by omega), if_neg (by omega)]
          congr 1
          omega

/-- The chunks of a struct that is built of parts. -/
def BuildP (places : List (Nat × Nat)) (F : List (Nat × Value)) : List (Nat × Operand) → Ch → Ch → Prop
  | [], cs, cs' => cs = cs'
  | (i, x) :: ps, cs, cs' => ∃ (off sz : Nat) (new cs1 : Ch) (v : Value), places[i]? = some (off, sz) ∧ evF F x = some v ∧ v.cells = (flat new).toArray ∧ FOk new ∧ total new = sz ∧ upd new cs off sz = some cs1 ∧ BuildP places F ps cs1 cs'
theorem BuildP.nil {places : List (Nat × Nat)} {cs : Ch} : BuildP places F [] cs cs := rfl
/-- A part's cells. -/
def PartV (v : Value) (new : Ch) : Prop := v.cells = (flat new).toArray ∧ FOk new
theorem PartV.agg {new : Ch} (hn : FOk new) : PartV (ag new) new := ⟨rfl, hn⟩
theorem PartV.one {v : Value} (h : v.oneCell' = true) : PartV v [(1, [v])] := ⟨by rw [cells_one h]; rfl, .one1 h .nil⟩
theorem BuildP.cons {places : List (Nat × Nat)} {i off sz : Nat} {x : Operand} {ps : List (Nat × Operand)} {v : Value} {new cs cs1 cs' : Ch} (h1 : places[i]? = some (off, sz)) (hx : evF F x = some v) (hv : PartV v new) (ht : total new = sz) (hu : upd new cs off sz = some cs1) (k : BuildP places F ps cs1 cs') : BuildP places F ((i, x) :: ps) cs cs' :=
  ⟨off, sz, new, cs1, v, h1, hx, hv.1, hv.2, ht, hu, k⟩

theorem fill_build {places : List (Nat × Nat)} {a : Act} (hf : Fr n F a) : ∀ (ps : List (Nat × Operand)) (cs cs' : Ch), BuildP places F ps cs cs' → FOk cs →
    Instr.fill (places.toArray[·]?) (flat cs).toArray (ps.map fun q => (q.1, a.eval q.2)) = some (flat cs').toArray
  | [], cs, cs', h, _ => by cases h; simp [Instr.fill]
  | (i, x) :: ps, cs, cs', h, hk => by
    obtain ⟨off, sz, new, cs1, v, h1, h2, h3, h4, h5, h6, h7⟩ := h
    obtain ⟨u1, u2, u3⟩ := upd_flat h6 hk.len h4 h5
    have hp : places.toArray[i]? = some (off, sz) := by simpa using h1
    have ih := fill_build hf ps cs1 cs' h7 (upd_fok h6 hk h4)
    simp only [List.map_cons, hf.eval h2, Instr.fill, hp, h3]
    have hno : ¬ ((flat new).toArray.size ≠ sz || decide (off + (flat new).toArray.size > (flat cs).toArray.size)) = true := by simp; omega
    rw [if_neg hno]
    have := fold_fill (flat cs).toArray off (flat new) 0 (by simp; omega)
    simp only [Nat.add_zero, u3, List.toList_toArray, u1] at this
    have e : ((flat new).toArray.zipIdx.foldl (fun cs (c, j) => cs.setIfInBounds (off + j) c) (flat cs).toArray) = (flat cs1).toArray := by
      rw [← this]
      simp
    rw [e]
    exact ih

theorem ReadR.build {T : TypeId} {places : List (Nat × Nat)} {ps : List (Nat × Operand)} {cs cs' : Ch} [hT : StrI P T places] [hz : ZeroI P T cs] (h : BuildP places F ps cs cs') :
    ReadR P n Γ F ⟨d, .build T ps.toArray, ty, pos, af, gd⟩ (ag cs') := fun ρ w hf hw => by
  have hb : P.built T (ps.toArray.map fun (i, x) => (i, ρ.eval x)).toList = some (flat cs').toArray := by
    have h1 := hT.str
    have h2 := hz.zero
    unfold Program.built
    cases hi : P.info? T with
    | none => rw [hi] at h2; cases h2
    | some it =>
      cases hu : P.underlying T with
      | none => rw [hu] at h1; cases h1
      | some D =>
        rw [hu] at h1
        rw [hi] at h2
        cases D with
        | struct fs =>
          simp only at h1
          simp only [Option.bind_some] at h2
          cases hzz : it.zero with
          | none => rw [hzz] at h2; cases h2
          | some z =>
            rw [hzz] at h2
            have h3 : z.cells = (flat cs).toArray := by
              have : z.cells.toList = flat cs := by simpa using h2
              rw [← this]
            simp only [hzz, h1, h3]
            have hl : (ps.toArray.map fun (i, x) => (i, ρ.eval x)).toList = ps.map fun x => (x.1, ρ.eval x.2) := by simp
            rw [hl]
            exact fill_build hf ps cs cs' h hz.ok
        | _ => cases h1
  have := run_build (P := P) w T (ps.toArray.map fun (i, x) => (i, ρ.eval x)) _ hb
  simp only [execOp, Sem.run_bind, this, Result.andThen_ok, Sem.run_pure, ag]

/-! ### One operation behind the other -/

/-- The bytes of numbers. -/
def nbs (l : List Int) : List UInt8 := l.map fun e => UInt8.ofNat e.toNat
def evBs (F : List (Nat × Value)) : Nat → List (Nat × Operand) → List Int → Prop
  | _, [], [] => True
  | i, (j, x) :: ps, e :: es => Nat.beq i j = true ∧ evF F x = some (.int .u8 e) ∧ 0 ≤ e ∧ e < 256 ∧ evBs F (i + 1) ps es
  | _, _, _ => False
theorem evBs.nil {i : Nat} : evBs F i [] [] := trivial
theorem evBs.cons {i j : Nat} {x : Operand} {ps : List (Nat × Operand)} {e : Int} {es : List Int} (h1 : Nat.beq i j = true) (h2 : evF F x = some (.int .u8 e)) (h3 : 0 ≤ e) (h4 : e < 256) (k : evBs F (i + 1) ps es) : evBs F i ((j, x) :: ps) (e :: es) := ⟨h1, h2, h3, h4, k⟩
theorem evBs.ps : ∀ {ps : List (Nat × Operand)} {es : List Int} {i : Nat}, evBs F i ps es → evPs F i ps (u8s (nbs es)) ∧ (nbs es).length = ps.length
  | [], [], _, _ => ⟨trivial, rfl⟩
  | (j, x) :: ps, e :: es, i, h => by
    obtain ⟨h1, h2, h3, h4, h5⟩ := h
    have ih := evBs.ps h5
    have e1 : ((UInt8.ofNat e.toNat).toNat : Int) = e := by
      rw [UInt8.toNat_ofNat']; omega
    refine ⟨⟨h1, ?_, ih.1⟩, by have := ih.2; simp only [nbs, List.map_cons, List.length_cons] at this ⊢; omega⟩
    show evF F x = some (.int .u8 ((UInt8.ofNat e.toNat).toNat : Int))
    rw [e1]
    exact h2
  | [], _ :: _, _, h => h.elim
  | _ :: _, [], _, h => h.elim
theorem OpT.buildB {T : TypeId} {bytes : Nat} {z : Value} [hT : SliI P T 5] [he : EltI P 5 z bytes] {ps : List (Nat × Operand)} {es : List Int} {m : Nat} (h : evBs F 0 ps es) (hm : es.length = m) (hsm : Nat.ble m 16777216 = true) :
    OpT P n Γ F ⟨d, .buildSlice T m ps.toArray, ty, pos, af, gd⟩ [] (ROb (nbs es)) := by
  have hl : (nbs es).length = m := by simp [nbs, hm]
  unfold ROb
  rw [hl]
  exact OpT.buildSlice h.ps.1 (OneL.lits (u8s_one _)) (by rw [u8s_length]; exact hl) hsm

/-- append of bytes. -/
theorem OpT.appendB {T : TypeId} {z : Value} {bytes : Nat} [hT : SliI P T 5] [he : EltI P 5 z bytes] {s x : Operand} {v v2 : Value} {l k : List UInt8} {Γf : List Asn} (hs : evF F s = some v) (hx : evF F x = some v2) (hp : Takes Γ [ob v l] Γf) (h2 : HasS Γ v2 k.length (u8s k)) (h63 : l.length + k.length ≤ 1099511627776) (hby : Nat.ble bytes 128 = true) :
    OpT P n Γ F ⟨d, .call { callee := .builtin .append, args := #[s, x], argTypes := #[T, T] }, ty, pos, af, gd⟩ [ob v l] (ROb (l ++ k)) := by
  have := OpT.append (P := P) (n := n) (d := d) (ty := ty) (pos := pos) (af := af) (gd := gd) (T := T) hs hx hp h2 (u8s_length k) (u8s_one k) h63 (Nat.le_of_ble_eq_true hby)
  unfold ROb
  rw [List.length_append, u8s_append]
  exact this

/-- It makes a block. -/
theorem WPl.new {ops : Array Oper} {os : List Oper} {o : Oper} {T : TypeId} {cs : Ch} {d : Tmp} (hd : o.dst = some d) (hlt : Nat.blt d n = true) (hw : wantG F ops o.guard = some true) (h : OpT P n Γ F o [] (RNew T cs))
    (k : ∀ g, WPl P n W S (bx g T cs :: Γ) ((d, .pointer (some ⟨g, 0, none⟩)) :: F) ops os Q) : WPl P n W S Γ F ops (o :: os) Q :=
  WPl.op .nil (by rw [hd]; exact hlt) hw h (by rintro v Γ' ⟨g, rfl, rfl⟩; rw [hd]; exact k g)
/-- It turns a block. -/
theorem WPl.turn {ops : Array Oper} {os : List Oper} {o : Oper} {A B : Asn} {Γf : List Asn} (hp : Takes Γ [A] Γf) (hd : o.dst = none) (hw : wantG F ops o.guard = some true) (h : OpT P n Γ F o [A] (RLeave [B]))
    (k : WPl P n W S (B :: Γf) F ops os Q) : WPl P n W S Γ F ops (o :: os) Q :=
  WPl.op hp (by rw [hd]; rfl) hw h (by rintro v Γ' rfl; rw [hd]; exact k)
/-- It makes a row, of some of what there is or new. -/
theorem WPl.row {ops : Array Oper} {os : List Oper} {o : Oper} {Γo Γf : List Asn} {e : TypeId} {sz m : Nat} {xs : List Value} {d : Tmp} (hp : Takes Γ Γo Γf) (hd : o.dst = some d) (hlt : Nat.blt d n = true) (hw : wantG F ops o.guard = some true) (h : OpT P n Γ F o Γo (RRow e sz m xs))
    (k : ∀ v, v.oneCell' = true → WPl P n W S (rowN e sz v m xs :: Γf) ((d, v) :: F) ops os Q) : WPl P n W S Γ F ops (o :: os) Q :=
  WPl.op hp (by rw [hd]; exact hlt) hw h (by rintro v Γ' ⟨h1, rfl⟩; rw [hd]; exact k v h1)

/-- A call that gives a known value. -/
theorem WPl.callV {ops : Array Oper} {os : List Oper} {d : Tmp} {f : FuncId} {xs : List Operand} {ts : Array TypeId} {ty : TypeId} {pos : String} {af : Array Edge} {gd : Option (Nat × Bool)} {vs : List Value} {Δ : List Asn} {c : Value}
    (h : Triple P f vs.toArray Δ (RVal c)) (hx : evFs F xs vs) (hΔ : Provs Γ Δ) (hc : isCode P f = true) (hd : Nat.blt d n = true) (hw : wantG F ops gd = some true)
    (k : WPl P n W S Γ ((d, c) :: F) ops os Q) : WPl P n W S Γ F ops (⟨some d, .call { callee := .value (.func f), args := xs.toArray, argTypes := ts }, ty, pos, af, gd⟩ :: os) Q :=
  WPl.call h hx hΔ hc hd hw (by rintro v Γ' ⟨rfl, rfl⟩; exact k)
/-- A call that gives a slice of one's own. -/
theorem WPl.callR {ops : Array Oper} {os : List Oper} {d : Tmp} {f : FuncId} {xs : List Operand} {ts : Array TypeId} {ty : TypeId} {pos : String} {af : Array Edge} {gd : Option (Nat × Bool)} {vs : List Value} {Δ : List Asn} {e : TypeId} {sz m : Nat} {us : List Value}
    (h : Triple P f vs.toArray Δ (RRow e sz m us)) (hx : evFs F xs vs) (hΔ : Provs Γ Δ) (hc : isCode P f = true) (hd : Nat.blt d n = true) (hw : wantG F ops gd = some true)
    (k : ∀ v, v.oneCell' = true → WPl P n W S (rowN e sz v m us :: Γ) ((d, v) :: F) ops os Q) : WPl P n W S Γ F ops (⟨some d, .call { callee := .value (.func f), args := xs.toArray, argTypes := ts }, ty, pos, af, gd⟩ :: os) Q :=
  WPl.call h hx hΔ hc hd hw (by rintro v Γ' ⟨h1, rfl⟩; exact k v h1)

theorem WPl.splitG {ops : Array Oper} {os : List Oper} {op : Op} {e : Tmp} {j : Nat} {b c : Bool} {d : Nat} (hd : (ops[j]?).bind (·.dst) = some d) (h : lkT F d = some (.bool c)) (hlt : Nat.blt e n = true)
    (h1 : c = b → WPl P n W S Γ ((d, .bool b) :: F) ops (⟨some e, op, ty, pos, af, none⟩ :: os) Q) (h2 : c = !b → WPl P n W S Γ ((e, undef) :: (d, .bool (!b)) :: F) ops os Q) : WPl P n W S Γ F ops (⟨some e, op, ty, pos, af, some (j, b)⟩ :: os) Q := by
  intro a w hf hg
  have key : ∀ b', c = b' → Fr n ((d, .bool b') :: F) a := by
    rintro b' rfl
    refine ⟨hf.size, hf.defers, fun t v hv => ?_⟩
    by_cases e : d = t
    · subst e
      rw [lkT_cons_eq] at hv
      cases hv
      exact hf.get _ _ h
    · rw [lkT_cons_ne _ _ e] at hv
      exact hf.get _ _ hv
  by_cases hcb : c = b
  · have hx := h1 hcb a w (key b hcb) hg
    have hw : Region.wanted ⟨some e, op, ty, pos, af, some (j, b)⟩ (yielded ops a.tmps) = true := wanted_of (n := n) (F := F) hf (by simp [wantG, hd, h, hcb])
    unfold wpList at hx ⊢
    rw [if_pos hw]
    rw [if_pos (by simp [Region.wanted])] at hx
    exact hx
  · have hcn : c = !b := by cases c <;> cases b <;> simp_all
    have hx := h2 hcn _ w ((key _ hcn).put (d := some e) hlt undef) hg
    have hw : Region.wanted ⟨some e, op, ty, pos, af, some (j, b)⟩ (yielded ops a.tmps) = false := wanted_of (n := n) (F := F) hf (by simp [wantG, hd, h, hcb])
    unfold wpList
    rw [if_neg (by rw [hw]; decide)]
    exact hx

theorem WPc.nilRow {c : Code} (e : TypeId) (h : WPc P n W S (rowN e 1 (.slice none 0 0) 0 [] :: Γ) F c Q) : WPc P n W S Γ F c Q := fun a w hf hg =>
  h a w hf ⟨hg.mod, fun A hA => by
      rcases List.mem_cons.1 hA with rfl | hA
      · exact World.ownsRow_nil w 0 e 1
      · exact hg.all A hA,
    List.pairwise_cons.2 ⟨fun B _ _ g hg' _ => (by cases (show (none : Option Nat) = some g from hg')), hg.apart⟩, fun A hA ho g hg' => by
      rcases List.mem_cons.1 hA with rfl | hA
      · exact (by cases (show (none : Option Nat) = some g from hg'))
      · exact hg.mine A hA ho g hg'⟩

/-- Of what a function hands back. -/
theorem ResF.nil : ResF P Γ F [] [] := rfl
theorem ResF.tmp {t : Nat} {v : Value} {rs : List ResultVar} {vs : List Value} (h : lkT F t = some v) (k : ResF P Γ F rs vs) : ResF P Γ F (.tmp t :: rs) (v :: vs) := ⟨h, k⟩
theorem ResF.cellA {p : Nat} {T T' : TypeId} {sz g off : Nat} {cs ds : Ch} {rs : List ResultVar} {vs : List Value} [hT : TyI P T true sz] (h : lkT F p = some (.pointer (some ⟨g, off, none⟩))) (hm : bx g T' cs ∈ Γ) (hs : sel cs off sz = some ds) (k : ResF P Γ F rs vs) : ResF P Γ F (.cell p T :: rs) (ag ds :: vs) :=
  ⟨⟨_, h, fun w hw => run_loadA hs (hw _ hm)⟩, k⟩
theorem WPq.doneV {fn : Func} {rs : List ResultVar} {vs : List Value} {c : Value} {e : Exit} (he : e = .ret ∨ e = .normal) (hr : fn.results = rs.toArray) (h : ResF P Γ F rs vs) (hc : resV vs = c) : WPq n W S Γ F (Done P fn W S (RVal c)) e :=
  WPq.done (Γ' := []) he hr h .nil (fun A hA => by cases hA) ⟨hc, rfl⟩
theorem WPq.doneR {fn : Func} {rs : List ResultVar} {v : Value} {e : TypeId} {sz m : Nat} {us : List Value} {Γx : List Asn} {ex : Exit} (he : ex = .ret ∨ ex = .normal) (hr : fn.results = rs.toArray) (h : ResF P Γ F rs [v]) (hp : Take Γ (rowN e sz v m us) Γx) (h1 : v.oneCell' = true) : WPq n W S Γ F (Done P fn W S (RRow e sz m us)) ex :=
  WPq.done (Γ' := [rowN e sz v m us]) he hr h (.cons hp .nil) (fun A hA => by rw [List.mem_singleton.1 hA]; rfl) ⟨h1, rfl⟩
/-! ### More reads -/

def isNilS : Value → Bool
  | .slice none _ _ => true
  | _ => false
theorem ReadR.eqNil {T T2 e : TypeId} [hT : SliI P T e] {x : Operand} {v : Value} {m c1 c2 : Nat} {xs : List Value} (hx : evF F x = some v) (h : HasS Γ v m xs) :
    ReadR P n Γ F ⟨d, .binOp .eql T x (.const (.slice none c1 c2)) T2, ty, pos, af, gd⟩ (.bool (isNilS v)) := fun ρ w hf hw => by
  obtain ⟨a, cap, rfl, _⟩ := (h w hw).at
  have h1 := Lib.run_eql_slice_nil (P := P) w T e a m cap c1 c2 hT.und
  have h2 : (eqGuard .eql T x (.const (.slice none c1 c2)) (.slice a m cap) (.slice none c1 c2)).run P w = .ok () w := by simp [eqGuard]
  simp only [execOp, hf.eval hx, Sem.run_bind]
  rw [show ρ.eval (.const (.slice none c1 c2)) = .slice none c1 c2 from rfl, h2, Result.andThen_ok, h1]
  cases a <;> rfl
theorem HasS.nilLen {v : Value} {m : Nat} {xs : List Value} (h : HasS Γ v m xs) (hn : isNilS v = true) : ∀ w, Holds Γ w → m = 0 := fun w hw => by
  obtain ⟨a, cap, rfl, h1, h2, h3, _⟩ := (h w hw).at
  cases a with
  | none => have := h3 rfl; omega
  | some ad => simp [isNilS] at hn

/-- The text of bytes. -/
def strU (l : List UInt8) : ByteArray := strOfNums (l.map fun b => ((b.toNat : Nat) : Int))
theorem ReadR.str {T1 T2 : TypeId} [h1 : SliI P T1 5] {x : Operand} {v : Value} {l : List UInt8} (hu : P.underlying 5 = some (.int .u8)) (h2 : P.underlying T2 = some .string) (hx : evF F x = some v) (h : HasS Γ v l.length (u8s l)) :
    ReadR P n Γ F ⟨d, .convert T1 T2 x, ty, pos, af, gd⟩ (.string (strU l)) := fun ρ w hf hw => by
  have key : (convert T1 T2 v).run P w = .ok (.string (strU l)) w := by
    rcases h w hw with ⟨rfl, h0, _⟩ | ⟨ad, cap, rfl, g1, g2, g3⟩
    · have : l = [] := List.length_eq_zero_iff.1 h0
      subst this
      rw [run_convert_bytes_nil (w := w) (P := P) T1 5 h1.und hu 0 0 T2 h2]
      rfl
    · cases l with
      | nil =>
        rw [List.length_nil, run_convert_bytes_string w T1 T2 5 (some ad) 0 cap h1.und hu h2]
        simp [Conv.bytesToString, loadCells, loadCellsFrom, strU]
        rfl
      | cons b l =>
        have hsp : ad.spot = none := by
          have := g3 0 _ (u8s_get (l := b :: l) (i := 0) (by simp))
          simp only [World.cell?, add_block] at this
          split at this
          · split at this
            · cases this
            · rename_i hs
              simpa [Addr.add] using hs
          · cases this
        obtain ⟨b0, o0, s0⟩ := ad
        cases hsp
        refine run_convert_bytes_arg (P := P) w T1 5 h1.und hu b0 o0 (b :: l).length cap ((b :: l).map fun b => ((b.toNat : Nat) : Int)) (by simp) (fun i hi => ?_) T2 h2
        have := g3 i _ (u8s_get hi)
        rw [add_mk] at this
        rw [this, List.getD_eq_getElem?_getD, List.getD_eq_getElem?_getD, List.getElem?_map, List.getElem?_eq_getElem hi]
        rfl
  simp only [execOp, hf.eval hx, Sem.run_bind, key, Result.andThen_ok, Sem.run_pure]

end
end Go.Proofs.YtpilenbdimhegaaGreatDoor
