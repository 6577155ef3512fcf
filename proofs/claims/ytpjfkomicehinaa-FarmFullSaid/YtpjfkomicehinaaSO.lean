/- Separation: blocks of known cells, rows of cells, and what operations do with them. -/
import Derived.Test.YtpjfkomicehinaaS
import Derived.Test.YtpjfkomicehinaaRows
import Derived.WalkSpells
import Derived.WalkLawsBesides
import Derived.Laws.AppendOwnNone
import Derived.Laws.CopyOwn
import Derived.Laws.StructEq
namespace Go.Proofs.Ytpjfkomicehinaa
open Go.RowKit
set_option linter.unusedSimpArgs false
set_option linter.unusedVariables false

/-! ### Bytes -/

def u8s (l : List UInt8) : List Value := l.map fun b => Value.int .u8 ((b.toNat : Nat) : Int)
@[simp] theorem u8s_length (l : List UInt8) : (u8s l).length = l.length := by simp [u8s]
theorem u8s_append (l k : List UInt8) : u8s (l ++ k) = u8s l ++ u8s k := by simp [u8s]
theorem u8s_one (l : List UInt8) : ∀ u, u ∈ u8s l → u.oneCell' = true := by
  intro u hu
  simp only [u8s, List.mem_map] at hu
  obtain ⟨b, _, rfl⟩ := hu
  rfl
theorem u8s_get {l : List UInt8} {i : Nat} (h : i < l.length) : (u8s l)[i]? = some (.int .u8 ((l.getD i 0).toNat : Nat)) := by simp [u8s, h]
theorem u8s_drop (l : List UInt8) (k : Nat) : (u8s l).drop k = u8s (l.drop k) := by simp [u8s, List.map_drop]
theorem u8s_take (l : List UInt8) (k : Nat) : (u8s l).take k = u8s (l.take k) := by simp [u8s, List.map_take]
theorem u8s_set (l : List UInt8) (i : Nat) (c : UInt8) : (u8s l).set i (.int .u8 ((c.toNat : Nat) : Int)) = u8s (l.set i c) := by simp [u8s, List.map_set]
theorem u8s_inj {l m : List UInt8} : u8s l = u8s m ↔ l = m := by
  constructor
  · intro h
    induction l generalizing m with
    | nil => cases m with
      | nil => rfl
      | cons y m => simp [u8s] at h
    | cons x l ih => cases m with
      | nil => simp [u8s] at h
      | cons y m =>
        simp only [u8s, List.map_cons, List.cons.injEq, Value.int.injEq, true_and] at h
        rw [ih h.2, show x = y from UInt8.toNat_inj.1 (by have := h.1; omega)]
  · rintro rfl; rfl
theorem u8s_flatten (ls : List (List UInt8)) : u8s ls.flatten = (ls.map u8s).flatten := by
  induction ls with
  | nil => rfl
  | cons l ls ih => rw [List.flatten_cons, u8s_append, ih]; rfl

/-! ### Types, so far as the program has them -/

def aggB : TypeDesc → Bool
  | .struct _ | .array _ _ => true
  | _ => false

class TyI (P : Program) (T : TypeId) (ag : outParam Bool) (sz : outParam Nat) : Prop where
  und : (P.underlying T).map aggB = some ag
  size : (P.info? T).map (·.size) = some sz
class SliI (P : Program) (T : TypeId) (e : outParam TypeId) : Prop where
  und : P.underlying T = some (.slice e)
class ArrI (P : Program) (T : TypeId) (m : outParam Nat) (e : outParam TypeId) : Prop where
  und : P.underlying T = some (.array m e)
class IntI (P : Program) (T : TypeId) (k : outParam IntKind) : Prop where
  und : P.underlying T = some (.int k)
/-- The places and sizes of a struct's fields. -/
class StrI (P : Program) (T : TypeId) (places : outParam (List (Nat × Nat))) : Prop where
  str : (match P.underlying T with | some (.struct fs) => fs.toList.mapM (fun f => (P.info? f.type).map fun i => (f.offset, i.size)) | _ => none) = some places
class FldI (P : Program) (T : TypeId) (k : Nat) (off : outParam Nat) : Prop where
  fld : (match P.underlying T with | some (.struct fs) => (fs[k]?).bind fun f => (P.info? f.type).bind fun i => if i.size = 0 then none else some f.offset | _ => none) = some off

theorem TyI.run_isAgg {P : Program} {T : TypeId} {ag : Bool} {sz : Nat} [h : TyI P T ag sz] (w : World) : (isAgg T).run P w = .ok ag w := by
  have h1 := h.und
  cases hd : P.underlying T with
  | none => rw [hd] at h1; cases h1
  | some d =>
    rw [hd] at h1
    have h2 : aggB d = ag := by simpa using h1
    unfold isAgg
    rw [Sem.run_bind, run_underlying hd w, ← h2]
    cases d <;> rfl
theorem TyI.run_sizeOf {P : Program} {T : TypeId} {ag : Bool} {sz : Nat} [h : TyI P T ag sz] (w : World) : (sizeOf T).run P w = .ok sz w := by
  have h1 := h.size
  cases hi : P.info? T with
  | none => rw [hi] at h1; cases h1
  | some i =>
    rw [hi] at h1
    have h2 : i.size = sz := by simpa using h1
    simp [sizeOf, typeInfo, hi, Sem.run_bind, h2]
theorem FldI.run {P : Program} {T : TypeId} {k off : Nat} [h : FldI P T k off] (ad : Addr) (w : World) : (Instr.fieldAt T (.pointer (some ad)) k).run P w = .ok (.pointer (some (ad.add off))) w := by
  have h1 := h.fld
  cases hd : P.underlying T with
  | none => rw [hd] at h1; cases h1
  | some d =>
    rw [hd] at h1
    cases d with
    | struct fs =>
      simp only at h1
      cases hf : fs[k]? with
      | none => rw [hf] at h1; cases h1
      | some f =>
        rw [hf] at h1
        simp only [Option.bind_some] at h1
        cases hi : P.info? f.type with
        | none => rw [hi] at h1; cases h1
        | some i =>
          rw [hi] at h1
          simp only [Option.bind_some] at h1
          split at h1
          · cases h1
          · rename_i hz
            cases h1
            simp [Instr.fieldAt, run_underlying hd, hf, Instr.sureAddr, fieldPlace, sizeOf, typeInfo, hi, Sem.run_bind, hz, Sem.run_ite]
    | _ => cases h1

/-! ### Cells in chunks -/

abbrev Ch := List (Nat × List Value)

def flat : Ch → List Value
  | [] => []
  | [c] => c.2
  | c :: cs => c.2 ++ flat cs
theorem flat_eq : ∀ cs : Ch, flat cs = (cs.map (·.2)).flatten
  | [] => rfl
  | [c] => by simp [flat]
  | c :: c' :: cs => by
    show c.2 ++ flat (c' :: cs) = _
    rw [flat_eq (c' :: cs)]; simp
def total : Ch → Nat
  | [] => 0
  | c :: cs => c.1 + total cs
def chOk (cs : Ch) : Prop := ∀ c, c ∈ cs → c.2.length = c.1
theorem flat_length {cs : Ch} (h : chOk cs) : (flat cs).length = total cs := by
  rw [flat_eq]
  induction cs with
  | nil => rfl
  | cons c cs ih =>
    rw [List.map_cons, List.flatten_cons, List.length_append, ih fun d hd => h d (List.mem_cons_of_mem _ hd), h c (List.mem_cons_self ..)]
    rfl

/-- Chunks of the sizes that they tell, of single cells. -/
structure FOk (cs : Ch) : Prop where
  len : chOk cs
  one : ∀ v, v ∈ flat cs → v.oneCell' = true
theorem FOk.nil : FOk [] := ⟨(fun _ h => by cases h), (fun _ h => by cases h)⟩
theorem FOk.seg {n : Nat} {l : List Value} {cs : Ch} (h : l.length = n) (h1 : ∀ v, v ∈ l → v.oneCell' = true) (k : FOk cs) : FOk ((n, l) :: cs) := by
  refine ⟨fun c hc => ?_, fun v hv => ?_⟩
  · rcases List.mem_cons.1 hc with rfl | hc
    · exact h
    · exact k.len c hc
  · rw [flat_eq, List.map_cons, List.flatten_cons, ← flat_eq] at hv
    rcases List.mem_append.1 hv with hv | hv
    · exact h1 v hv
    · exact k.one v hv
theorem FOk.one1 {v : Value} {cs : Ch} (h : v.oneCell' = true) (k : FOk cs) : FOk ((1, [v]) :: cs) := FOk.seg rfl (fun u hu => by rw [List.mem_singleton.1 hu]; exact h) k
theorem FOk.bytes {n : Nat} {l : List UInt8} {cs : Ch} (h : l.length = n) (k : FOk cs) : FOk ((n, u8s l) :: cs) := FOk.seg (by rw [u8s_length]; exact h) (u8s_one l) k

/-- A struct's or an array's value. -/
def ag (cs : Ch) : Value := .agg (flat cs).toArray

def takeCh : Ch → Nat → Option Ch
  | cs, n => match Nat.beq n 0 with
    | true => some []
    | false => match cs with
      | [] => none
      | c :: cs => match Nat.ble c.1 n with
        | true => (takeCh cs (n - c.1)).map (c :: ·)
        | false => none
/-- The chunks from a place on. -/
def sel : Ch → Nat → Nat → Option Ch
  | [], _, _ => none
  | c :: cs, off, n => match Nat.beq off 0 with
    | true => takeCh (c :: cs) n
    | false => match Nat.ble c.1 off with
      | true => sel cs (off - c.1) n
      | false => none
def dropCh : Ch → Nat → Option Ch
  | cs, n => match Nat.beq n 0 with
    | true => some cs
    | false => match cs with
      | [] => none
      | c :: cs => match Nat.ble c.1 n with
        | true => dropCh cs (n - c.1)
        | false => none
def appCh (new : Ch) : Ch → Ch
  | [] => new
  | c :: cs => new ++ c :: cs
/-- Other chunks from a place on. -/
def upd (new : Ch) : Ch → Nat → Nat → Option Ch
  | [], _, _ => none
  | c :: cs, off, n => match Nat.beq off 0 with
    | true => (dropCh (c :: cs) n).map (appCh new)
    | false => match Nat.ble c.1 off with
      | true => (upd new cs (off - c.1) n).map (c :: ·)
      | false => none

theorem beq_true {a b : Nat} (h : Nat.beq a b = true) : a = b := Nat.eq_of_beq_eq_true h
theorem takeCh_spec : ∀ {cs : Ch} {n : Nat} {ds : Ch}, takeCh cs n = some ds → chOk cs → chOk ds ∧ total ds = n ∧ ∃ es, cs = ds ++ es
  | [], n, ds, h, _ => by
    unfold takeCh at h
    split at h
    · rename_i hb; cases h; exact ⟨(fun _ h => by cases h), (beq_true hb).symm, [], rfl⟩
    · cases h
  | c :: cs, n, ds, h, hk => by
    unfold takeCh at h
    split at h
    · rename_i hb; cases h; exact ⟨(fun _ h => by cases h), (beq_true hb).symm, _, rfl⟩
    · simp only at h
      split at h
      · rename_i hle
        rw [Option.map_eq_some_iff] at h
        obtain ⟨ds', h1, rfl⟩ := h
        obtain ⟨a, b, es, rfl⟩ := takeCh_spec h1 fun d hd => hk d (List.mem_cons_of_mem _ hd)
        refine ⟨fun d hd => ?_, ?_, es, rfl⟩
        · rcases List.mem_cons.1 hd with rfl | hd
          · exact hk _ (List.mem_cons_self ..)
          · exact a d hd
        · have := Nat.le_of_ble_eq_true hle
          simp only [total, b]; omega
      · cases h
theorem dropCh_spec : ∀ {cs : Ch} {n : Nat} {es : Ch}, dropCh cs n = some es → ∃ ds, cs = ds ++ es ∧ total ds = n
  | [], n, ds, h => by
    unfold dropCh at h
    split at h
    · rename_i hb; cases h; exact ⟨[], rfl, (beq_true hb).symm⟩
    · cases h
  | c :: cs, n, ds, h => by
    unfold dropCh at h
    split at h
    · rename_i hb; cases h; exact ⟨[], rfl, (beq_true hb).symm⟩
    · simp only at h
      split at h
      · rename_i hle
        obtain ⟨ds', rfl, hb⟩ := dropCh_spec h
        refine ⟨c :: ds', rfl, ?_⟩
        have := Nat.le_of_ble_eq_true hle
        simp only [total, hb]; omega
      · cases h
theorem sel_spec : ∀ {cs : Ch} {off n : Nat} {ds : Ch}, sel cs off n = some ds → chOk cs → chOk ds ∧ total ds = n ∧ ∃ pre es, cs = pre ++ (ds ++ es) ∧ total pre = off
  | [], _, _, _, h, _ => by cases h
  | c :: cs, off, n, ds, h, hk => by
    unfold sel at h
    split at h
    · rename_i hb
      obtain ⟨a, b, es, he⟩ := takeCh_spec h hk
      exact ⟨a, b, [], es, he, (beq_true hb).symm⟩
    · split at h
      · rename_i hle
        obtain ⟨a, b, pre, es, rfl, ht⟩ := sel_spec h fun d hd => hk d (List.mem_cons_of_mem _ hd)
        refine ⟨a, b, c :: pre, es, rfl, ?_⟩
        have := Nat.le_of_ble_eq_true hle
        simp only [total, ht]; omega
      · cases h
theorem upd_spec {new : Ch} : ∀ {cs : Ch} {off n : Nat} {ds : Ch}, upd new cs off n = some ds → ∃ pre bs es, cs = pre ++ (bs ++ es) ∧ ds = pre ++ (new ++ es) ∧ total pre = off ∧ total bs = n
  | [], _, _, _, h => by cases h
  | c :: cs, off, n, ds, h => by
    unfold upd at h
    split at h
    · rename_i hb
      rw [Option.map_eq_some_iff] at h
      obtain ⟨es, h1, rfl⟩ := h
      obtain ⟨bs, he, ht⟩ := dropCh_spec h1
      refine ⟨[], bs, es, he, ?_, (beq_true hb).symm, ht⟩
      cases es <;> simp [appCh]
    · split at h
      · rename_i hle
        rw [Option.map_eq_some_iff] at h
        obtain ⟨ds', h1, rfl⟩ := h
        obtain ⟨pre, bs, es, rfl, rfl, ha, hb⟩ := upd_spec h1
        refine ⟨c :: pre, bs, es, rfl, rfl, ?_, hb⟩
        have := Nat.le_of_ble_eq_true hle
        simp only [total, ha]; omega
      · cases h
theorem flat_append (pre bs : Ch) : flat (pre ++ bs) = flat pre ++ flat bs := by simp [flat_eq]
theorem chOk_append {pre bs : Ch} : chOk (pre ++ bs) ↔ chOk pre ∧ chOk bs := by
  constructor
  · exact fun h => ⟨fun c hc => h c (List.mem_append_left _ hc), fun c hc => h c (List.mem_append_right _ hc)⟩
  · rintro ⟨h, k⟩ c hc
    rcases List.mem_append.1 hc with hc | hc
    · exact h c hc
    · exact k c hc

class ZeroI (P : Program) (T : TypeId) (cs : outParam Ch) : Prop where
  zero : ((P.info? T).bind (·.zero)).map (fun z => z.cells.toList) = some (flat cs)
  ok : FOk cs
theorem ZeroI.run {P : Program} {T : TypeId} {cs : Ch} [h : ZeroI P T cs] (w : World) : ∃ z, (zeroValue T).run P w = .ok z w ∧ z.cells = (flat cs).toArray := by
  have h1 := h.zero
  cases hi : P.info? T with
  | none => rw [hi] at h1; cases h1
  | some i =>
    rw [hi] at h1
    simp only [Option.bind_some] at h1
    cases hz : i.zero with
    | none => rw [hz] at h1; cases h1
    | some z =>
      rw [hz] at h1
      refine ⟨z, by simp [zeroValue, typeInfo, hi, hz, Sem.run_bind], ?_⟩
      have h2 : z.cells.toList = flat cs := by simpa using h1
      rw [← h2]

/-! ### Blocks of known cells -/

/-- Block g is one's own and holds these cells. -/
def bx (g : Nat) (T : TypeId) (cs : Ch) : Asn where
  own := true
  fp := fun g' => g' = g
  holds := fun w => w.heap[g]? = some (.cells (flat cs).toArray T (0, 0)) ∧ FOk cs
  lt := fun w h g' hg => by
    subst hg
    rcases Nat.lt_or_ge g' w.heap.size with h1 | h1
    · exact h1
    · rw [Array.getElem?_eq_none h1] at h; cases h.1
  loc := fun w w' h hl => ⟨by rw [hl g rfl]; exact h.1, h.2⟩

theorem bx_own {g : Nat} {T : TypeId} {cs : Ch} : (bx g T cs).own = true := rfl
theorem bx_cell {g : Nat} {T : TypeId} {cs : Ch} {w : World} (h : (bx g T cs).holds w) (i : Nat) : w.cell? ⟨g, i, none⟩ = (flat cs)[i]? := by
  simp [World.cell?, h.1]

theorem add_mk (g o i : Nat) : (⟨g, o, none⟩ : Addr).add i = ⟨g, o + i, none⟩ := by
  unfold Addr.add; split <;> simp_all

theorem sel_cells {cs : Ch} {off n : Nat} {ds : Ch} (h : sel cs off n = some ds) (hk : chOk cs) : ∀ j v, (flat ds)[j]? = some v → (flat cs)[off + j]? = some v := by
  intro j v hj
  obtain ⟨h1, h2, pre, es, rfl, ht⟩ := sel_spec h hk
  rw [flat_append, flat_append]
  have ha := flat_length (chOk_append.1 hk).1
  have hjl := (List.getElem?_eq_some_iff.1 hj).1
  rw [List.getElem?_append_right (by omega), List.getElem?_append_left (by omega), ← hj]
  congr 1
  omega

/-- A load of a struct or an array out of a block. -/
theorem run_loadA {P : Program} {T T' : TypeId} {sz g off : Nat} {cs ds : Ch} {w : World} [hT : TyI P T true sz] (hs : sel cs off sz = some ds) (h : (bx g T' cs).holds w) : (loadVar T ⟨g, off, none⟩).run P w = .ok (ag ds) w := by
  have hl : (loadCells ⟨g, off, none⟩ sz).run P w = .ok (flat ds).toArray w := by
    have h2 := (sel_spec hs h.2.len)
    have h3 := flat_length h2.1
    rw [h2.2.1] at h3
    have := run_loadCells_list (P := P) w ⟨g, off, none⟩ (flat ds) fun j v hv => by
      rw [add_mk, bx_cell h]
      exact sel_cells hs h.2.len j v hv
    rw [h3] at this
    exact this
  simp [loadVar, Sem.run_bind, hT.run_isAgg, hT.run_sizeOf, hl, ag]

/-- A load of one cell. -/
theorem run_load1 {P : Program} {T : TypeId} {sz : Nat} {ad : Addr} {v : Value} {w : World} [hT : TyI P T false sz] (h : w.cell? ad = some v) : (loadVar T ad).run P w = .ok v w := by
  simp [loadVar, Sem.run_bind, hT.run_isAgg, load, Sem.run, h]

/-! ### Rows of cells -/

/-- From v, of n elements, these cells are read. -/
def Reads (w : World) (v : Value) (n : Nat) (xs : List Value) : Prop :=
  (v = .slice none 0 0 ∧ n = 0 ∧ xs = []) ∨ ∃ ad cap, v = .slice (some ad) n cap ∧ n ≤ cap ∧ cap ≤ maxLen ∧ ∀ i u, xs[i]? = some u → w.cell? (ad.add i) = some u

theorem Reads.at {w : World} {v : Value} {n : Nat} {xs : List Value} (h : Reads w v n xs) : ∃ a cap, v = .slice a n cap ∧ n ≤ cap ∧ cap ≤ maxLen ∧ (a = none → cap = 0) ∧ ∀ i u, xs[i]? = some u → ∃ ad, a = some ad ∧ w.cell? (ad.add i) = some u := by
  rcases h with ⟨rfl, rfl, rfl⟩ | ⟨ad, cap, rfl, h1, h2, h3⟩
  · exact ⟨none, 0, rfl, Nat.le_refl _, by simp [maxLen], fun _ => rfl, by simp⟩
  · exact ⟨_, cap, rfl, h1, h2, by simp, fun i u hu => ⟨ad, rfl, h3 i u hu⟩⟩

theorem add_block (a : Addr) (i : Nat) : (a.add i).block = a.block := by unfold Addr.add; split <;> rfl

/-- From v these cells are read: to be read alone. -/
def rdN (v : Value) (n : Nat) (xs : List Value) : Asn where
  own := false
  fp := fun g => xs ≠ [] ∧ v.ownBlock = some g
  holds := fun w => Reads w v n xs
  lt := fun w h g hg => by
    obtain ⟨hne, hb⟩ := hg
    rcases h with ⟨rfl, _, rfl⟩ | ⟨ad, cap, rfl, h1, h2, h3⟩
    · exact absurd rfl hne
    · cases xs with
      | nil => exact absurd rfl hne
      | cons x xs =>
        have := World.block_lt_of_cell? w _ (h3 0 x rfl)
        rw [add_block] at this
        cases hb
        exact this
  loc := fun w w' h hl => by
    rcases h with ⟨rfl, rfl, rfl⟩ | ⟨ad, cap, rfl, h1, h2, h3⟩
    · exact .inl ⟨rfl, rfl, rfl⟩
    · refine .inr ⟨ad, cap, rfl, h1, h2, fun i u hu => ?_⟩
      rw [← h3 i u hu]
      refine World.cell?_of_block (w := w) ?_
      rw [add_block]
      refine hl _ ⟨?_, rfl⟩
      rintro rfl
      simp at hu

theorem rdN_own {v : Value} {n : Nat} {xs : List Value} : (rdN v n xs).own = false := rfl
/-- A row of one's own: n elements of some cells. -/
def rowN (e : TypeId) (sz : Nat) (v : Value) (n : Nat) (xs : List Value) : Asn where
  own := true
  fp := fun g => v.ownBlock = some g
  holds := fun w => w.ownsRow 0 e sz v n xs
  lt := fun w h g hg => (World.ownsRow.lt h g hg).2
  loc := fun w w' h hl => by
    refine ⟨h.1, ?_⟩
    rcases h.2 with hn | ⟨g, cap, cur, hv, hb, hg, r⟩
    · exact .inl hn
    · refine .inr ⟨g, cap, cur, hv, hb, ?_, r⟩
      rw [hl g (by rw [hv]; rfl)]
      exact hg

theorem rowN_own {e : TypeId} {sz : Nat} {v : Value} {n : Nat} {xs : List Value} : (rowN e sz v n xs).own = true := rfl
theorem row_reads {e : TypeId} {sz : Nat} {v : Value} {n : Nat} {xs : List Value} {w : World} (h : (rowN e sz v n xs).holds w) : Reads w v n xs := by
  rcases h.2 with ⟨rfl, h0⟩ | ⟨g, cap, cur, rfl, hB, hg, hnc, hcm, hcs, ht⟩
  · subst h0
    exact .inl ⟨rfl, rfl, List.eq_nil_of_length_eq_zero (by rw [h.1]; simp)⟩
  · refine .inr ⟨⟨g, 0, none⟩, cap, rfl, hnc, hcm, fun j u hj => ?_⟩
    have hlt : j < n * sz := by rw [← h.1]; exact (List.getElem?_eq_some_iff.1 hj).1
    rw [← ht, List.getElem?_take, if_pos hlt] at hj
    rw [add_mk]
    simp only [World.cell?, hg]
    simpa using hj
theorem row_len {e : TypeId} {sz : Nat} {v : Value} {n : Nat} {xs : List Value} {w : World} (h : (rowN e sz v n xs).holds w) : xs.length = n * sz := h.1

/-- Bytes to be read; bytes of one's own. -/
abbrev rb (v : Value) (l : List UInt8) : Asn := rdN v l.length (u8s l)
abbrev ob (v : Value) (l : List UInt8) : Asn := rowN 5 1 v l.length (u8s l)

/-- Slices of bytes to be read, each. -/
abbrev rbz (vs : List Value) (ls : List (List UInt8)) : List Asn := List.zipWith rb vs ls
theorem mem_rbz : ∀ {vs : List Value} {ls : List (List UInt8)} {i : Nat} {v : Value} {l : List UInt8}, vs[i]? = some v → ls[i]? = some l → rb v l ∈ rbz vs ls
  | v :: vs, l :: ls, 0, _, _, h1, h2 => by simp at h1 h2; subst h1 h2; exact List.mem_cons_self ..
  | v :: vs, l :: ls, i + 1, _, _, h1, h2 => List.mem_cons_of_mem _ (mem_rbz (by simpa using h1) (by simpa using h2))
  | [], _, _, _, _, h1, _ => by simp at h1
  | _ :: _, [], _, _, _, _, h2 => by simp at h2

theorem rbz_own : ∀ {vs : List Value} {ls : List (List UInt8)} (A : Asn), A ∈ rbz vs ls → A.own = false
  | [], _, A, h => by simp [rbz] at h
  | _ :: _, [], A, h => by simp [rbz] at h
  | v :: vs, l :: ls, A, h => by
    rcases List.mem_cons.1 h with rfl | h
    · rfl
    · exact rbz_own A h
theorem Provs.of_mem {Γ : List Asn} : ∀ {Δ : List Asn}, (∀ A, A ∈ Δ → A.own = false ∧ A ∈ Γ) → Provs Γ Δ
  | [], _ => trivial
  | A :: Δ, h => ⟨⟨(h A (List.mem_cons_self ..)).1, fun w hw => hw A (h A (List.mem_cons_self ..)).2⟩, Provs.of_mem fun B hB => h B (List.mem_cons_of_mem _ hB)⟩
theorem Provs.rbz {vs : List Value} {ls : List (List UInt8)} : Provs (rbz vs ls) (rbz vs ls) := Provs.of_mem fun A hA => ⟨rbz_own A hA, hA⟩
theorem Provs.skipA {Γ : List Asn} {B : Asn} : ∀ {Δ : List Asn}, Provs Γ Δ → Provs (B :: Γ) Δ
  | [], _ => trivial
  | A :: Δ, h => ⟨⟨h.1.1, fun w hw => h.1.2 w fun C hC => hw C (List.mem_cons_of_mem _ hC)⟩, Provs.skipA h.2⟩
def HasS (Γ : List Asn) (v : Value) (n : Nat) (xs : List Value) : Prop := ∀ w, Holds Γ w → Reads w v n xs
theorem HasS.rd {Γ : List Asn} {v : Value} {n : Nat} {xs : List Value} (h : rdN v n xs ∈ Γ) : HasS Γ v n xs := fun w hw => hw _ h
theorem HasS.row {Γ : List Asn} {e : TypeId} {sz : Nat} {v : Value} {n : Nat} {xs : List Value} (h : rowN e sz v n xs ∈ Γ) : HasS Γ v n xs := fun w hw => row_reads (hw _ h)
theorem HasS.nil {Γ : List Asn} : HasS Γ (.slice none 0 0) 0 [] := fun _ _ => .inl ⟨rfl, rfl, rfl⟩
theorem HasS.nilB {Γ : List Asn} : HasS Γ (.slice none 0 0) ([] : List UInt8).length (u8s []) := fun _ _ => .inl ⟨rfl, rfl, rfl⟩
theorem Prov.rd {Γ : List Asn} {v : Value} {n : Nat} {xs : List Value} (h : HasS Γ v n xs) : Prov Γ (rdN v n xs) := ⟨rfl, h⟩
theorem HasS.len {Γ : List Asn} {v : Value} {n : Nat} {xs : List Value} (h : HasS Γ v n xs) : ∀ w, Holds Γ w → n ≤ maxLen := fun w hw => by
  obtain ⟨a, cap, _, h1, h2, _⟩ := (h w hw).at
  omega
theorem HasS.one {Γ : List Asn} {v : Value} {n : Nat} {xs : List Value} (h : HasS Γ v n xs) : ∀ w, Holds Γ w → v.oneCell' = true := fun w hw => by
  obtain ⟨a, cap, rfl, _⟩ := (h w hw).at
  rfl

/-- A part of a slice whose elements have sz cells. -/
def subv (sz : Nat) (v : Value) (k n : Nat) : Value :=
  match v with
  | .slice (some a) _ cap => .slice (some (if cap = k then a else a.add (k * sz))) n (cap - k)
  | v => v
theorem add_add (a : Addr) (k i : Nat) : (a.add k).add i = a.add (k + i) := by
  unfold Addr.add
  by_cases h1 : k = 0 <;> by_cases h2 : i = 0 <;> simp_all <;> omega
theorem Reads.sub {w : World} {v : Value} {m : Nat} {xs : List Value} (h : Reads w v m xs) {sz k n : Nat} (hx : xs.length = m * sz) (hk : k + n ≤ m) : Reads w (subv sz v k n) n ((xs.drop (k * sz)).take (n * sz)) := by
  have h2 : k * sz + n * sz ≤ xs.length := by rw [hx, ← Nat.add_mul]; exact Nat.mul_le_mul_right _ hk
  have hl : ((xs.drop (k * sz)).take (n * sz)).length = n * sz := by simp; omega
  rcases h with ⟨rfl, rfl, rfl⟩ | ⟨ad, cap, rfl, h1, h2, h3⟩
  · have : n = 0 := by omega
    subst this
    exact .inl ⟨rfl, rfl, by simp⟩
  · refine .inr ⟨if cap = k then ad else ad.add (k * sz), cap - k, rfl, by omega, by omega, fun i u hu => ?_⟩
    have hi : i < n * sz := by have := (List.getElem?_eq_some_iff.1 hu).1; omega
    have hn : n ≠ 0 := by rintro rfl; simp at hi
    rw [if_neg (by omega), add_add]
    refine h3 _ _ ?_
    rw [List.getElem?_take, if_pos hi, List.getElem?_drop] at hu
    exact hu
theorem HasS.sub {Γ : List Asn} {v : Value} {m : Nat} {xs : List Value} (h : HasS Γ v m xs) {sz k n : Nat} (hx : xs.length = m * sz) (hk : k + n ≤ m) : HasS Γ (subv sz v k n) n ((xs.drop (k * sz)).take (n * sz)) := fun w hw => (h w hw).sub hx hk

/-- A part of bytes. -/
def seg (l : List UInt8) (k n : Nat) : List UInt8 := (l.drop k).take n
@[simp] theorem seg_length {l : List UInt8} {k n : Nat} (h : k + n ≤ l.length) : (seg l k n).length = n := by simp [seg]; omega
theorem HasS.subB {Γ : List Asn} {v : Value} {l : List UInt8} (h : HasS Γ v l.length (u8s l)) {k n : Nat} (hk : k + n ≤ l.length) : HasS Γ (subv 1 v k n) (seg l k n).length (u8s (seg l k n)) := by
  have := HasS.sub (sz := 1) h (by simp [u8s_length]) hk
  simp only [Nat.mul_one, u8s_drop, u8s_take] at this
  rw [seg_length hk]
  exact this

/-- The place of a cell. -/
def ela (v : Value) (i : Nat) : Addr := match v with | .slice (some a) _ _ => a.add i | _ => ⟨0, 0, none⟩
theorem HasS.cell {Γ : List Asn} {v : Value} {n : Nat} {xs : List Value} (h : HasS Γ v n xs) {i : Nat} {u : Value} (hu : xs[i]? = some u) {w : World} (hw : Holds Γ w) : w.cell? (ela v i) = some u := by
  obtain ⟨a, cap, rfl, h1, h2, _, h3⟩ := (h w hw).at
  obtain ⟨ad, rfl, hc⟩ := h3 i u hu
  exact hc

/-- Cells in a block, as a slice of elements of one cell. -/
theorem HasS.box {Γ : List Asn} {g : Nat} {T : TypeId} {cs : Ch} {off k n c m : Nat} {xs : List Value} (h : bx g T cs ∈ Γ) (hs : sel cs off m = some [(m, xs)]) (hk : k + n ≤ m) (hc : n ≤ c) (hcm : c ≤ maxLen) :
    HasS Γ (.slice (some ⟨g, off + k, none⟩) n c) n ((xs.drop k).take n) := fun w hw => by
  have hb := hw _ h
  obtain ⟨h1, _⟩ := sel_spec hs hb.2.len
  have hx : xs.length = m := h1 _ (List.mem_singleton.2 rfl)
  refine .inr ⟨_, c, rfl, by omega, hcm, fun i u hu => ?_⟩
  rw [add_mk, bx_cell hb, Nat.add_assoc]
  refine sel_cells hs hb.2.len _ _ ?_
  have hi : i < n := by have := (List.getElem?_eq_some_iff.1 hu).1; simp at this; omega
  rw [List.getElem?_take, if_pos hi, List.getElem?_drop] at hu
  exact hu

end Go.Proofs.Ytpjfkomicehinaa
