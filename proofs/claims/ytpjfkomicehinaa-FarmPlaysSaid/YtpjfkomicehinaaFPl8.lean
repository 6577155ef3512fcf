/- What the row of farmPlays_holds needs: part 8. -/
import Derived.Test.YtpjfkomicehinaaFPl7
/- Layer 20: the reference: what it holds; what may be; where it is. -/
namespace Go.Proofs.Ytpjfkomicehinaa
def oint (o : Option Nat) : Int := match o with | some i => (i : Int) | none => -1
theorem idx_some {α : Type} {l : List α} {q : α → Bool} {i : Nat} {f : α} (hf : l[i]? = some f) (hq : q f = true) (hno : ∀ (j : Nat) (g : α), j < i → l[j]? = some g → q g = false) : l.findIdx? q = some i := by
  obtain ⟨hl, he⟩ := List.getElem?_eq_some_iff.1 hf
  rw [List.findIdx?_eq_some_iff_getElem]
  refine ⟨hl, by rw [he]; exact hq, fun j hj => ?_⟩
  have := hno j (l[j]'(by omega)) hj (List.getElem?_eq_getElem (by omega))
  rw [this]; decide
theorem idx_none {α : Type} {l : List α} {q : α → Bool} (hno : ∀ (j : Nat) (g : α), l[j]? = some g → q g = false) : l.findIdx? q = none := by
  rw [List.findIdx?_eq_none_iff]
  intro y hy
  obtain ⟨j, hj⟩ := List.getElem?_of_mem hy
  exact hno j y hj
/-- A service of the reference: its backends lie in a row that nobody turns. -/
structure SX where
  v : Value
  s : Sh
  bs : List Bk
abbrev SX.sb (x : SX) : Sb := ⟨x.s, x.bs⟩
def svs (l : List SX) : List Value := (l.map fun x => flat (shC x.s x.v)).flatten
theorem svC_len (x : SX) : (flat (shC x.s x.v)).length = 23 := by simp [flat_eq, x.s.ad.len, u8s_length]
theorem svs_len {l : List SX} : (svs l).length = l.length * 23 := rows_len svC_len
theorem svs_at {l : List SX} {i : Nat} {x : SX} (h : l[i]? = some x) : ((svs l).drop (i * 23)).take 23 = flat (shC x.s x.v) := rows_drop svC_len h
theorem svs_cell {l : List SX} {i : Nat} {x : SX} (h : l[i]? = some x) {o : Nat} (ho : o < 23) : (svs l)[i * 23 + o]? = (flat (shC x.s x.v))[o]? := by
  rw [← svs_at h, List.getElem?_take_of_lt ho, List.getElem?_drop]
theorem svs_app {l k : List SX} : svs (l ++ k) = svs l ++ svs k := by unfold svs; rw [List.map_append, List.flatten_append]
theorem svs_one {x : SX} : svs [x] = flat (shC x.s x.v) := by unfold svs; rw [List.map_singleton]; simp
abbrev rfc (vL : Value) : Ch := [(1, [vL])]
def atR (L : List SX) (id : Int) : Option Nat := L.findIdx? fun x => decide (x.s.id = id)
def hasI (l : List Bk) (id : Int) : Option Nat := l.findIdx? fun b => decide (b.id = id)
def brow (p : Value × List Bk) : List Asn := [rowN 36 21 p.1 p.2.length (bks p.2)]
open Go.RowKit
set_option linter.unusedSimpArgs false
set_option linter.unusedVariables false
set_option maxRecDepth 20000
set_option maxHeartbeats 4000000
attribute [local irreducible] WPc WPl WPq ReadR OpT BinR HasS bx rdN rowN Take Takes Prov Triple ResF BuildP Done ag Int.decLt Int.decLe Int.instDecidableEq
instance svElt : EltN Try.prog 33 23 := ⟨by kernel_rfl⟩
theorem zeros_iff {l : List UInt8} {n : Nat} (h : n ≤ l.length) : seg l 0 n = List.replicate n 0 ↔ ∀ j, j < n → l.getD j 0 = 0 := by
  unfold seg
  rw [List.drop_zero, List.eq_replicate_iff]
  constructor
  · rintro ⟨-, h2⟩ j hj
    have : l.getD j 0 = (l.take n).getD j 0 := by simp [List.getD_eq_getElem?_getD, List.getElem?_take, hj]
    rw [this, List.getD_eq_getElem?_getD, List.getElem?_eq_getElem (by simp; omega)]
    exact h2 _ (List.getElem_mem _)
  · intro h2
    refine ⟨by simp; omega, fun b hb => ?_⟩
    obtain ⟨j, hj, rfl⟩ := List.mem_iff_getElem.1 hb
    have hj' : j < n := by simp at hj; omega
    have := h2 j hj'
    rw [List.getElem_take]
    rw [List.getD_eq_getElem?_getD, List.getElem?_eq_getElem (by omega)] at this
    exact this
theorem toNat_zero {b : UInt8} : ((b.toNat : Nat) : Int) = 0 ↔ b = 0 := by
  constructor
  · intro h; apply UInt8.toNat_inj.1; simpa using h
  · rintro rfl; rfl
theorem rgood_t (a : Adr) : Triple Try.prog 64 #[ag (adc a)] [] (RVal (.bool a.good)) := by
  have hlen := a.len
  refine Triple.enter Try.func64 rfl Try.ntmps64 rfl (fun W => ?_)
  dsimp only [argsF, Nat.reduceAdd]
  repeat' (first
   | refine WPl.nil ?_ | refine WPq.then ?_ | refine WPq.thenR ?_ | refine WPq.thenE ?_ | refine WPq.blockN ?_ | refine WPq.blockR ?_ | refine WPq.blockE ?_ | refine WPq.blockO rfl ?_ | refine WPc.seq ?_ | refine WPc.block ?_ | refine WPc.ret ?_ | refine WPc.exit ?_ | refine WPc.skip ?_ | refine WPc.region ?_
   | (refine isCond ?_; first | refine WPc.cT ?_ | refine WPc.cF ?_)
   | (refine isOp ?_; first | refine WPl.rd ?_ | refine WPl.sk ?_ | refine WPl.rdB ?_)
   | (refine isBx ?_; refine WPl.nw fun g => ?_)
   | (show WPl _ _ _ _ _ _ _ (⟨_, .indexAddr _ _ _, _, _, _, _⟩ :: _) _; refine WPl.rdX (ReadR.indexE rfl rfl hasA (by first | assumption | omega)) ?_)
   | (show WPl _ _ _ _ _ _ _ (⟨_, .fieldAddr _ _ _, _, _, _, _⟩ :: _) _; refine WPl.rdX (ReadR.fieldE rfl hasA (by first | assumption | omega)) ?_)
   | (show WPl _ _ _ _ _ _ _ (⟨_, .load _ _, _, _, _, _⟩ :: _) _; first | refine WPl.rdX (ReadR.loadE rfl hasA (by assumption)) ?_ | refine WPl.rdX (ReadR.loadES (by assumption) (by first | assumption | omega) rfl hasA) ?_)
   | (show WPl _ _ _ _ _ _ _ (⟨_, .slice _ _ _ _ _, _, _, _, _⟩ :: _) _; first | refine WPl.rdX (ReadR.sliceH rfl rfl hasA (by omega)) ?_ | refine WPl.rdX (ReadR.sliceL rfl rfl hasA (by omega)) ?_ | refine WPl.rdX (ReadR.sliceLH rfl rfl rfl hasA (by omega) (by omega)) ?_)
   | fail)
  first | refine WPc.loop (σ := Nat) (fun i => i ≤ 12 ∧ (a.six = true ∨ ∀ j, j < i → a.b.getD j 0 = 0)) (fun i => [bx g 30 (adc a)]) (fun i => [(1, .pointer (some ⟨g, 0, none⟩)), (3, .int .i64 i)]) (fun i => 12 - i) (0) ?_ takesA frsA (fun st km hx hk => ?_)
  · exact ⟨Nat.zero_le _, .inr fun j hj => by omega⟩
  obtain ⟨i, rfl⟩ : ∃ i, i = st := ⟨_, rfl⟩
  obtain ⟨hi, hz⟩ := hx
  by_cases hlt : i < 12
  · cases h6 : a.six with
    | true =>
      repeat' (first
       | refine WPl.nil ?_ | refine WPq.then ?_ | refine WPq.thenR ?_ | refine WPq.thenE ?_ | refine WPq.blockN ?_ | refine WPq.blockR ?_ | refine WPq.blockE ?_ | refine WPq.blockO rfl ?_ | refine WPc.seq ?_ | refine WPc.block ?_ | refine WPc.ret ?_ | refine WPc.exit ?_ | refine WPc.skip ?_ | refine WPc.region ?_
       | (refine isCond ?_; first | refine WPc.cT ?_ | refine WPc.cF ?_ | (refine WPc.cQ (fun hc => ?_) (fun hc => ?_) <;> try exact prA))
       | (refine isOp ?_; first | refine WPl.rd ?_ | refine WPl.sk ?_ | refine WPl.rdB ?_)
       | (refine isBx ?_; refine WPl.nw fun g => ?_)
       | (show WPl _ _ _ _ _ _ _ (⟨_, .indexAddr _ _ _, _, _, _, _⟩ :: _) _; refine WPl.rdX (ReadR.indexE rfl rfl hasA (by first | assumption | omega)) ?_)
       | (show WPl _ _ _ _ _ _ _ (⟨_, .fieldAddr _ _ _, _, _, _, _⟩ :: _) _; refine WPl.rdX (ReadR.fieldE rfl hasA (by first | assumption | omega)) ?_)
       | (show WPl _ _ _ _ _ _ _ (⟨_, .load _ _, _, _, _, _⟩ :: _) _; first | refine WPl.rdX (ReadR.loadE rfl hasA (by assumption)) ?_ | refine WPl.rdX (ReadR.loadES (by assumption) (by first | assumption | omega) rfl hasA) ?_)
       | (show WPl _ _ _ _ _ _ _ (⟨_, .slice _ _ _ _ _, _, _, _, _⟩ :: _) _; first | refine WPl.rdX (ReadR.sliceH rfl rfl hasA (by omega)) ?_ | refine WPl.rdX (ReadR.sliceL rfl rfl hasA (by omega)) ?_ | refine WPl.rdX (ReadR.sliceLH rfl rfl rfl hasA (by omega) (by omega)) ?_)
       | (refine WPl.spQ (fun hc => ?_) (fun hc => ?_) <;> try exact prA)
       | fail)
      exact WPq.rnd (i + 1) ⟨by omega, .inl rfl⟩ (by omega)
    | false =>
      rw [h6] at hz
      have hz : ∀ j, j < i → a.b.getD j 0 = 0 := by simpa using hz
      repeat' (first
       | refine WPl.nil ?_ | refine WPq.then ?_ | refine WPq.thenR ?_ | refine WPq.thenE ?_ | refine WPq.blockN ?_ | refine WPq.blockR ?_ | refine WPq.blockE ?_ | refine WPq.blockO rfl ?_ | refine WPc.seq ?_ | refine WPc.block ?_ | refine WPc.ret ?_ | refine WPc.exit ?_ | refine WPc.skip ?_ | refine WPc.region ?_
       | (refine isCond ?_; first | refine WPc.cT ?_ | refine WPc.cF ?_ | (refine WPc.cQ (fun hc => ?_) (fun hc => ?_) <;> try exact prA))
       | (refine isOp ?_; first | refine WPl.rd ?_ | refine WPl.sk ?_ | refine WPl.rdB ?_)
       | (refine isBx ?_; refine WPl.nw fun g => ?_)
       | (show WPl _ _ _ _ _ _ _ (⟨_, .indexAddr _ _ _, _, _, _, _⟩ :: _) _; refine WPl.rdX (ReadR.indexE rfl rfl hasA (by first | assumption | omega)) ?_)
       | (show WPl _ _ _ _ _ _ _ (⟨_, .fieldAddr _ _ _, _, _, _, _⟩ :: _) _; refine WPl.rdX (ReadR.fieldE rfl hasA (by first | assumption | omega)) ?_)
       | (show WPl _ _ _ _ _ _ _ (⟨_, .load _ _, _, _, _, _⟩ :: _) _; first | refine WPl.rdX (ReadR.loadE rfl hasA (by assumption)) ?_ | refine WPl.rdX (ReadR.loadES (by assumption) (by first | assumption | omega) rfl hasA) ?_)
       | (show WPl _ _ _ _ _ _ _ (⟨_, .slice _ _ _ _ _, _, _, _, _⟩ :: _) _; first | refine WPl.rdX (ReadR.sliceH rfl rfl hasA (by omega)) ?_ | refine WPl.rdX (ReadR.sliceL rfl rfl hasA (by omega)) ?_ | refine WPl.rdX (ReadR.sliceLH rfl rfl rfl hasA (by omega) (by omega)) ?_)
       | (refine WPl.spQ (fun hc => ?_) (fun hc => ?_) <;> try exact prA)
       | fail)
      · exact WPq.dV (hc := by
          have : ¬ a.good = true := fun hg => by
            simp only [Adr.good, h6, Bool.false_or, decide_eq_true_eq] at hg
            exact hc (toNat_zero.2 ((zeros_iff (by omega)).1 hg i hlt))
          simp [resV, this])
      · exact WPq.rnd (i + 1) ⟨by omega, .inr fun j hj => by
          by_cases e : j = i
          · subst e; exact toNat_zero.1 (by simpa using hc)
          · exact hz j (by omega)⟩ (by omega)
  · skip
    repeat' (first
     | refine WPl.nil ?_ | refine WPq.then ?_ | refine WPq.thenR ?_ | refine WPq.thenE ?_ | refine WPq.blockN ?_ | refine WPq.blockR ?_ | refine WPq.blockE ?_ | refine WPq.blockO rfl ?_ | refine WPc.seq ?_ | refine WPc.block ?_ | refine WPc.ret ?_ | refine WPc.exit ?_ | refine WPc.skip ?_ | refine WPc.region ?_
     | (refine isCond ?_; first | refine WPc.cT ?_ | refine WPc.cF ?_ | (refine WPc.cQ (fun hc => ?_) (fun hc => ?_) <;> try exact prA))
     | (refine isOp ?_; first | refine WPl.rd ?_ | refine WPl.sk ?_ | refine WPl.rdB ?_)
     | (refine isBx ?_; refine WPl.nw fun g => ?_)
     | (show WPl _ _ _ _ _ _ _ (⟨_, .indexAddr _ _ _, _, _, _, _⟩ :: _) _; refine WPl.rdX (ReadR.indexE rfl rfl hasA (by first | assumption | omega)) ?_)
     | (show WPl _ _ _ _ _ _ _ (⟨_, .fieldAddr _ _ _, _, _, _, _⟩ :: _) _; refine WPl.rdX (ReadR.fieldE rfl hasA (by first | assumption | omega)) ?_)
     | (show WPl _ _ _ _ _ _ _ (⟨_, .load _ _, _, _, _, _⟩ :: _) _; first | refine WPl.rdX (ReadR.loadE rfl hasA (by assumption)) ?_ | refine WPl.rdX (ReadR.loadES (by assumption) (by first | assumption | omega) rfl hasA) ?_)
     | (show WPl _ _ _ _ _ _ _ (⟨_, .slice _ _ _ _ _, _, _, _, _⟩ :: _) _; first | refine WPl.rdX (ReadR.sliceH rfl rfl hasA (by omega)) ?_ | refine WPl.rdX (ReadR.sliceL rfl rfl hasA (by omega)) ?_ | refine WPl.rdX (ReadR.sliceLH rfl rfl rfl hasA (by omega) (by omega)) ?_)
     | (refine WPl.spQ (fun hc => ?_) (fun hc => ?_) <;> try exact prA)
     | fail)
    exact WPq.dV (hc := by
      have : a.good = true := by
        rcases hz with h6 | hz
        · simp [Adr.good, h6]
        · simp only [Adr.good, Bool.or_eq_true, decide_eq_true_eq]
          exact .inr ((zeros_iff (by omega)).2 fun j hj => hz j (by omega))
      simp [resV, this])

attribute [local irreducible] mp rmp rg rgo mput mget mfind mdel gbag bks ies svs
theorem rmay_t (s : Sh) (vb : Value) (l : List Bk) (hv : vb.oneCell' = true) : Triple Try.prog 58 #[ag (shC s vb)] [rdN vb l.length (bks l)] (RVal (.bool (mayS s l.length))) := by
  have hfx := shC_ok (s := s) hv
  have c18 := rgood_t s.ad
  have hal := s.ad.len
  refine Triple.enter Try.func58 rfl Try.ntmps58 rfl (fun W => ?_)
  dsimp only [argsF, Nat.reduceAdd]
  repeat' (first
   | refine WPl.nil ?_ | refine WPq.then ?_ | refine WPq.thenR ?_ | refine WPq.thenE ?_ | refine WPq.blockN ?_ | refine WPq.blockR ?_ | refine WPq.blockE ?_ | refine WPq.blockO rfl ?_ | refine WPc.seq ?_ | refine WPc.block ?_ | refine WPc.ret ?_ | refine WPc.exit ?_ | refine WPc.skip ?_ | refine WPc.region ?_
   | (refine isCond ?_; first | refine WPc.cT ?_ | refine WPc.cF ?_ | (refine WPc.cQ (fun hc => ?_) (fun hc => ?_) <;> try exact prA))
   | (refine isD 1 ?_; refine WPl.boxC (shC s vb) hfx rfl (fun g1 => ?_))
   | (refine isC 18 ?_; refine WPl.cV (c18) ?_)
   | (refine isOp ?_; first | refine WPl.rd ?_ | refine WPl.sk ?_ | refine WPl.rdB ?_)
   | (refine isBx ?_; refine WPl.nw fun g => ?_)
   | (show WPl _ _ _ _ _ _ _ (⟨_, .indexAddr _ _ _, _, _, _, _⟩ :: _) _; refine WPl.rdX (ReadR.indexE rfl rfl hasA (by first | assumption | omega)) ?_)
   | (show WPl _ _ _ _ _ _ _ (⟨_, .fieldAddr _ _ _, _, _, _, _⟩ :: _) _; refine WPl.rdX (ReadR.fieldE rfl hasA (by first | assumption | omega)) ?_)
   | (show WPl _ _ _ _ _ _ _ (⟨_, .load _ _, _, _, _, _⟩ :: _) _; first | refine WPl.rdX (ReadR.loadE rfl hasA (by assumption)) ?_ | refine WPl.rdX (ReadR.loadES (by assumption) (by first | assumption | omega) rfl hasA) ?_)
   | (show WPl _ _ _ _ _ _ _ (⟨_, .slice _ _ _ _ _, _, _, _, _⟩ :: _) _; first | refine WPl.rdX (ReadR.sliceH rfl rfl hasA (by omega)) ?_ | refine WPl.rdX (ReadR.sliceL rfl rfl hasA (by omega)) ?_ | refine WPl.rdX (ReadR.sliceLH rfl rfl rfl hasA (by omega) (by omega)) ?_)
   | (refine WPl.spQ (fun hc => ?_) (fun hc => ?_) <;> try exact prA)
   | fail)
  all_goals exact WPq.dV (hc := by simp [resV, mayS, protoS, bitsS, *] <;> (intros; omega))
theorem rcan_t (s : Sh) (vb : Value) (hv : vb.oneCell' = true) (c : Bk) : Triple Try.prog 57 #[ag (shC s vb), ag (bkC c)] [] (RVal (.bool (canB s c))) := by
  have hfx := shC_ok (s := s) hv
  have hfy := bkC_ok c
  have c16 := rgood_t c.ad
  have hal := s.ad.len
  have hbl := c.ad.len
  refine Triple.enter Try.func57 rfl Try.ntmps57 rfl (fun W => ?_)
  dsimp only [argsF, Nat.reduceAdd]
  repeat' (first
   | refine WPl.nil ?_ | refine WPq.then ?_ | refine WPq.thenR ?_ | refine WPq.thenE ?_ | refine WPq.blockN ?_ | refine WPq.blockR ?_ | refine WPq.blockE ?_ | refine WPq.blockO rfl ?_ | refine WPc.seq ?_ | refine WPc.block ?_ | refine WPc.ret ?_ | refine WPc.exit ?_ | refine WPc.skip ?_ | refine WPc.region ?_
   | (refine isCond ?_; first | refine WPc.cT ?_ | refine WPc.cF ?_ | (refine WPc.cQ (fun hc => ?_) (fun hc => ?_) <;> try exact prA))
   | (refine isD 2 ?_; refine WPl.boxC (shC s vb) hfx rfl (fun g2 => ?_))
   | (refine isD 3 ?_; refine WPl.boxC (bkC c) hfy rfl (fun g3 => ?_))
   | (refine isC 16 ?_; refine WPl.cV (c16) ?_)
   | (refine isOp ?_; first | refine WPl.rd ?_ | refine WPl.sk ?_ | refine WPl.rdB ?_)
   | (refine isBx ?_; refine WPl.nw fun g => ?_)
   | (show WPl _ _ _ _ _ _ _ (⟨_, .indexAddr _ _ _, _, _, _, _⟩ :: _) _; refine WPl.rdX (ReadR.indexE rfl rfl hasA (by first | assumption | omega)) ?_)
   | (show WPl _ _ _ _ _ _ _ (⟨_, .fieldAddr _ _ _, _, _, _, _⟩ :: _) _; refine WPl.rdX (ReadR.fieldE rfl hasA (by first | assumption | omega)) ?_)
   | (show WPl _ _ _ _ _ _ _ (⟨_, .load _ _, _, _, _, _⟩ :: _) _; first | refine WPl.rdX (ReadR.loadE rfl hasA (by assumption)) ?_ | refine WPl.rdX (ReadR.loadES (by assumption) (by first | assumption | omega) rfl hasA) ?_)
   | (show WPl _ _ _ _ _ _ _ (⟨_, .slice _ _ _ _ _, _, _, _, _⟩ :: _) _; first | refine WPl.rdX (ReadR.sliceH rfl rfl hasA (by omega)) ?_ | refine WPl.rdX (ReadR.sliceL rfl rfl hasA (by omega)) ?_ | refine WPl.rdX (ReadR.sliceLH rfl rfl rfl hasA (by omega) (by omega)) ?_)
   | (refine WPl.spQ (fun hc => ?_) (fun hc => ?_) <;> try exact prA)
   | fail)
  all_goals refine WPq.dV (hc := ?_)
  all_goals simp_all [resV, canB]
  all_goals (try (intros; omega))
section
variable (gX : Nat) (vL : Value) (L : List SX) (hm : L.length ≤ 1000)
include hm
theorem rat20_t (id : Int) : Triple Try.prog 40 #[hF gX, .int .i64 id] [rbx gX 49 (rfc vL), rdN vL L.length (svs L)] (RVal (.int .i64 (oint (atR L id)))) := by
  have hL := svs_len (l := L)
  refine Triple.enter Try.func40 rfl Try.ntmps40 rfl (fun W => ?_)
  dsimp only [argsF, Nat.reduceAdd]
  repeat' (first
   | refine WPl.nil ?_ | refine WPq.then ?_ | refine WPq.thenR ?_ | refine WPq.thenE ?_ | refine WPq.blockN ?_ | refine WPq.blockR ?_ | refine WPq.blockE ?_ | refine WPq.blockO rfl ?_ | refine WPc.seq ?_ | refine WPc.block ?_ | refine WPc.ret ?_ | refine WPc.exit ?_ | refine WPc.skip ?_ | refine WPc.region ?_
   | (refine isCond ?_; first | refine WPc.cT ?_ | refine WPc.cF ?_ | (refine WPc.cQ (fun hc => ?_) (fun hc => ?_) <;> try exact prA))
   | (refine isOp ?_; first | refine WPl.rd ?_ | refine WPl.sk ?_ | refine WPl.rdB ?_)
   | (show WPl _ _ _ _ _ _ _ (⟨_, .indexAddr _ _ _, _, _, _, _⟩ :: _) _; refine WPl.rdX (ReadR.indexE rfl rfl hasA (by first | assumption | omega)) ?_)
   | (show WPl _ _ _ _ _ _ _ (⟨_, .fieldAddr _ _ _, _, _, _, _⟩ :: _) _; refine WPl.rdX (ReadR.fieldE rfl hasA (by first | assumption | omega)) ?_)
   | (show WPl _ _ _ _ _ _ _ (⟨_, .load _ _, _, _, _, _⟩ :: _) _; first | refine WPl.rdX (ReadR.loadE rfl hasA (by assumption)) ?_ | refine WPl.rdX (ReadR.loadES (by assumption) (by first | assumption | omega) rfl hasA) ?_)
   | (show WPl _ _ _ _ _ _ _ (⟨_, .slice _ _ _ _ _, _, _, _, _⟩ :: _) _; first | refine WPl.rdX (ReadR.sliceH rfl rfl hasA (by omega)) ?_ | refine WPl.rdX (ReadR.sliceL rfl rfl hasA (by omega)) ?_ | refine WPl.rdX (ReadR.sliceLH rfl rfl rfl hasA (by omega) (by omega)) ?_)
   | (refine WPl.spQ (fun hc => ?_) (fun hc => ?_) <;> try exact prA)
   | fail)
  first | refine WPc.loop (σ := Nat) (fun st => st ≤ L.length ∧ ∀ j f, j < st → L[j]? = some f → decide (f.s.id = id) = false) (fun st => [rbx gX 49 (rfc vL), rdN vL L.length (svs L)]) (fun st => [(0, hF gX), (1, .int .i64 id), (5, .int .i64 (st : Int))]) (fun st => L.length - st) (0) ?_ takesA frsA (fun st km hx hk => ?_)
  · exact ⟨Nat.zero_le _, fun j f hj => absurd hj (Nat.not_lt_zero _)⟩
  obtain ⟨i, rfl⟩ : ∃ i, i = st := ⟨_, rfl⟩
  obtain ⟨hi, hno⟩ := hx
  have hkm : km = L.length - i := hk
  clear hk
  by_cases hlt : i < L.length
  · obtain ⟨f, hf⟩ : ∃ f, L[i]? = some f := ⟨_, List.getElem?_eq_getElem hlt⟩
    have c0 : (svs L)[i * 23 + 0]? = some (.int .i64 f.s.id) := svs_cell hf (by omega)
    by_cases hn : f.s.id = id
    · have hat : atR L id = some i := idx_some hf (decide_eq_true hn) hno
      rw [hat]
      repeat' (first
       | refine WPl.nil ?_ | refine WPq.then ?_ | refine WPq.thenR ?_ | refine WPq.thenE ?_ | refine WPq.blockN ?_ | refine WPq.blockR ?_ | refine WPq.blockE ?_ | refine WPq.blockO rfl ?_ | refine WPc.seq ?_ | refine WPc.block ?_ | refine WPc.ret ?_ | refine WPc.exit ?_ | refine WPc.skip ?_ | refine WPc.region ?_
       | (refine isCond ?_; first | refine WPc.cT ?_ | refine WPc.cF ?_ | (refine WPc.cQ (fun hc => ?_) (fun hc => ?_) <;> try first | exact prA | (exfalso; first | omega)))
       | (refine isD 10 ?_; refine WPl.rdX (ReadR.loadO memA rfl rfl) ?_)
       | (refine isD 18 ?_; refine WPl.rdX (ReadR.loadO memA rfl rfl) ?_)
       | (refine isD 20 ?_; refine WPl.rdX (ReadR.indexE (i := i) rfl rfl hasA hlt) ?_)
       | (refine isD 21 ?_; refine WPl.rdX (ReadR.fieldE rfl hasA (by omega)) ?_)
       | (refine isD 22 ?_; refine WPl.rdX (ReadR.loadE rfl hasA c0) ?_)
       | (refine isD 24 ?_; refine WPl.rdX (ReadR.binE rfl rfl BinR.eql (congrArg Value.bool (decide_eq_true hn))) ?_)
       | (refine isOp ?_; first | refine WPl.rd ?_ | refine WPl.sk ?_ | refine WPl.rdB ?_)
       | (show WPl _ _ _ _ _ _ _ (⟨_, .indexAddr _ _ _, _, _, _, _⟩ :: _) _; refine WPl.rdX (ReadR.indexE rfl rfl hasA (by first | assumption | omega)) ?_)
       | (show WPl _ _ _ _ _ _ _ (⟨_, .fieldAddr _ _ _, _, _, _, _⟩ :: _) _; refine WPl.rdX (ReadR.fieldE rfl hasA (by first | assumption | omega)) ?_)
       | (show WPl _ _ _ _ _ _ _ (⟨_, .load _ _, _, _, _, _⟩ :: _) _; first | refine WPl.rdX (ReadR.loadE rfl hasA (by assumption)) ?_ | refine WPl.rdX (ReadR.loadES (by assumption) (by first | assumption | omega) rfl hasA) ?_)
       | (show WPl _ _ _ _ _ _ _ (⟨_, .slice _ _ _ _ _, _, _, _, _⟩ :: _) _; first | refine WPl.rdX (ReadR.sliceH rfl rfl hasA (by omega)) ?_ | refine WPl.rdX (ReadR.sliceL rfl rfl hasA (by omega)) ?_ | refine WPl.rdX (ReadR.sliceLH rfl rfl rfl hasA (by omega) (by omega)) ?_)
       | (refine WPl.spQ (fun hc => ?_) (fun hc => ?_) <;> try first | exact prA | (exfalso; first | omega))
       | fail)
      exact WPq.dV
    · skip
      repeat' (first
       | refine WPl.nil ?_ | refine WPq.then ?_ | refine WPq.thenR ?_ | refine WPq.thenE ?_ | refine WPq.blockN ?_ | refine WPq.blockR ?_ | refine WPq.blockE ?_ | refine WPq.blockO rfl ?_ | refine WPc.seq ?_ | refine WPc.block ?_ | refine WPc.ret ?_ | refine WPc.exit ?_ | refine WPc.skip ?_ | refine WPc.region ?_
       | (refine isCond ?_; first | refine WPc.cT ?_ | refine WPc.cF ?_ | (refine WPc.cQ (fun hc => ?_) (fun hc => ?_) <;> try first | exact prA | (exfalso; first | omega)))
       | (refine isD 10 ?_; refine WPl.rdX (ReadR.loadO memA rfl rfl) ?_)
       | (refine isD 18 ?_; refine WPl.rdX (ReadR.loadO memA rfl rfl) ?_)
       | (refine isD 20 ?_; refine WPl.rdX (ReadR.indexE (i := i) rfl rfl hasA hlt) ?_)
       | (refine isD 21 ?_; refine WPl.rdX (ReadR.fieldE rfl hasA (by omega)) ?_)
       | (refine isD 22 ?_; refine WPl.rdX (ReadR.loadE rfl hasA c0) ?_)
       | (refine isD 24 ?_; refine WPl.rdX (ReadR.binE rfl rfl BinR.eql (congrArg Value.bool (decide_eq_false hn))) ?_)
       | (refine isOp ?_; first | refine WPl.rd ?_ | refine WPl.sk ?_ | refine WPl.rdB ?_)
       | (show WPl _ _ _ _ _ _ _ (⟨_, .indexAddr _ _ _, _, _, _, _⟩ :: _) _; refine WPl.rdX (ReadR.indexE rfl rfl hasA (by first | assumption | omega)) ?_)
       | (show WPl _ _ _ _ _ _ _ (⟨_, .fieldAddr _ _ _, _, _, _, _⟩ :: _) _; refine WPl.rdX (ReadR.fieldE rfl hasA (by first | assumption | omega)) ?_)
       | (show WPl _ _ _ _ _ _ _ (⟨_, .load _ _, _, _, _, _⟩ :: _) _; first | refine WPl.rdX (ReadR.loadE rfl hasA (by assumption)) ?_ | refine WPl.rdX (ReadR.loadES (by assumption) (by first | assumption | omega) rfl hasA) ?_)
       | (show WPl _ _ _ _ _ _ _ (⟨_, .slice _ _ _ _ _, _, _, _, _⟩ :: _) _; first | refine WPl.rdX (ReadR.sliceH rfl rfl hasA (by omega)) ?_ | refine WPl.rdX (ReadR.sliceL rfl rfl hasA (by omega)) ?_ | refine WPl.rdX (ReadR.sliceLH rfl rfl rfl hasA (by omega) (by omega)) ?_)
       | (refine WPl.spQ (fun hc => ?_) (fun hc => ?_) <;> try first | exact prA | (exfalso; first | omega))
       | fail)
      refine WPq.rnd (i + 1) ⟨hlt, fun j g hj hg => ?_⟩ (by omega)
      by_cases hji : j = i
      · subst hji; rw [hf] at hg; cases hg; exact decide_eq_false hn
      · exact hno j g (by omega) hg
  · have hat : atR L id = none := idx_none fun j g hg => hno j g (by have := (List.getElem?_eq_some_iff.1 hg).1; omega) hg
    rw [hat]
    repeat' (first
     | refine WPl.nil ?_ | refine WPq.then ?_ | refine WPq.thenR ?_ | refine WPq.thenE ?_ | refine WPq.blockN ?_ | refine WPq.blockR ?_ | refine WPq.blockE ?_ | refine WPq.blockO rfl ?_ | refine WPc.seq ?_ | refine WPc.block ?_ | refine WPc.ret ?_ | refine WPc.exit ?_ | refine WPc.skip ?_ | refine WPc.region ?_
     | (refine isCond ?_; first | refine WPc.cT ?_ | refine WPc.cF ?_ | (refine WPc.cQ (fun hc => ?_) (fun hc => ?_) <;> try first | exact prA | (exfalso; first | omega)))
     | (refine isD 10 ?_; refine WPl.rdX (ReadR.loadO memA rfl rfl) ?_)
     | (refine isOp ?_; first | refine WPl.rd ?_ | refine WPl.sk ?_ | refine WPl.rdB ?_)
     | (show WPl _ _ _ _ _ _ _ (⟨_, .indexAddr _ _ _, _, _, _, _⟩ :: _) _; refine WPl.rdX (ReadR.indexE rfl rfl hasA (by first | assumption | omega)) ?_)
     | (show WPl _ _ _ _ _ _ _ (⟨_, .fieldAddr _ _ _, _, _, _, _⟩ :: _) _; refine WPl.rdX (ReadR.fieldE rfl hasA (by first | assumption | omega)) ?_)
     | (show WPl _ _ _ _ _ _ _ (⟨_, .load _ _, _, _, _, _⟩ :: _) _; first | refine WPl.rdX (ReadR.loadE rfl hasA (by assumption)) ?_ | refine WPl.rdX (ReadR.loadES (by assumption) (by first | assumption | omega) rfl hasA) ?_)
     | (show WPl _ _ _ _ _ _ _ (⟨_, .slice _ _ _ _ _, _, _, _, _⟩ :: _) _; first | refine WPl.rdX (ReadR.sliceH rfl rfl hasA (by omega)) ?_ | refine WPl.rdX (ReadR.sliceL rfl rfl hasA (by omega)) ?_ | refine WPl.rdX (ReadR.sliceLH rfl rfl rfl hasA (by omega) (by omega)) ?_)
     | (refine WPl.spQ (fun hc => ?_) (fun hc => ?_) <;> try first | exact prA | (exfalso; first | omega))
     | fail)
    exact WPq.dV
end
theorem rhas_t (s : Sh) (vb : Value) (hv : vb.oneCell' = true) (l : List Bk) (hm : l.length ≤ 1000) (id : Int) : Triple Try.prog 41 #[ag (shC s vb), .int .i64 id] [rdN vb l.length (bks l)] (RVal (.int .i64 (oint (hasI l id)))) := by
  have hfx := shC_ok (s := s) hv
  have hal := s.ad.len
  have hL := bks_len (l := l)
  refine Triple.enter Try.func41 rfl Try.ntmps41 rfl (fun W => ?_)
  dsimp only [argsF, Nat.reduceAdd]
  repeat' (first
   | refine WPl.nil ?_ | refine WPq.then ?_ | refine WPq.thenR ?_ | refine WPq.thenE ?_ | refine WPq.blockN ?_ | refine WPq.blockR ?_ | refine WPq.blockE ?_ | refine WPq.blockO rfl ?_ | refine WPc.seq ?_ | refine WPc.block ?_ | refine WPc.ret ?_ | refine WPc.exit ?_ | refine WPc.skip ?_ | refine WPc.region ?_
   | (refine isCond ?_; first | refine WPc.cT ?_ | refine WPc.cF ?_ | (refine WPc.cQ (fun hc => ?_) (fun hc => ?_) <;> try exact prA))
   | (refine isD 2 ?_; refine WPl.boxC (shC s vb) hfx rfl (fun g2 => ?_))
   | (refine isOp ?_; first | refine WPl.rd ?_ | refine WPl.sk ?_ | refine WPl.rdB ?_)
   | (refine isBx ?_; refine WPl.nw fun g => ?_)
   | (show WPl _ _ _ _ _ _ _ (⟨_, .indexAddr _ _ _, _, _, _, _⟩ :: _) _; refine WPl.rdX (ReadR.indexE rfl rfl hasA (by first | assumption | omega)) ?_)
   | (show WPl _ _ _ _ _ _ _ (⟨_, .fieldAddr _ _ _, _, _, _, _⟩ :: _) _; refine WPl.rdX (ReadR.fieldE rfl hasA (by first | assumption | omega)) ?_)
   | (show WPl _ _ _ _ _ _ _ (⟨_, .load _ _, _, _, _, _⟩ :: _) _; first | refine WPl.rdX (ReadR.loadE rfl hasA (by assumption)) ?_ | refine WPl.rdX (ReadR.loadES (by assumption) (by first | assumption | omega) rfl hasA) ?_)
   | (show WPl _ _ _ _ _ _ _ (⟨_, .slice _ _ _ _ _, _, _, _, _⟩ :: _) _; first | refine WPl.rdX (ReadR.sliceH rfl rfl hasA (by omega)) ?_ | refine WPl.rdX (ReadR.sliceL rfl rfl hasA (by omega)) ?_ | refine WPl.rdX (ReadR.sliceLH rfl rfl rfl hasA (by omega) (by omega)) ?_)
   | (refine WPl.spQ (fun hc => ?_) (fun hc => ?_) <;> try exact prA)
   | fail)
  first | refine WPc.loop (σ := Nat) (fun st => st ≤ l.length ∧ ∀ j f, j < st → l[j]? = some f → decide (f.id = id) = false) (fun st => [bx g 33 (shC s vb), rdN vb l.length (bks l)]) (fun st => [(2, hF g), (1, .int .i64 id), (5, .int .i64 (st : Int))]) (fun st => l.length - st) (0) ?_ takesA frsA (fun st km hx hk => ?_)
  · exact ⟨Nat.zero_le _, fun j f hj => absurd hj (Nat.not_lt_zero _)⟩
  obtain ⟨i, rfl⟩ : ∃ i, i = st := ⟨_, rfl⟩
  obtain ⟨hi, hno⟩ := hx
  have hkm : km = l.length - i := hk
  clear hk
  by_cases hlt : i < l.length
  · obtain ⟨f, hf⟩ : ∃ f, l[i]? = some f := ⟨_, List.getElem?_eq_getElem hlt⟩
    have c0 : (bks l)[i * 21 + 0]? = some (.int .i64 f.id) := bks_cell hf (by omega)
    by_cases hn : f.id = id
    · have hat : hasI l id = some i := idx_some hf (decide_eq_true hn) hno
      rw [hat]
      repeat' (first
       | refine WPl.nil ?_ | refine WPq.then ?_ | refine WPq.thenR ?_ | refine WPq.thenE ?_ | refine WPq.blockN ?_ | refine WPq.blockR ?_ | refine WPq.blockE ?_ | refine WPq.blockO rfl ?_ | refine WPc.seq ?_ | refine WPc.block ?_ | refine WPc.ret ?_ | refine WPc.exit ?_ | refine WPc.skip ?_ | refine WPc.region ?_
       | (refine isCond ?_; first | refine WPc.cT ?_ | refine WPc.cF ?_ | (refine WPc.cQ (fun hc => ?_) (fun hc => ?_) <;> try first | exact prA | (exfalso; first | omega)))
       | (refine isD 16 ?_; refine WPl.rdX (ReadR.indexE (i := i) rfl rfl hasA hlt) ?_)
       | (refine isD 17 ?_; refine WPl.rdX (ReadR.fieldE rfl hasA (by omega)) ?_)
       | (refine isD 18 ?_; refine WPl.rdX (ReadR.loadE rfl hasA c0) ?_)
       | (refine isD 20 ?_; refine WPl.rdX (ReadR.binE rfl rfl BinR.eql (congrArg Value.bool (decide_eq_true hn))) ?_)
       | (refine isOp ?_; first | refine WPl.rd ?_ | refine WPl.sk ?_ | refine WPl.rdB ?_)
       | (refine isBx ?_; refine WPl.nw fun g => ?_)
       | (show WPl _ _ _ _ _ _ _ (⟨_, .indexAddr _ _ _, _, _, _, _⟩ :: _) _; refine WPl.rdX (ReadR.indexE rfl rfl hasA (by first | assumption | omega)) ?_)
       | (show WPl _ _ _ _ _ _ _ (⟨_, .fieldAddr _ _ _, _, _, _, _⟩ :: _) _; refine WPl.rdX (ReadR.fieldE rfl hasA (by first | assumption | omega)) ?_)
       | (show WPl _ _ _ _ _ _ _ (⟨_, .load _ _, _, _, _, _⟩ :: _) _; first | refine WPl.rdX (ReadR.loadE rfl hasA (by assumption)) ?_ | refine WPl.rdX (ReadR.loadES (by assumption) (by first | assumption | omega) rfl hasA) ?_)
       | (show WPl _ _ _ _ _ _ _ (⟨_, .slice _ _ _ _ _, _, _, _, _⟩ :: _) _; first | refine WPl.rdX (ReadR.sliceH rfl rfl hasA (by omega)) ?_ | refine WPl.rdX (ReadR.sliceL rfl rfl hasA (by omega)) ?_ | refine WPl.rdX (ReadR.sliceLH rfl rfl rfl hasA (by omega) (by omega)) ?_)
       | (refine WPl.spQ (fun hc => ?_) (fun hc => ?_) <;> try first | exact prA | (exfalso; first | omega))
       | fail)
      exact WPq.dV
    · skip
      repeat' (first
       | refine WPl.nil ?_ | refine WPq.then ?_ | refine WPq.thenR ?_ | refine WPq.thenE ?_ | refine WPq.blockN ?_ | refine WPq.blockR ?_ | refine WPq.blockE ?_ | refine WPq.blockO rfl ?_ | refine WPc.seq ?_ | refine WPc.block ?_ | refine WPc.ret ?_ | refine WPc.exit ?_ | refine WPc.skip ?_ | refine WPc.region ?_
       | (refine isCond ?_; first | refine WPc.cT ?_ | refine WPc.cF ?_ | (refine WPc.cQ (fun hc => ?_) (fun hc => ?_) <;> try first | exact prA | (exfalso; first | omega)))
       | (refine isD 16 ?_; refine WPl.rdX (ReadR.indexE (i := i) rfl rfl hasA hlt) ?_)
       | (refine isD 17 ?_; refine WPl.rdX (ReadR.fieldE rfl hasA (by omega)) ?_)
       | (refine isD 18 ?_; refine WPl.rdX (ReadR.loadE rfl hasA c0) ?_)
       | (refine isD 20 ?_; refine WPl.rdX (ReadR.binE rfl rfl BinR.eql (congrArg Value.bool (decide_eq_false hn))) ?_)
       | (refine isOp ?_; first | refine WPl.rd ?_ | refine WPl.sk ?_ | refine WPl.rdB ?_)
       | (refine isBx ?_; refine WPl.nw fun g => ?_)
       | (show WPl _ _ _ _ _ _ _ (⟨_, .indexAddr _ _ _, _, _, _, _⟩ :: _) _; refine WPl.rdX (ReadR.indexE rfl rfl hasA (by first | assumption | omega)) ?_)
       | (show WPl _ _ _ _ _ _ _ (⟨_, .fieldAddr _ _ _, _, _, _, _⟩ :: _) _; refine WPl.rdX (ReadR.fieldE rfl hasA (by first | assumption | omega)) ?_)
       | (show WPl _ _ _ _ _ _ _ (⟨_, .load _ _, _, _, _, _⟩ :: _) _; first | refine WPl.rdX (ReadR.loadE rfl hasA (by assumption)) ?_ | refine WPl.rdX (ReadR.loadES (by assumption) (by first | assumption | omega) rfl hasA) ?_)
       | (show WPl _ _ _ _ _ _ _ (⟨_, .slice _ _ _ _ _, _, _, _, _⟩ :: _) _; first | refine WPl.rdX (ReadR.sliceH rfl rfl hasA (by omega)) ?_ | refine WPl.rdX (ReadR.sliceL rfl rfl hasA (by omega)) ?_ | refine WPl.rdX (ReadR.sliceLH rfl rfl rfl hasA (by omega) (by omega)) ?_)
       | (refine WPl.spQ (fun hc => ?_) (fun hc => ?_) <;> try first | exact prA | (exfalso; first | omega))
       | fail)
      refine WPq.rnd (i + 1) ⟨hlt, fun j g hj hg => ?_⟩ (by omega)
      by_cases hji : j = i
      · subst hji; rw [hf] at hg; cases hg; exact decide_eq_false hn
      · exact hno j g (by omega) hg
  · have hat : hasI l id = none := idx_none fun j g hg => hno j g (by have := (List.getElem?_eq_some_iff.1 hg).1; omega) hg
    rw [hat]
    repeat' (first
     | refine WPl.nil ?_ | refine WPq.then ?_ | refine WPq.thenR ?_ | refine WPq.thenE ?_ | refine WPq.blockN ?_ | refine WPq.blockR ?_ | refine WPq.blockE ?_ | refine WPq.blockO rfl ?_ | refine WPc.seq ?_ | refine WPc.block ?_ | refine WPc.ret ?_ | refine WPc.exit ?_ | refine WPc.skip ?_ | refine WPc.region ?_
     | (refine isCond ?_; first | refine WPc.cT ?_ | refine WPc.cF ?_ | (refine WPc.cQ (fun hc => ?_) (fun hc => ?_) <;> try first | exact prA | (exfalso; first | omega)))
     | (refine isOp ?_; first | refine WPl.rd ?_ | refine WPl.sk ?_ | refine WPl.rdB ?_)
     | (refine isBx ?_; refine WPl.nw fun g => ?_)
     | (show WPl _ _ _ _ _ _ _ (⟨_, .indexAddr _ _ _, _, _, _, _⟩ :: _) _; refine WPl.rdX (ReadR.indexE rfl rfl hasA (by first | assumption | omega)) ?_)
     | (show WPl _ _ _ _ _ _ _ (⟨_, .fieldAddr _ _ _, _, _, _, _⟩ :: _) _; refine WPl.rdX (ReadR.fieldE rfl hasA (by first | assumption | omega)) ?_)
     | (show WPl _ _ _ _ _ _ _ (⟨_, .load _ _, _, _, _, _⟩ :: _) _; first | refine WPl.rdX (ReadR.loadE rfl hasA (by assumption)) ?_ | refine WPl.rdX (ReadR.loadES (by assumption) (by first | assumption | omega) rfl hasA) ?_)
     | (show WPl _ _ _ _ _ _ _ (⟨_, .slice _ _ _ _ _, _, _, _, _⟩ :: _) _; first | refine WPl.rdX (ReadR.sliceH rfl rfl hasA (by omega)) ?_ | refine WPl.rdX (ReadR.sliceL rfl rfl hasA (by omega)) ?_ | refine WPl.rdX (ReadR.sliceLH rfl rfl rfl hasA (by omega) (by omega)) ?_)
     | (refine WPl.spQ (fun hc => ?_) (fun hc => ?_) <;> try first | exact prA | (exfalso; first | omega))
     | fail)
    exact WPq.dV
end Go.Proofs.Ytpjfkomicehinaa
/- Layer 20: the reference: DropService. -/
namespace Go.Proofs.Ytpjfkomicehinaa
structure RG where
  vL : Value
  L : List SX
  B : List (Value × List Bk)
def RGok (K : RG) : Prop := ∀ x ∈ K.L, x.v.oneCell' = true ∧ (x.v, x.bs) ∈ K.B
abbrev RG.sb (K : RG) : List Sb := K.L.map SX.sb
theorem svs_sub {l : List SX} {k j : Nat} (h : k + j ≤ l.length) : ((svs l).drop (k * 23)).take (j * 23) = svs ((l.drop k).take j) := by unfold svs; exact rows_sub (c := fun x : SX => shC x.s x.v) svC_len l k j h
theorem svsT {D : List SX} {i : Nat} (h : i ≤ D.length) : ((svs D).drop (0 * 23)).take (i * 23) = svs (D.take i) := by
  have := svs_sub (l := D) (k := 0) (j := i) (by omega)
  rwa [List.drop_zero] at this
theorem svsD {D : List SX} {i k : Nat} (h : i + k = D.length) : ((svs D).drop (i * 23)).take (k * 23) = svs (D.drop i) := by
  have := svs_sub (l := D) (k := i) (j := k) (by omega)
  rwa [List.take_of_length_le (l := D.drop i) (by rw [List.length_drop]; omega)] at this
theorem svs_ones {D : List SX} (h : ∀ x ∈ D, x.v.oneCell' = true) : ∀ u ∈ svs D, u.oneCell' = true := fun u hu => by
  unfold svs at hu
  obtain ⟨L, hL, hu⟩ := List.mem_flatten.1 hu
  obtain ⟨c, hc, rfl⟩ := List.mem_map.1 hL
  exact (shC_ok (h c hc)).one u hu
theorem atR_findS {L : List SX} {id : Int} : (atR L id).isSome = (findS (L.map SX.sb) id).isSome := by
  unfold atR findS
  rw [List.findIdx?_isSome, List.find?_map, Option.isSome_map, Bool.eq_iff_iff, List.find?_isSome, List.any_eq_true]
  simp
theorem atR_some {L : List SX} {id : Int} {i : Nat} (h : atR L id = some i) : ∃ x, L[i]? = some x ∧ x.s.id = id := by
  unfold atR at h
  obtain ⟨hl, h1, _⟩ := List.findIdx?_eq_some_iff_getElem.1 h
  exact ⟨L[i], List.getElem?_eq_getElem hl, by simpa using h1⟩
theorem atR_find {L : List SX} {id : Int} {i : Nat} {x : SX} (h : atR L id = some i) (hx : L[i]? = some x) : findS (L.map SX.sb) id = some x.sb := by
  unfold findS
  unfold atR at h
  rw [List.find?_map]
  have : L.find? ((fun x : Sb => decide (x.s.id = id)) ∘ SX.sb) = some x := by
    rw [← hx, List.findIdx?_eq_some_iff_getElem] at *
    obtain ⟨hl, h1, h2⟩ := h
    rw [List.getElem?_eq_getElem hl, List.find?_eq_some_iff_getElem]
    exact ⟨h1, i, hl, rfl, fun j hj => by simpa using h2 j hj⟩
  rw [this]
  rfl
theorem atR_no {L : List SX} {id : Int} (h : atR L id = none) : findS (L.map SX.sb) id = none := by
  have := atR_findS (L := L) (id := id)
  rw [h] at this
  exact Option.not_isSome_iff_eq_none.1 (by rw [← this]; decide)
/-- The service at one place goes. -/
theorem cut_filter {L : List Sb} (h : SrtL L) {i : Nat} {y : Sb} (hy : L[i]? = some y) : L.take i ++ L.drop (i + 1) = L.filter fun x => !decide (x.s.id = y.s.id) := by
  have hi := (List.getElem?_eq_some_iff.1 hy).1
  have e : L = L.take i ++ y :: L.drop (i + 1) := by
    conv => lhs; rw [← List.take_append_drop i L, List.drop_eq_getElem_cons hi]
    rw [(List.getElem?_eq_some_iff.1 hy).2]
  have hp : (L.take i ++ y :: L.drop (i + 1)).Pairwise fun a b => a.s.id < b.s.id := e ▸ h
  rw [List.pairwise_append] at hp
  obtain ⟨_, h2, h3⟩ := hp
  have h2 := List.pairwise_cons.1 h2
  conv => rhs; rw [e]
  rw [List.filter_append, List.filter_cons_of_neg (by simp)]
  congr 1
  · symm
    rw [List.filter_eq_self]
    intro b hb
    have := h3 b hb y (List.mem_cons_self ..)
    simp; omega
  · symm
    rw [List.filter_eq_self]
    intro b hb
    have := h2.1 b hb
    simp; omega
open Go.RowKit
set_option linter.unusedSimpArgs false
set_option linter.unusedVariables false
set_option maxRecDepth 20000
set_option maxHeartbeats 4000000
attribute [local irreducible] WPc WPl WPq ReadR OpT BinR HasS bx rdN rowN Take Takes Prov Triple ResF BuildP Done ag Int.decLt Int.decLe Int.instDecidableEq
abbrev rfA (gX : Nat) (K : RG) : List Asn := [bx gX 49 (rfc K.vL), rowN 33 23 K.vL K.L.length (svs K.L), gbag brow K.B]
theorem brow_own (p : Value × List Bk) (A : Asn) (h : A ∈ brow p) : A.own = true := by
  rw [List.mem_singleton.1 h]
  exact rowN_own
theorem rfA_own {gX : Nat} {K : RG} : ∀ A, A ∈ rfA gX K → A.own = true := by
  intro A h
  simp only [List.mem_cons, List.not_mem_nil, or_false] at h
  rcases h with rfl | rfl | rfl
  · exact bx_own
  · exact rowN_own
  · exact gbag_own
def RXm (gX : Nat) (c : Int) (L' : List Sb) : Value → List Asn → Prop := fun v Γ => ∃ K : RG, v = .int .i64 c ∧ RGok K ∧ K.sb = L' ∧ K.vL.oneCell' = true ∧ Γ = rfA gX K
attribute [local irreducible] mp rmp rg rgo mput mget mfind mdel gbag bks ies svs
section
variable (gX : Nat) (K : RG) (hK : RGok K) (hm : K.L.length ≤ 1000) (hv0 : K.vL.oneCell' = true)
include hK hm hv0
theorem rdropS_t (hs : SrtL K.sb) (id : Int) : Triple Try.prog 33 #[hF gX, .int .i64 id] (rfA gX K) (RXm gX (dropS K.sb id).2 (dropS K.sb id).1) := by
  have c8 := rat20_t gX K.vL K.L hm id
  have hcl := svs_len (l := K.L)
  cases hat : atR K.L id with
  | none =>
    rw [hat] at c8
    have c8 : Triple Try.prog 40 #[hF gX, .int .i64 id] [rbx gX 49 (rfc K.vL), rdN K.vL K.L.length (svs K.L)] (RVal (.int .i64 (-1))) := c8
    have e : dropS K.sb id = (K.sb, 6) := by unfold dropS; rw [atR_no hat]; rfl
    rw [e]
    refine Triple.enter Try.func33 rfl Try.ntmps33 rfl (fun W => ?_)
    dsimp only [argsF, Nat.reduceAdd]
    repeat' (first
     | refine WPl.nil ?_ | refine WPq.then ?_ | refine WPq.thenR ?_ | refine WPq.thenE ?_ | refine WPq.blockN ?_ | refine WPq.blockR ?_ | refine WPq.blockE ?_ | refine WPq.blockO rfl ?_ | refine WPc.seq ?_ | refine WPc.block ?_ | refine WPc.ret ?_ | refine WPc.exit ?_ | refine WPc.skip ?_ | refine WPc.region ?_
     | (refine isCond ?_; first | refine WPc.cT ?_ | refine WPc.cF ?_ | (refine WPc.cQ (fun hc => ?_) (fun hc => ?_) <;> try exact prA))
     | (refine isC 8 ?_; refine WPl.cV c8 ?_ (hΔ := provsX))
     | (refine isD 10 ?_; refine WPl.rdX (ReadR.binE rfl rfl BinR.lss (congrArg Value.bool (decide_eq_true (show (-1 : Int) < 0 by decide)))) ?_)
     | (refine isOp ?_; first | refine WPl.rd ?_ | refine WPl.sk ?_ | refine WPl.rdB ?_)
     | (refine isSt ?_; first | refine WPl.st1 ?_ | refine WPl.stA ?_ | refine WPl.stEB ?_ | refine WPl.stRB ?_)
     | (show WPl _ _ _ _ _ _ _ (⟨_, .indexAddr _ _ _, _, _, _, _⟩ :: _) _; refine WPl.rdX (ReadR.indexE rfl rfl hasA (by first | assumption | omega)) ?_)
     | (show WPl _ _ _ _ _ _ _ (⟨_, .fieldAddr _ _ _, _, _, _, _⟩ :: _) _; refine WPl.rdX (ReadR.fieldE rfl hasA (by first | assumption | omega)) ?_)
     | (show WPl _ _ _ _ _ _ _ (⟨_, .load _ _, _, _, _, _⟩ :: _) _; first | refine WPl.rdX (ReadR.loadE rfl hasA (by assumption)) ?_ | refine WPl.rdX (ReadR.loadES (by assumption) (by first | assumption | omega) rfl hasA) ?_)
     | (show WPl _ _ _ _ _ _ _ (⟨_, .slice _ _ _ _ _, _, _, _, _⟩ :: _) _; first | refine WPl.rdX (ReadR.sliceH rfl rfl hasA (by omega)) ?_ | refine WPl.rdX (ReadR.sliceL rfl rfl hasA (by omega)) ?_ | refine WPl.rdX (ReadR.sliceLH rfl rfl rfl hasA (by omega) (by omega)) ?_)
     | (refine WPl.spQ (fun hc => ?_) (fun hc => ?_) <;> try exact prA)
     | fail)
    exact WPq.dX (vs := [.int .i64 6]) (rfA gX K) ⟨K, rfl, hK, rfl, hv0, rfl⟩ (ho := rfA_own)
  | some i =>
    rw [hat] at c8
    obtain ⟨x, hx, hxi⟩ := atR_some hat
    have hil := (List.getElem?_eq_some_iff.1 hx).1
    have c8 : Triple Try.prog 40 #[hF gX, .int .i64 id] [rbx gX 49 (rfc K.vL), rdN K.vL K.L.length (svs K.L)] (RVal (.int .i64 (i : Int))) := c8
    have e : dropS K.sb id = (K.sb.take i ++ K.sb.drop (i + 1), 0) := by
      unfold dropS
      rw [atR_find hat hx, cut_filter hs (y := x.sb) (by rw [List.getElem?_map, hx]; rfl), show x.sb.s.id = id from hxi]
      rfl
    rw [e]
    have hT := svsT (D := K.L) (i := i) (by omega)
    have hU := svsD (D := K.L) (i := i + 1) (k := K.L.length - (i + 1)) (by omega)
    have hones := svs_ones (D := K.L.take i) fun y hy => (hK y (List.mem_of_mem_take hy)).1
    have hones2 := svs_ones (D := K.L.drop (i + 1)) fun y hy => (hK y (List.mem_of_mem_drop hy)).1
    have hi0 : ¬ (i : Int) < 0 := by omega
    refine Triple.enter Try.func33 rfl Try.ntmps33 rfl (fun W => ?_)
    dsimp only [argsF, Nat.reduceAdd]
    repeat' (first
     | refine WPl.nil ?_ | refine WPq.then ?_ | refine WPq.thenR ?_ | refine WPq.thenE ?_ | refine WPq.blockN ?_ | refine WPq.blockR ?_ | refine WPq.blockE ?_ | refine WPq.blockO rfl ?_ | refine WPc.seq ?_ | refine WPc.block ?_ | refine WPc.ret ?_ | refine WPc.exit ?_ | refine WPc.skip ?_ | refine WPc.region ?_
     | (refine isReg 4 ?_; refine WPc.drA [([20], [12, 13, 14, 15, 16, 17, 18, 19, 20, 21, 22, 23, 24, 25, 26, 27]), ([20], [11, 13, 14, 15, 16, 17, 18, 20, 21, 22, 23, 24, 25, 26]), ([20], [11, 12, 17, 20, 21, 22, 23, 24, 25, 26]), ([2, 20], [11, 12, 13, 17, 20, 21, 22, 23, 24, 25, 26]), ([2, 3, 20], [11, 12, 13, 14, 17, 20, 21, 22, 23, 24, 25, 26]), ([2, 3, 4, 20], [11, 12, 13, 14, 15, 17, 20, 21, 22, 23, 24, 25, 26]), ([20], [11, 12, 13, 14, 15, 16, 20, 21, 22, 23, 24, 25, 26]), ([2, 3, 4, 5, 6, 20], [11, 12, 13, 14, 15, 16, 17, 20, 21, 22, 23, 24, 25, 26]), ([1, 2, 3, 4, 5, 6, 7, 20], [11, 12, 13, 14, 15, 16, 17, 18, 20, 21, 22, 23, 24, 25, 26]), ([20], [11, 12, 13, 14, 15, 16, 17, 18, 19, 24, 25]), ([9, 20], [11, 12, 13, 14, 15, 16, 17, 18, 19, 20, 24, 25]), ([9, 10, 20], [11, 12, 13, 14, 15, 16, 17, 18, 19, 20, 21, 24, 25]), ([9, 10, 11, 20], [11, 12, 13, 14, 15, 16, 17, 18, 19, 20, 21, 22, 24, 25]), ([20], [11, 12, 13, 14, 15, 16, 17, 18, 19, 20, 21, 22, 23]), ([13, 20], [11, 12, 13, 14, 15, 16, 17, 18, 19, 20, 21, 22, 23, 24]), ([9, 10, 11, 12, 13, 14, 20], [11, 12, 13, 14, 15, 16, 17, 18, 19, 20, 21, 22, 23, 24, 25]), ([1, 2, 3, 4, 5, 6, 7, 8, 9, 10, 11, 12, 13, 14, 15, 20], [11, 12, 13, 14, 15, 16, 17, 18, 19, 20, 21, 22, 23, 24, 25, 26]), ([0, 1, 2, 3, 4, 5, 6, 7, 8, 9, 10, 11, 12, 13, 14, 15, 16, 20], [11, 12, 13, 14, 15, 16, 17, 18, 19, 20, 21, 22, 23, 24, 25, 26, 27]), ([0, 1, 2, 3, 4, 5, 6, 7, 8, 9, 10, 11, 12, 13, 14, 15, 16, 17, 20], [11, 12, 13, 14, 15, 16, 17, 18, 19, 20, 21, 22, 23, 24, 25, 26, 27, 28]), ([0, 1, 2, 3, 4, 5, 6, 7, 8, 9, 10, 11, 12, 13, 14, 15, 16, 17, 18, 20], [11, 12, 13, 14, 15, 16, 17, 18, 19, 20, 21, 22, 23, 24, 25, 26, 27, 28, 29])] [(1, 8), (8, 16), (20, 19), (20, 0), (20, 1), (20, 2), (20, 3), (20, 4), (20, 5), (20, 6), (20, 7), (20, 8), (20, 9), (20, 10), (20, 11), (20, 12), (20, 13), (20, 14), (20, 15), (20, 16), (20, 17), (20, 18)] (Γx := [bx gX 49 (rfc K.vL)]) ?_; dsimp only [prev0, List.length_nil, List.length_cons])
     | (refine gAny ?_; first | (refine gD 12 ?_; refine RGl.row (Γ1 := fun _ => []) (fun e hk => by (try dsimp only [bndR, ensR, oksR, fcutR, List.append_nil, List.nil_append, List.cons_append, List.append_assoc] at hk ⊢); exact OpT.buildS0) ?_) | (refine gD 19 ?_; refine RGl.row (Γ1 := fun e => [rowN 33 23 (e 1).1 0 ([])]) (m := fun e => 0 + i) (xs := fun e => svs (K.L.take i)) (fun e hk => by (try dsimp only [bndR, ensR, oksR, fcutR, List.append_nil, List.nil_append, List.cons_append, List.append_assoc] at hk ⊢); exact OpT.appendN (m := 0) (m2 := i) (xs := []) (ys := svs (K.L.take i)) rfl rfl takesA (hT ▸ HasS.sub (k := 0) (n := i) (sz := 23) hasA svs_len (by omega)) (by rw [svs_len, List.length_take]; congr 1; omega) hones (by omega)) ?_) | (refine gD 27 ?_; refine RGl.row (Γ1 := fun e => [rowN 33 23 (e 8).1 (0 + i) ((svs (K.L.take i)))]) (m := fun e => (0 + i) + (K.L.length - (i + 1))) (xs := fun e => (svs (K.L.take i)) ++ svs (K.L.drop (i + 1))) (fun e hk => by (try dsimp only [bndR, ensR, oksR, fcutR, List.append_nil, List.nil_append, List.cons_append, List.append_assoc] at hk ⊢); exact OpT.appendN (m := (0 + i)) (m2 := (K.L.length - (i + 1))) (xs := (svs (K.L.take i))) (ys := svs (K.L.drop (i + 1))) rfl rfl takesA (hU ▸ HasS.sub (k := i + 1) (n := K.L.length - (i + 1)) (sz := 23) hasA svs_len (by omega)) (by rw [svs_len, List.length_drop]) hones2 (by omega)) ?_) | (refine gSt ?_; refine RGl.turn (fun e hk => by (try dsimp only [bndR, ensR, oksR, fcutR, List.append_nil, List.nil_append, List.cons_append, List.append_assoc] at hk ⊢); exact OpT.store1 rfl rfl takesA (by (repeat (obtain ⟨hk1, hk⟩ := hk)) <;> assumption) (by dsimp only [sel, takeCh, upd, dropCh, appCh, setAt, chAt, Option.map_some, List.cons_append, List.nil_append, Nat.reduceSub, Nat.reduceAdd] <;> exact rfl)) ?_) | (refine gD 10 ?_; refine RGl.rdX (fun e hk => by (try dsimp only [bndR, ensR, oksR, fcutR, List.append_nil, List.nil_append, List.cons_append, List.append_assoc] at hk ⊢); exact ReadR.binE rfl rfl BinR.lss (congrArg Value.bool (decide_eq_false hi0))) ?_) | (refine gD 18 ?_; refine RGl.rdX (fun e hk => by (try dsimp only [bndR, ensR, oksR, fcutR, List.append_nil, List.nil_append, List.cons_append, List.append_assoc] at hk ⊢); exact ReadR.sliceH (j := i) rfl rfl hasA (by omega)) ?_) | (refine gD 26 ?_; refine RGl.rdX (fun e hk => by (try dsimp only [bndR, ensR, oksR, fcutR, List.append_nil, List.nil_append, List.cons_append, List.append_assoc] at hk ⊢); exact ReadR.sliceL (i := i + 1) rfl rfl hasA (by omega)) ?_) | (refine gOp ?_; first | refine RGl.rdA ?_ | refine RGl.rdX (fun e hk => by (try dsimp only [bndR, ensR, oksR, fcutR, List.append_nil, List.nil_append, List.cons_append, List.append_assoc] at hk ⊢); exact readB) ?_) | (refine gLit ?_; refine RGl.litA ?_) | (refine gApp ?_; refine RGl.appA ?_) | (refine gSt ?_; refine RGl.stA ?_) | (refine RGl.fin (fun e hk => ?_); (try dsimp only [bndA, ensAR, oksA, List.append_nil, List.nil_append, List.cons_append, List.append_assoc] at hk ⊢); (repeat (obtain ⟨hk1, hk⟩ := hk))) | fail)
     | (refine isCond ?_; first | refine WPc.cT ?_ | refine WPc.cF ?_ | (refine WPc.cQ (fun hc => ?_) (fun hc => ?_) <;> try exact prA))
     | (refine isC 8 ?_; refine WPl.cV c8 ?_ (hΔ := provsX))
     | (refine isD 10 ?_; refine WPl.rdX (ReadR.binE rfl rfl BinR.lss (congrArg Value.bool (decide_eq_false hi0))) ?_)
     | (refine isD 18 ?_; refine WPl.rdX (ReadR.sliceH (j := i) rfl rfl hasA (by omega)) ?_)
     | (refine isD 26 ?_; refine WPl.rdX (ReadR.sliceL (i := i + 1) rfl rfl hasA (by omega)) ?_)
     | (refine isOp ?_; first | refine WPl.rd ?_ | refine WPl.sk ?_ | refine WPl.rdB ?_)
     | (refine isSt ?_; first | refine WPl.st1 ?_ | refine WPl.stA ?_ | refine WPl.stEB ?_ | refine WPl.stRB ?_)
     | (show WPl _ _ _ _ _ _ _ (⟨_, .indexAddr _ _ _, _, _, _, _⟩ :: _) _; refine WPl.rdX (ReadR.indexE rfl rfl hasA (by first | assumption | omega)) ?_)
     | (show WPl _ _ _ _ _ _ _ (⟨_, .fieldAddr _ _ _, _, _, _, _⟩ :: _) _; refine WPl.rdX (ReadR.fieldE rfl hasA (by first | assumption | omega)) ?_)
     | (show WPl _ _ _ _ _ _ _ (⟨_, .load _ _, _, _, _, _⟩ :: _) _; first | refine WPl.rdX (ReadR.loadE rfl hasA (by assumption)) ?_ | refine WPl.rdX (ReadR.loadES (by assumption) (by first | assumption | omega) rfl hasA) ?_)
     | (show WPl _ _ _ _ _ _ _ (⟨_, .slice _ _ _ _ _, _, _, _, _⟩ :: _) _; first | refine WPl.rdX (ReadR.sliceH rfl rfl hasA (by omega)) ?_ | refine WPl.rdX (ReadR.sliceL rfl rfl hasA (by omega)) ?_ | refine WPl.rdX (ReadR.sliceLH rfl rfl rfl hasA (by omega) (by omega)) ?_)
     | (refine WPl.spQ (fun hc => ?_) (fun hc => ?_) <;> try exact prA)
     | fail)
    have hln : 0 + i + (K.L.length - (i + 1)) = (K.L.take i ++ K.L.drop (i + 1)).length := by rw [List.length_append, List.length_take, List.length_drop]; omega
    have hap : svs (K.L.take i) ++ svs (K.L.drop (i + 1)) = svs (K.L.take i ++ K.L.drop (i + 1)) := svs_app.symm
    rw [hln, hap]
    have hone : (e 16).1.oneCell' = true := by assumption
    exact WPq.dX (vs := [.int .i64 0]) (rfA gX ⟨(e 16).1, K.L.take i ++ K.L.drop (i + 1), K.B⟩) ⟨⟨(e 16).1, K.L.take i ++ K.L.drop (i + 1), K.B⟩, rfl, fun y hy => hK y (by rcases List.mem_append.1 hy with hy | hy; exact List.mem_of_mem_take hy; exact List.mem_of_mem_drop hy), by show List.map SX.sb _ = _; rw [List.map_append, List.map_take, List.map_drop], hone, rfl⟩ (ho := rfA_own)
end
end Go.Proofs.Ytpjfkomicehinaa
/- Layer 20: the reference: AddService. -/
namespace Go.Proofs.Ytpjfkomicehinaa
def Cfl (s : Sh) (x : SX) : Prop := x.s.id = s.id ∨ x.s.door = s.door
theorem addS_no {L : List Sb} {s : Sh} {nb : Nat} (h : ¬ mayS s nb = true) : addS L s nb = (L, 1) := by unfold addS; rw [if_neg h]
theorem addS_there {L : List SX} {s : Sh} {nb : Nat} (h : mayS s nb = true) {x : SX} (hx : x ∈ L) (hc : Cfl s x) : addS (L.map SX.sb) s nb = (L.map SX.sb, 7) := by
  unfold addS
  rw [if_pos h, if_pos]
  have hm : x.sb ∈ L.map SX.sb := List.mem_map.2 ⟨x, hx, rfl⟩
  rcases hc with hc | hc
  · left
    unfold findS
    rw [List.find?_isSome]
    exact ⟨_, hm, by simpa using hc⟩
  · right
    unfold doorS
    rw [List.find?_isSome]
    exact ⟨_, hm, by simpa using hc⟩
theorem addS_free {L : List SX} {s : Sh} {nb : Nat} (h : mayS s nb = true) (hc : ∀ x ∈ L, ¬ Cfl s x) : addS (L.map SX.sb) s nb = if 8 ≤ L.length then (L.map SX.sb, 2) else (insS (L.map SX.sb) ⟨s, []⟩, 0) := by
  unfold addS
  rw [if_pos h, if_neg, List.length_map]
  have hnm : ∀ y ∈ L.map SX.sb, ∃ x ∈ L, x.sb = y := fun y hy => List.mem_map.1 hy
  rintro (h1 | h1)
  · unfold findS at h1
    rw [List.find?_isSome] at h1
    obtain ⟨y, hy, h2⟩ := h1
    obtain ⟨x, hx, rfl⟩ := hnm y hy
    exact hc x hx (.inl (by simpa using h2))
  · unfold doorS at h1
    rw [List.find?_isSome] at h1
    obtain ⟨y, hy, h2⟩ := h1
    obtain ⟨x, hx, rfl⟩ := hnm y hy
    exact hc x hx (.inr (by simpa using h2))
theorem fsplit {α : Type} {l : List α} {q : α → Bool} {i : Nat} (h1 : ∀ k b, k < i → l[k]? = some b → q b = true) (h2 : ∀ k b, i ≤ k → l[k]? = some b → q b = false) : l.filter q = l.take i ∧ (l.filter fun b => !q b) = l.drop i := by
  have e := List.take_append_drop i l
  have g1 : ∀ b ∈ l.take i, q b = true := fun b hb => by
    obtain ⟨k, hk⟩ := List.getElem?_of_mem hb
    have hlt : k < i := by have := (List.getElem?_eq_some_iff.1 hk).1; rw [List.length_take] at this; omega
    rw [List.getElem?_take_of_lt hlt] at hk
    exact h1 k b hlt hk
  have g2 : ∀ b ∈ l.drop i, q b = false := fun b hb => by
    obtain ⟨k, hk⟩ := List.getElem?_of_mem hb
    rw [List.getElem?_drop] at hk
    exact h2 (i + k) b (by omega) hk
  constructor
  · conv => lhs; rw [← e]
    rw [List.filter_append, List.filter_eq_self.2 g1, List.filter_eq_nil_iff.2 fun b hb => by rw [g2 b hb]; decide, List.append_nil]
  · have f1 : (l.take i).filter (fun b => !q b) = [] := List.filter_eq_nil_iff.2 fun b hb => by rw [g1 b hb]; decide
    have f2 : (l.drop i).filter (fun b => !q b) = l.drop i := List.filter_eq_self.2 fun b hb => by rw [g2 b hb]; rfl
    conv => lhs; rw [← e]
    rw [List.filter_append, f1, f2, List.nil_append]
theorem insS_at {L : List Sb} {y : Sb} {i : Nat} (h1 : ∀ k b, k < i → L[k]? = some b → b.s.id < y.s.id) (h2 : ∀ k b, i ≤ k → L[k]? = some b → ¬ b.s.id < y.s.id) : insS L y = L.take i ++ y :: L.drop i := by
  obtain ⟨f1, f2⟩ := fsplit (l := L) (q := fun b => decide (b.s.id < y.s.id)) (i := i) (fun k b hk hb => decide_eq_true (h1 k b hk hb)) (fun k b hk hb => decide_eq_false (h2 k b hk hb))
  unfold insS
  rw [f1, f2]
theorem bks_nil : bks [] = [] := by with_unfolding_all rfl
open Go.RowKit
set_option linter.unusedSimpArgs false
set_option linter.unusedVariables false
set_option maxRecDepth 20000
set_option maxHeartbeats 4000000
attribute [local irreducible] WPc WPl WPq ReadR OpT BinR HasS bx rdN rowN Take Takes Prov Triple ResF BuildP Done ag Int.decLt Int.decLe Int.instDecidableEq
theorem ad_eqb (a b : Adr) : (a.six == b.six && (decide (a.b = b.b) && true)) = decide (a = b) := by
  rw [Bool.eq_iff_iff]
  simp only [Bool.and_true, Bool.and_eq_true, beq_iff_eq, decide_eq_true_eq]
  constructor
  · rintro ⟨h1, h2⟩; exact Adr.ext h1 h2
  · rintro rfl; exact ⟨rfl, rfl⟩
theorem BinR.adE {a b : Adr} : BinR Try.prog .eql 30 (ag (adc a)) (ag (adc b)) (.bool (decide (a = b))) := by
  have l1 := a.len
  have l2 := b.len
  rw [← ad_eqb]
  exact BinR.eqlA eqcA
theorem brow0 {vl : Value} {B : List (Value × List Bk)} : gbag brow B :: brow (vl, []) = [gbag brow B, rowN 36 21 vl 0 []] := by
  unfold brow
  rw [bks_nil]
  rfl
attribute [local irreducible] mp rmp rg rgo mput mget mfind mdel gbag bks ies svs
section
variable (gX : Nat) (K : RG) (hK : RGok K) (hm : K.L.length ≤ 1000) (hv0 : K.vL.oneCell' = true)
include hK hm hv0
theorem raddS_t (hs : SrtL K.sb) (s : Sh) (vb : Value) (l : List Bk) (hvb : vb.oneCell' = true) : Triple Try.prog 36 #[hF gX, ag (shC s vb)] ([rdN vb l.length (bks l)] ++ rfA gX K) (RXm gX (addS K.sb s l.length).2 (addS K.sb s l.length).1) := by
  have hfx := shC_ok (s := s) hvb
  have hal := s.ad.len
  have hcl := svs_len (l := K.L)
  have c9 := rmay_t s vb l hvb
  cases hmay : mayS s l.length with
  | false =>
    rw [hmay] at c9
    rw [addS_no (by rw [hmay]; decide)]
    refine Triple.enter Try.func36 rfl Try.ntmps36 rfl (fun W => ?_)
    dsimp only [argsF, Nat.reduceAdd]
    repeat' (first
     | refine WPl.nil ?_ | refine WPq.then ?_ | refine WPq.thenR ?_ | refine WPq.thenE ?_ | refine WPq.blockN ?_ | refine WPq.blockR ?_ | refine WPq.blockE ?_ | refine WPq.blockO rfl ?_ | refine WPc.seq ?_ | refine WPc.block ?_ | refine WPc.ret ?_ | refine WPc.exit ?_ | refine WPc.skip ?_ | refine WPc.region ?_
     | (refine isCond ?_; first | refine WPc.cT ?_ | refine WPc.cF ?_ | (refine WPc.cQ (fun hc => ?_) (fun hc => ?_) <;> try exact prA))
     | (refine isD 3 ?_; refine WPl.boxC (shC s vb) hfx rfl (fun g1 => ?_))
     | (refine isC 9 ?_; refine WPl.cV c9 ?_ (hΔ := provsX))
     | (refine isOp ?_; first | refine WPl.rd ?_ | refine WPl.sk ?_ | refine WPl.rdB ?_)
     | (refine isAl ?_; refine WPl.nw fun g => ?_)
     | (refine isBx ?_; refine WPl.nw fun g => ?_)
     | (refine isSt ?_; first | refine WPl.st1 ?_ | refine WPl.stA ?_ | refine WPl.stEB ?_ | refine WPl.stRB ?_)
     | (show WPl _ _ _ _ _ _ _ (⟨_, .indexAddr _ _ _, _, _, _, _⟩ :: _) _; refine WPl.rdX (ReadR.indexE rfl rfl hasA (by first | assumption | omega)) ?_)
     | (show WPl _ _ _ _ _ _ _ (⟨_, .fieldAddr _ _ _, _, _, _, _⟩ :: _) _; refine WPl.rdX (ReadR.fieldE rfl hasA (by first | assumption | omega)) ?_)
     | (show WPl _ _ _ _ _ _ _ (⟨_, .load _ _, _, _, _, _⟩ :: _) _; first | refine WPl.rdX (ReadR.loadE rfl hasA (by assumption)) ?_ | refine WPl.rdX (ReadR.loadES (by assumption) (by first | assumption | omega) rfl hasA) ?_)
     | (show WPl _ _ _ _ _ _ _ (⟨_, .slice _ _ _ _ _, _, _, _, _⟩ :: _) _; first | refine WPl.rdX (ReadR.sliceH rfl rfl hasA (by omega)) ?_ | refine WPl.rdX (ReadR.sliceL rfl rfl hasA (by omega)) ?_ | refine WPl.rdX (ReadR.sliceLH rfl rfl rfl hasA (by omega) (by omega)) ?_)
     | (refine WPl.spQ (fun hc => ?_) (fun hc => ?_) <;> try exact prA)
     | fail)
    exact WPq.dX (vs := [.int .i64 1]) (rfA gX K) ⟨K, rfl, hK, rfl, hv0, rfl⟩ (ho := rfA_own)
  | true =>
  rw [hmay] at c9
  refine Triple.enter Try.func36 rfl Try.ntmps36 rfl (fun W => ?_)
  dsimp only [argsF, Nat.reduceAdd]
  repeat' (first
   | refine WPl.nil ?_ | refine WPq.then ?_ | refine WPq.thenR ?_ | refine WPq.thenE ?_ | refine WPq.blockN ?_ | refine WPq.blockR ?_ | refine WPq.blockE ?_ | refine WPq.blockO rfl ?_ | refine WPc.seq ?_ | refine WPc.block ?_ | refine WPc.ret ?_ | refine WPc.exit ?_ | refine WPc.skip ?_ | refine WPc.region ?_
   | (refine isCond ?_; first | refine WPc.cT ?_ | refine WPc.cF ?_ | (refine WPc.cQ (fun hc => ?_) (fun hc => ?_) <;> try exact prA))
   | (refine isD 3 ?_; refine WPl.boxC (shC s vb) hfx rfl (fun g1 => ?_))
   | (refine isC 9 ?_; refine WPl.cV c9 ?_ (hΔ := provsX))
   | (refine isOp ?_; first | refine WPl.rd ?_ | refine WPl.sk ?_ | refine WPl.rdB ?_)
   | (refine isAl ?_; refine WPl.nw fun g => ?_)
   | (refine isBx ?_; refine WPl.nw fun g => ?_)
   | (refine isSt ?_; first | refine WPl.st1 ?_ | refine WPl.stA ?_ | refine WPl.stEB ?_ | refine WPl.stRB ?_)
   | (show WPl _ _ _ _ _ _ _ (⟨_, .indexAddr _ _ _, _, _, _, _⟩ :: _) _; refine WPl.rdX (ReadR.indexE rfl rfl hasA (by first | assumption | omega)) ?_)
   | (show WPl _ _ _ _ _ _ _ (⟨_, .fieldAddr _ _ _, _, _, _, _⟩ :: _) _; refine WPl.rdX (ReadR.fieldE rfl hasA (by first | assumption | omega)) ?_)
   | (show WPl _ _ _ _ _ _ _ (⟨_, .load _ _, _, _, _, _⟩ :: _) _; first | refine WPl.rdX (ReadR.loadE rfl hasA (by assumption)) ?_ | refine WPl.rdX (ReadR.loadES (by assumption) (by first | assumption | omega) rfl hasA) ?_)
   | (show WPl _ _ _ _ _ _ _ (⟨_, .slice _ _ _ _ _, _, _, _, _⟩ :: _) _; first | refine WPl.rdX (ReadR.sliceH rfl rfl hasA (by omega)) ?_ | refine WPl.rdX (ReadR.sliceL rfl rfl hasA (by omega)) ?_ | refine WPl.rdX (ReadR.sliceLH rfl rfl rfl hasA (by omega) (by omega)) ?_)
   | (refine WPl.spQ (fun hc => ?_) (fun hc => ?_) <;> try exact prA)
   | fail)
  first | refine WPc.loop (σ := Nat × Nat) (fun st => st.1 ≤ K.L.length ∧ st.2 ≤ st.1 ∧ (∀ j f, j < st.1 → K.L[j]? = some f → ¬ Cfl s f) ∧ (∀ j f, j < st.2 → K.L[j]? = some f → f.s.id < s.id) ∧ (∀ j f, st.2 ≤ j → j < st.1 → K.L[j]? = some f → ¬ f.s.id < s.id)) (fun st => [bx g 33 (shC s vb), bx gX 49 (rfc K.vL), rowN 33 23 K.vL K.L.length (svs K.L), gbag brow K.B]) (fun st => [(0, hF gX), (3, hF g), (5, .int .i64 (st.2 : Int)), (6, .int .i64 (st.1 : Int))]) (fun st => K.L.length - st.1) ((0, 0)) ?_ takesA frsA (fun st km hx hk => ?_)
  · exact ⟨Nat.zero_le _, Nat.le_refl _, fun j f hj => absurd hj (Nat.not_lt_zero _), fun j f hj => absurd hj (Nat.not_lt_zero _), fun j f _ hj => absurd hj (Nat.not_lt_zero _)⟩
  obtain ⟨i, at'⟩ := st
  obtain ⟨hi, hat, hno, hlw, hhi⟩ := hx
  dsimp only at hi hat hno hlw hhi hk ⊢
  have hkm : km = K.L.length - i := hk
  clear hk
  by_cases hlt : i < K.L.length
  · have hlt' : (i : Int) < (K.L.length : Int) := by omega
    obtain ⟨f, hf⟩ : ∃ f, K.L[i]? = some f := ⟨_, List.getElem?_eq_getElem hlt⟩
    have hfm : f ∈ K.L := List.mem_of_getElem? hf
    have hf3 := svs_at hf
    have hfv := (hK f hfm).1
    have hff := shC_ok (s := f.s) hfv
    have hfl := f.s.ad.len
    have hno' : ¬ Cfl s f → ∀ j g, j < i + 1 → K.L[j]? = some g → ¬ Cfl s g := fun hn j g hj hg => by
      by_cases e : j = i
      · subst e; rw [hf] at hg; cases hg; exact hn
      · exact hno j g (by omega) hg
    have hup : ¬ Cfl s f → f.s.id < s.id → i + 1 ≤ K.L.length ∧ i + 1 ≤ i + 1 ∧ (∀ j g, j < i + 1 → K.L[j]? = some g → ¬ Cfl s g) ∧ (∀ j g, j < i + 1 → K.L[j]? = some g → g.s.id < s.id) ∧ (∀ j g, i + 1 ≤ j → j < i + 1 → K.L[j]? = some g → ¬ g.s.id < s.id) := fun hn hl => by
      refine ⟨hlt, Nat.le_refl _, hno' hn, fun j g hj hg => ?_, fun j g h1 h2 => by omega⟩
      by_cases e : j = i
      · subst e; rw [hf] at hg; cases hg; exact hl
      · have h1 : K.sb[j]? = some g.sb := by rw [List.getElem?_map, hg]; rfl
        have h2 : K.sb[i]? = some f.sb := by rw [List.getElem?_map, hf]; rfl
        have h3 : g.sb.s.id < f.sb.s.id := by
          obtain ⟨q1, e1⟩ := List.getElem?_eq_some_iff.1 h1
          obtain ⟨q2, e2⟩ := List.getElem?_eq_some_iff.1 h2
          have := List.pairwise_iff_getElem.1 hs j i q1 q2 (by omega)
          rw [e1, e2] at this
          exact this
        have h3 : g.s.id < f.s.id := h3
        omega
    have hst : ¬ Cfl s f → ¬ f.s.id < s.id → i + 1 ≤ K.L.length ∧ at' ≤ i + 1 ∧ (∀ j g, j < i + 1 → K.L[j]? = some g → ¬ Cfl s g) ∧ (∀ j g, j < at' → K.L[j]? = some g → g.s.id < s.id) ∧ (∀ j g, at' ≤ j → j < i + 1 → K.L[j]? = some g → ¬ g.s.id < s.id) := fun hn hl => by
      refine ⟨hlt, by omega, hno' hn, hlw, fun j g h1 h2 hg => ?_⟩
      by_cases e : j = i
      · subst e; rw [hf] at hg; cases hg; exact hl
      · exact hhi j g h1 (by omega) hg
    by_cases hid : f.s.id = s.id
    · rw [addS_there hmay hfm (.inl hid)]
      repeat' (first
       | refine WPl.nil ?_ | refine WPq.then ?_ | refine WPq.thenR ?_ | refine WPq.thenE ?_ | refine WPq.blockN ?_ | refine WPq.blockR ?_ | refine WPq.blockE ?_ | refine WPq.blockO rfl ?_ | refine WPc.seq ?_ | refine WPc.block ?_ | refine WPc.ret ?_ | refine WPc.exit ?_ | refine WPc.skip ?_ | refine WPc.region ?_
       | (refine isCond ?_; first | refine WPc.cT ?_ | refine WPc.cF ?_ | (refine WPc.cQ (fun hc => ?_) (fun hc => ?_) <;> try first | exact prA | (exfalso; first | omega)))
       | (refine isD 17 ?_; refine WPl.rdX (ReadR.binE rfl rfl BinR.lss (congrArg Value.bool (decide_eq_true hlt'))) ?_)
       | (refine isD 25 ?_; refine WPl.rdX (ReadR.indexE (i := i) rfl rfl hasA hlt) ?_)
       | (refine isD 26 ?_; refine WPl.rdX (ReadR.loadES (cs := shC f.s f.v) hf3 (by omega) rfl hasA) ?_)
       | (refine isD 31 ?_; refine WPl.rdX (ReadR.binE rfl rfl BinR.eql (congrArg Value.bool (decide_eq_true hid))) ?_)
       | (refine isOp ?_; first | refine WPl.rd ?_ | refine WPl.sk ?_ | refine WPl.rdB ?_)
       | (refine isAl ?_; refine WPl.nw fun g => ?_)
       | (refine isBx ?_; refine WPl.nw fun g => ?_)
       | (refine isSt ?_; first | refine WPl.st1 ?_ | refine WPl.stA ?_ | refine WPl.stEB ?_ | refine WPl.stRB ?_)
       | (show WPl _ _ _ _ _ _ _ (⟨_, .indexAddr _ _ _, _, _, _, _⟩ :: _) _; refine WPl.rdX (ReadR.indexE rfl rfl hasA (by first | assumption | omega)) ?_)
       | (show WPl _ _ _ _ _ _ _ (⟨_, .fieldAddr _ _ _, _, _, _, _⟩ :: _) _; refine WPl.rdX (ReadR.fieldE rfl hasA (by first | assumption | omega)) ?_)
       | (show WPl _ _ _ _ _ _ _ (⟨_, .load _ _, _, _, _, _⟩ :: _) _; first | refine WPl.rdX (ReadR.loadE rfl hasA (by assumption)) ?_ | refine WPl.rdX (ReadR.loadES (by assumption) (by first | assumption | omega) rfl hasA) ?_)
       | (show WPl _ _ _ _ _ _ _ (⟨_, .slice _ _ _ _ _, _, _, _, _⟩ :: _) _; first | refine WPl.rdX (ReadR.sliceH rfl rfl hasA (by omega)) ?_ | refine WPl.rdX (ReadR.sliceL rfl rfl hasA (by omega)) ?_ | refine WPl.rdX (ReadR.sliceLH rfl rfl rfl hasA (by omega) (by omega)) ?_)
       | (refine WPl.spQ (fun hc => ?_) (fun hc => ?_) <;> try first | exact prA | (exfalso; first | omega))
       | fail)
      exact WPq.dX (vs := [.int .i64 7]) (rfA gX K) ⟨K, rfl, hK, rfl, hv0, rfl⟩ (ho := rfA_own)
    by_cases had : f.s.ad = s.ad
    · by_cases hpo : (f.s.port : Int) = (s.port : Int)
      · by_cases hpr : ((f.s.proto.toNat : Nat) : Int) = ((s.proto.toNat : Nat) : Int)
        · have hdo : f.s.door = s.door := by unfold Sh.door; rw [had, show f.s.port = s.port by omega, show f.s.proto = s.proto from UInt8.toNat_inj.1 (by omega)]
          rw [addS_there hmay hfm (.inr hdo)]
          repeat' (first
           | refine WPl.nil ?_ | refine WPq.then ?_ | refine WPq.thenR ?_ | refine WPq.thenE ?_ | refine WPq.blockN ?_ | refine WPq.blockR ?_ | refine WPq.blockE ?_ | refine WPq.blockO rfl ?_ | refine WPc.seq ?_ | refine WPc.block ?_ | refine WPc.ret ?_ | refine WPc.exit ?_ | refine WPc.skip ?_ | refine WPc.region ?_
           | (refine isCond ?_; first | refine WPc.cT ?_ | refine WPc.cF ?_ | (refine WPc.cQ (fun hc => ?_) (fun hc => ?_) <;> try first | exact prA | (exfalso; first | omega)))
           | (refine isD 17 ?_; refine WPl.rdX (ReadR.binE rfl rfl BinR.lss (congrArg Value.bool (decide_eq_true hlt'))) ?_)
           | (refine isD 25 ?_; refine WPl.rdX (ReadR.indexE (i := i) rfl rfl hasA hlt) ?_)
           | (refine isD 26 ?_; refine WPl.rdX (ReadR.loadES (cs := shC f.s f.v) hf3 (by omega) rfl hasA) ?_)
           | (refine isD 31 ?_; refine WPl.rdX (ReadR.binE rfl rfl BinR.eql (congrArg Value.bool (decide_eq_false hid))) ?_)
           | (refine isD 37 ?_; refine WPl.rdX (ReadR.binE rfl rfl BinR.adE (congrArg Value.bool (decide_eq_true had))) ?_)
           | (refine isD 43 ?_; refine WPl.rdX (ReadR.binE rfl rfl BinR.eql (congrArg Value.bool (decide_eq_true hpo))) ?_)
           | (refine isD 50 ?_; refine WPl.rdX (ReadR.binE rfl rfl BinR.eql (congrArg Value.bool (decide_eq_true hpr))) ?_)
           | (refine isOp ?_; first | refine WPl.rd ?_ | refine WPl.sk ?_ | refine WPl.rdB ?_)
           | (refine isAl ?_; refine WPl.nw fun g => ?_)
           | (refine isBx ?_; refine WPl.nw fun g => ?_)
           | (refine isSt ?_; first | refine WPl.st1 ?_ | refine WPl.stA ?_ | refine WPl.stEB ?_ | refine WPl.stRB ?_)
           | (show WPl _ _ _ _ _ _ _ (⟨_, .indexAddr _ _ _, _, _, _, _⟩ :: _) _; refine WPl.rdX (ReadR.indexE rfl rfl hasA (by first | assumption | omega)) ?_)
           | (show WPl _ _ _ _ _ _ _ (⟨_, .fieldAddr _ _ _, _, _, _, _⟩ :: _) _; refine WPl.rdX (ReadR.fieldE rfl hasA (by first | assumption | omega)) ?_)
           | (show WPl _ _ _ _ _ _ _ (⟨_, .load _ _, _, _, _, _⟩ :: _) _; first | refine WPl.rdX (ReadR.loadE rfl hasA (by assumption)) ?_ | refine WPl.rdX (ReadR.loadES (by assumption) (by first | assumption | omega) rfl hasA) ?_)
           | (show WPl _ _ _ _ _ _ _ (⟨_, .slice _ _ _ _ _, _, _, _, _⟩ :: _) _; first | refine WPl.rdX (ReadR.sliceH rfl rfl hasA (by omega)) ?_ | refine WPl.rdX (ReadR.sliceL rfl rfl hasA (by omega)) ?_ | refine WPl.rdX (ReadR.sliceLH rfl rfl rfl hasA (by omega) (by omega)) ?_)
           | (refine WPl.spQ (fun hc => ?_) (fun hc => ?_) <;> try first | exact prA | (exfalso; first | omega))
           | fail)
          exact WPq.dX (vs := [.int .i64 7]) (rfA gX K) ⟨K, rfl, hK, rfl, hv0, rfl⟩ (ho := rfA_own)
        · have hnc : ¬ Cfl s f := by
            rintro (hc | hc)
            · exact hid hc
            · exact hpr (by rw [show f.s.proto = s.proto from congrArg Dr.proto hc])
          by_cases hlo : f.s.id < s.id
          · skip
            repeat' (first
             | refine WPl.nil ?_ | refine WPq.then ?_ | refine WPq.thenR ?_ | refine WPq.thenE ?_ | refine WPq.blockN ?_ | refine WPq.blockR ?_ | refine WPq.blockE ?_ | refine WPq.blockO rfl ?_ | refine WPc.seq ?_ | refine WPc.block ?_ | refine WPc.ret ?_ | refine WPc.exit ?_ | refine WPc.skip ?_ | refine WPc.region ?_
             | (refine isCond ?_; first | refine WPc.cT ?_ | refine WPc.cF ?_ | (refine WPc.cQ (fun hc => ?_) (fun hc => ?_) <;> try first | exact prA | (exfalso; first | omega)))
             | (refine isD 17 ?_; refine WPl.rdX (ReadR.binE rfl rfl BinR.lss (congrArg Value.bool (decide_eq_true hlt'))) ?_)
             | (refine isD 25 ?_; refine WPl.rdX (ReadR.indexE (i := i) rfl rfl hasA hlt) ?_)
             | (refine isD 26 ?_; refine WPl.rdX (ReadR.loadES (cs := shC f.s f.v) hf3 (by omega) rfl hasA) ?_)
             | (refine isD 31 ?_; refine WPl.rdX (ReadR.binE rfl rfl BinR.eql (congrArg Value.bool (decide_eq_false hid))) ?_)
             | (refine isD 37 ?_; refine WPl.rdX (ReadR.binE rfl rfl BinR.adE (congrArg Value.bool (decide_eq_true had))) ?_)
             | (refine isD 43 ?_; refine WPl.rdX (ReadR.binE rfl rfl BinR.eql (congrArg Value.bool (decide_eq_true hpo))) ?_)
             | (refine isD 50 ?_; refine WPl.rdX (ReadR.binE rfl rfl BinR.eql (congrArg Value.bool (decide_eq_false hpr))) ?_)
             | (refine isD 57 ?_; refine WPl.rdX (ReadR.binE rfl rfl BinR.lss (congrArg Value.bool (decide_eq_true hlo))) ?_)
             | (refine isOp ?_; first | refine WPl.rd ?_ | refine WPl.sk ?_ | refine WPl.rdB ?_)
             | (refine isAl ?_; refine WPl.nw fun g => ?_)
             | (refine isBx ?_; refine WPl.nw fun g => ?_)
             | (refine isSt ?_; first | refine WPl.st1 ?_ | refine WPl.stA ?_ | refine WPl.stEB ?_ | refine WPl.stRB ?_)
             | (show WPl _ _ _ _ _ _ _ (⟨_, .indexAddr _ _ _, _, _, _, _⟩ :: _) _; refine WPl.rdX (ReadR.indexE rfl rfl hasA (by first | assumption | omega)) ?_)
             | (show WPl _ _ _ _ _ _ _ (⟨_, .fieldAddr _ _ _, _, _, _, _⟩ :: _) _; refine WPl.rdX (ReadR.fieldE rfl hasA (by first | assumption | omega)) ?_)
             | (show WPl _ _ _ _ _ _ _ (⟨_, .load _ _, _, _, _, _⟩ :: _) _; first | refine WPl.rdX (ReadR.loadE rfl hasA (by assumption)) ?_ | refine WPl.rdX (ReadR.loadES (by assumption) (by first | assumption | omega) rfl hasA) ?_)
             | (show WPl _ _ _ _ _ _ _ (⟨_, .slice _ _ _ _ _, _, _, _, _⟩ :: _) _; first | refine WPl.rdX (ReadR.sliceH rfl rfl hasA (by omega)) ?_ | refine WPl.rdX (ReadR.sliceL rfl rfl hasA (by omega)) ?_ | refine WPl.rdX (ReadR.sliceLH rfl rfl rfl hasA (by omega) (by omega)) ?_)
             | (refine WPl.spQ (fun hc => ?_) (fun hc => ?_) <;> try first | exact prA | (exfalso; first | omega))
             | fail)
            exact WPq.rnd (i + 1, i + 1) (hup hnc hlo) (by dsimp only; omega)
          · skip
            repeat' (first
             | refine WPl.nil ?_ | refine WPq.then ?_ | refine WPq.thenR ?_ | refine WPq.thenE ?_ | refine WPq.blockN ?_ | refine WPq.blockR ?_ | refine WPq.blockE ?_ | refine WPq.blockO rfl ?_ | refine WPc.seq ?_ | refine WPc.block ?_ | refine WPc.ret ?_ | refine WPc.exit ?_ | refine WPc.skip ?_ | refine WPc.region ?_
             | (refine isCond ?_; first | refine WPc.cT ?_ | refine WPc.cF ?_ | (refine WPc.cQ (fun hc => ?_) (fun hc => ?_) <;> try first | exact prA | (exfalso; first | omega)))
             | (refine isD 17 ?_; refine WPl.rdX (ReadR.binE rfl rfl BinR.lss (congrArg Value.bool (decide_eq_true hlt'))) ?_)
             | (refine isD 25 ?_; refine WPl.rdX (ReadR.indexE (i := i) rfl rfl hasA hlt) ?_)
             | (refine isD 26 ?_; refine WPl.rdX (ReadR.loadES (cs := shC f.s f.v) hf3 (by omega) rfl hasA) ?_)
             | (refine isD 31 ?_; refine WPl.rdX (ReadR.binE rfl rfl BinR.eql (congrArg Value.bool (decide_eq_false hid))) ?_)
             | (refine isD 37 ?_; refine WPl.rdX (ReadR.binE rfl rfl BinR.adE (congrArg Value.bool (decide_eq_true had))) ?_)
             | (refine isD 43 ?_; refine WPl.rdX (ReadR.binE rfl rfl BinR.eql (congrArg Value.bool (decide_eq_true hpo))) ?_)
             | (refine isD 50 ?_; refine WPl.rdX (ReadR.binE rfl rfl BinR.eql (congrArg Value.bool (decide_eq_false hpr))) ?_)
             | (refine isD 57 ?_; refine WPl.rdX (ReadR.binE rfl rfl BinR.lss (congrArg Value.bool (decide_eq_false hlo))) ?_)
             | (refine isOp ?_; first | refine WPl.rd ?_ | refine WPl.sk ?_ | refine WPl.rdB ?_)
             | (refine isAl ?_; refine WPl.nw fun g => ?_)
             | (refine isBx ?_; refine WPl.nw fun g => ?_)
             | (refine isSt ?_; first | refine WPl.st1 ?_ | refine WPl.stA ?_ | refine WPl.stEB ?_ | refine WPl.stRB ?_)
             | (show WPl _ _ _ _ _ _ _ (⟨_, .indexAddr _ _ _, _, _, _, _⟩ :: _) _; refine WPl.rdX (ReadR.indexE rfl rfl hasA (by first | assumption | omega)) ?_)
             | (show WPl _ _ _ _ _ _ _ (⟨_, .fieldAddr _ _ _, _, _, _, _⟩ :: _) _; refine WPl.rdX (ReadR.fieldE rfl hasA (by first | assumption | omega)) ?_)
             | (show WPl _ _ _ _ _ _ _ (⟨_, .load _ _, _, _, _, _⟩ :: _) _; first | refine WPl.rdX (ReadR.loadE rfl hasA (by assumption)) ?_ | refine WPl.rdX (ReadR.loadES (by assumption) (by first | assumption | omega) rfl hasA) ?_)
             | (show WPl _ _ _ _ _ _ _ (⟨_, .slice _ _ _ _ _, _, _, _, _⟩ :: _) _; first | refine WPl.rdX (ReadR.sliceH rfl rfl hasA (by omega)) ?_ | refine WPl.rdX (ReadR.sliceL rfl rfl hasA (by omega)) ?_ | refine WPl.rdX (ReadR.sliceLH rfl rfl rfl hasA (by omega) (by omega)) ?_)
             | (refine WPl.spQ (fun hc => ?_) (fun hc => ?_) <;> try first | exact prA | (exfalso; first | omega))
             | fail)
            exact WPq.rnd (i + 1, at') (hst hnc hlo) (by dsimp only; omega)
      · have hnc : ¬ Cfl s f := by
          rintro (hc | hc)
          · exact hid hc
          · exact hpo (by rw [show f.s.port = s.port from congrArg Dr.port hc])
        by_cases hlo : f.s.id < s.id
        · skip
          repeat' (first
           | refine WPl.nil ?_ | refine WPq.then ?_ | refine WPq.thenR ?_ | refine WPq.thenE ?_ | refine WPq.blockN ?_ | refine WPq.blockR ?_ | refine WPq.blockE ?_ | refine WPq.blockO rfl ?_ | refine WPc.seq ?_ | refine WPc.block ?_ | refine WPc.ret ?_ | refine WPc.exit ?_ | refine WPc.skip ?_ | refine WPc.region ?_
           | (refine isCond ?_; first | refine WPc.cT ?_ | refine WPc.cF ?_ | (refine WPc.cQ (fun hc => ?_) (fun hc => ?_) <;> try first | exact prA | (exfalso; first | omega)))
           | (refine isD 17 ?_; refine WPl.rdX (ReadR.binE rfl rfl BinR.lss (congrArg Value.bool (decide_eq_true hlt'))) ?_)
           | (refine isD 25 ?_; refine WPl.rdX (ReadR.indexE (i := i) rfl rfl hasA hlt) ?_)
           | (refine isD 26 ?_; refine WPl.rdX (ReadR.loadES (cs := shC f.s f.v) hf3 (by omega) rfl hasA) ?_)
           | (refine isD 31 ?_; refine WPl.rdX (ReadR.binE rfl rfl BinR.eql (congrArg Value.bool (decide_eq_false hid))) ?_)
           | (refine isD 37 ?_; refine WPl.rdX (ReadR.binE rfl rfl BinR.adE (congrArg Value.bool (decide_eq_true had))) ?_)
           | (refine isD 43 ?_; refine WPl.rdX (ReadR.binE rfl rfl BinR.eql (congrArg Value.bool (decide_eq_false hpo))) ?_)
           | (refine isD 57 ?_; refine WPl.rdX (ReadR.binE rfl rfl BinR.lss (congrArg Value.bool (decide_eq_true hlo))) ?_)
           | (refine isOp ?_; first | refine WPl.rd ?_ | refine WPl.sk ?_ | refine WPl.rdB ?_)
           | (refine isAl ?_; refine WPl.nw fun g => ?_)
           | (refine isBx ?_; refine WPl.nw fun g => ?_)
           | (refine isSt ?_; first | refine WPl.st1 ?_ | refine WPl.stA ?_ | refine WPl.stEB ?_ | refine WPl.stRB ?_)
           | (show WPl _ _ _ _ _ _ _ (⟨_, .indexAddr _ _ _, _, _, _, _⟩ :: _) _; refine WPl.rdX (ReadR.indexE rfl rfl hasA (by first | assumption | omega)) ?_)
           | (show WPl _ _ _ _ _ _ _ (⟨_, .fieldAddr _ _ _, _, _, _, _⟩ :: _) _; refine WPl.rdX (ReadR.fieldE rfl hasA (by first | assumption | omega)) ?_)
           | (show WPl _ _ _ _ _ _ _ (⟨_, .load _ _, _, _, _, _⟩ :: _) _; first | refine WPl.rdX (ReadR.loadE rfl hasA (by assumption)) ?_ | refine WPl.rdX (ReadR.loadES (by assumption) (by first | assumption | omega) rfl hasA) ?_)
           | (show WPl _ _ _ _ _ _ _ (⟨_, .slice _ _ _ _ _, _, _, _, _⟩ :: _) _; first | refine WPl.rdX (ReadR.sliceH rfl rfl hasA (by omega)) ?_ | refine WPl.rdX (ReadR.sliceL rfl rfl hasA (by omega)) ?_ | refine WPl.rdX (ReadR.sliceLH rfl rfl rfl hasA (by omega) (by omega)) ?_)
           | (refine WPl.spQ (fun hc => ?_) (fun hc => ?_) <;> try first | exact prA | (exfalso; first | omega))
           | fail)
          exact WPq.rnd (i + 1, i + 1) (hup hnc hlo) (by dsimp only; omega)
        · skip
          repeat' (first
           | refine WPl.nil ?_ | refine WPq.then ?_ | refine WPq.thenR ?_ | refine WPq.thenE ?_ | refine WPq.blockN ?_ | refine WPq.blockR ?_ | refine WPq.blockE ?_ | refine WPq.blockO rfl ?_ | refine WPc.seq ?_ | refine WPc.block ?_ | refine WPc.ret ?_ | refine WPc.exit ?_ | refine WPc.skip ?_ | refine WPc.region ?_
           | (refine isCond ?_; first | refine WPc.cT ?_ | refine WPc.cF ?_ | (refine WPc.cQ (fun hc => ?_) (fun hc => ?_) <;> try first | exact prA | (exfalso; first | omega)))
           | (refine isD 17 ?_; refine WPl.rdX (ReadR.binE rfl rfl BinR.lss (congrArg Value.bool (decide_eq_true hlt'))) ?_)
           | (refine isD 25 ?_; refine WPl.rdX (ReadR.indexE (i := i) rfl rfl hasA hlt) ?_)
           | (refine isD 26 ?_; refine WPl.rdX (ReadR.loadES (cs := shC f.s f.v) hf3 (by omega) rfl hasA) ?_)
           | (refine isD 31 ?_; refine WPl.rdX (ReadR.binE rfl rfl BinR.eql (congrArg Value.bool (decide_eq_false hid))) ?_)
           | (refine isD 37 ?_; refine WPl.rdX (ReadR.binE rfl rfl BinR.adE (congrArg Value.bool (decide_eq_true had))) ?_)
           | (refine isD 43 ?_; refine WPl.rdX (ReadR.binE rfl rfl BinR.eql (congrArg Value.bool (decide_eq_false hpo))) ?_)
           | (refine isD 57 ?_; refine WPl.rdX (ReadR.binE rfl rfl BinR.lss (congrArg Value.bool (decide_eq_false hlo))) ?_)
           | (refine isOp ?_; first | refine WPl.rd ?_ | refine WPl.sk ?_ | refine WPl.rdB ?_)
           | (refine isAl ?_; refine WPl.nw fun g => ?_)
           | (refine isBx ?_; refine WPl.nw fun g => ?_)
           | (refine isSt ?_; first | refine WPl.st1 ?_ | refine WPl.stA ?_ | refine WPl.stEB ?_ | refine WPl.stRB ?_)
           | (show WPl _ _ _ _ _ _ _ (⟨_, .indexAddr _ _ _, _, _, _, _⟩ :: _) _; refine WPl.rdX (ReadR.indexE rfl rfl hasA (by first | assumption | omega)) ?_)
           | (show WPl _ _ _ _ _ _ _ (⟨_, .fieldAddr _ _ _, _, _, _, _⟩ :: _) _; refine WPl.rdX (ReadR.fieldE rfl hasA (by first | assumption | omega)) ?_)
           | (show WPl _ _ _ _ _ _ _ (⟨_, .load _ _, _, _, _, _⟩ :: _) _; first | refine WPl.rdX (ReadR.loadE rfl hasA (by assumption)) ?_ | refine WPl.rdX (ReadR.loadES (by assumption) (by first | assumption | omega) rfl hasA) ?_)
           | (show WPl _ _ _ _ _ _ _ (⟨_, .slice _ _ _ _ _, _, _, _, _⟩ :: _) _; first | refine WPl.rdX (ReadR.sliceH rfl rfl hasA (by omega)) ?_ | refine WPl.rdX (ReadR.sliceL rfl rfl hasA (by omega)) ?_ | refine WPl.rdX (ReadR.sliceLH rfl rfl rfl hasA (by omega) (by omega)) ?_)
           | (refine WPl.spQ (fun hc => ?_) (fun hc => ?_) <;> try first | exact prA | (exfalso; first | omega))
           | fail)
          exact WPq.rnd (i + 1, at') (hst hnc hlo) (by dsimp only; omega)
    · have hnc : ¬ Cfl s f := by
        rintro (hc | hc)
        · exact hid hc
        · exact had (congrArg Dr.ad hc)
      by_cases hlo : f.s.id < s.id
      · skip
        repeat' (first
         | refine WPl.nil ?_ | refine WPq.then ?_ | refine WPq.thenR ?_ | refine WPq.thenE ?_ | refine WPq.blockN ?_ | refine WPq.blockR ?_ | refine WPq.blockE ?_ | refine WPq.blockO rfl ?_ | refine WPc.seq ?_ | refine WPc.block ?_ | refine WPc.ret ?_ | refine WPc.exit ?_ | refine WPc.skip ?_ | refine WPc.region ?_
         | (refine isCond ?_; first | refine WPc.cT ?_ | refine WPc.cF ?_ | (refine WPc.cQ (fun hc => ?_) (fun hc => ?_) <;> try first | exact prA | (exfalso; first | omega)))
         | (refine isD 17 ?_; refine WPl.rdX (ReadR.binE rfl rfl BinR.lss (congrArg Value.bool (decide_eq_true hlt'))) ?_)
         | (refine isD 25 ?_; refine WPl.rdX (ReadR.indexE (i := i) rfl rfl hasA hlt) ?_)
         | (refine isD 26 ?_; refine WPl.rdX (ReadR.loadES (cs := shC f.s f.v) hf3 (by omega) rfl hasA) ?_)
         | (refine isD 31 ?_; refine WPl.rdX (ReadR.binE rfl rfl BinR.eql (congrArg Value.bool (decide_eq_false hid))) ?_)
         | (refine isD 37 ?_; refine WPl.rdX (ReadR.binE rfl rfl BinR.adE (congrArg Value.bool (decide_eq_false had))) ?_)
         | (refine isD 57 ?_; refine WPl.rdX (ReadR.binE rfl rfl BinR.lss (congrArg Value.bool (decide_eq_true hlo))) ?_)
         | (refine isOp ?_; first | refine WPl.rd ?_ | refine WPl.sk ?_ | refine WPl.rdB ?_)
         | (refine isAl ?_; refine WPl.nw fun g => ?_)
         | (refine isBx ?_; refine WPl.nw fun g => ?_)
         | (refine isSt ?_; first | refine WPl.st1 ?_ | refine WPl.stA ?_ | refine WPl.stEB ?_ | refine WPl.stRB ?_)
         | (show WPl _ _ _ _ _ _ _ (⟨_, .indexAddr _ _ _, _, _, _, _⟩ :: _) _; refine WPl.rdX (ReadR.indexE rfl rfl hasA (by first | assumption | omega)) ?_)
         | (show WPl _ _ _ _ _ _ _ (⟨_, .fieldAddr _ _ _, _, _, _, _⟩ :: _) _; refine WPl.rdX (ReadR.fieldE rfl hasA (by first | assumption | omega)) ?_)
         | (show WPl _ _ _ _ _ _ _ (⟨_, .load _ _, _, _, _, _⟩ :: _) _; first | refine WPl.rdX (ReadR.loadE rfl hasA (by assumption)) ?_ | refine WPl.rdX (ReadR.loadES (by assumption) (by first | assumption | omega) rfl hasA) ?_)
         | (show WPl _ _ _ _ _ _ _ (⟨_, .slice _ _ _ _ _, _, _, _, _⟩ :: _) _; first | refine WPl.rdX (ReadR.sliceH rfl rfl hasA (by omega)) ?_ | refine WPl.rdX (ReadR.sliceL rfl rfl hasA (by omega)) ?_ | refine WPl.rdX (ReadR.sliceLH rfl rfl rfl hasA (by omega) (by omega)) ?_)
         | (refine WPl.spQ (fun hc => ?_) (fun hc => ?_) <;> try first | exact prA | (exfalso; first | omega))
         | fail)
        exact WPq.rnd (i + 1, i + 1) (hup hnc hlo) (by dsimp only; omega)
      · skip
        repeat' (first
         | refine WPl.nil ?_ | refine WPq.then ?_ | refine WPq.thenR ?_ | refine WPq.thenE ?_ | refine WPq.blockN ?_ | refine WPq.blockR ?_ | refine WPq.blockE ?_ | refine WPq.blockO rfl ?_ | refine WPc.seq ?_ | refine WPc.block ?_ | refine WPc.ret ?_ | refine WPc.exit ?_ | refine WPc.skip ?_ | refine WPc.region ?_
         | (refine isCond ?_; first | refine WPc.cT ?_ | refine WPc.cF ?_ | (refine WPc.cQ (fun hc => ?_) (fun hc => ?_) <;> try first | exact prA | (exfalso; first | omega)))
         | (refine isD 17 ?_; refine WPl.rdX (ReadR.binE rfl rfl BinR.lss (congrArg Value.bool (decide_eq_true hlt'))) ?_)
         | (refine isD 25 ?_; refine WPl.rdX (ReadR.indexE (i := i) rfl rfl hasA hlt) ?_)
         | (refine isD 26 ?_; refine WPl.rdX (ReadR.loadES (cs := shC f.s f.v) hf3 (by omega) rfl hasA) ?_)
         | (refine isD 31 ?_; refine WPl.rdX (ReadR.binE rfl rfl BinR.eql (congrArg Value.bool (decide_eq_false hid))) ?_)
         | (refine isD 37 ?_; refine WPl.rdX (ReadR.binE rfl rfl BinR.adE (congrArg Value.bool (decide_eq_false had))) ?_)
         | (refine isD 57 ?_; refine WPl.rdX (ReadR.binE rfl rfl BinR.lss (congrArg Value.bool (decide_eq_false hlo))) ?_)
         | (refine isOp ?_; first | refine WPl.rd ?_ | refine WPl.sk ?_ | refine WPl.rdB ?_)
         | (refine isAl ?_; refine WPl.nw fun g => ?_)
         | (refine isBx ?_; refine WPl.nw fun g => ?_)
         | (refine isSt ?_; first | refine WPl.st1 ?_ | refine WPl.stA ?_ | refine WPl.stEB ?_ | refine WPl.stRB ?_)
         | (show WPl _ _ _ _ _ _ _ (⟨_, .indexAddr _ _ _, _, _, _, _⟩ :: _) _; refine WPl.rdX (ReadR.indexE rfl rfl hasA (by first | assumption | omega)) ?_)
         | (show WPl _ _ _ _ _ _ _ (⟨_, .fieldAddr _ _ _, _, _, _, _⟩ :: _) _; refine WPl.rdX (ReadR.fieldE rfl hasA (by first | assumption | omega)) ?_)
         | (show WPl _ _ _ _ _ _ _ (⟨_, .load _ _, _, _, _, _⟩ :: _) _; first | refine WPl.rdX (ReadR.loadE rfl hasA (by assumption)) ?_ | refine WPl.rdX (ReadR.loadES (by assumption) (by first | assumption | omega) rfl hasA) ?_)
         | (show WPl _ _ _ _ _ _ _ (⟨_, .slice _ _ _ _ _, _, _, _, _⟩ :: _) _; first | refine WPl.rdX (ReadR.sliceH rfl rfl hasA (by omega)) ?_ | refine WPl.rdX (ReadR.sliceL rfl rfl hasA (by omega)) ?_ | refine WPl.rdX (ReadR.sliceLH rfl rfl rfl hasA (by omega) (by omega)) ?_)
         | (refine WPl.spQ (fun hc => ?_) (fun hc => ?_) <;> try first | exact prA | (exfalso; first | omega))
         | fail)
        exact WPq.rnd (i + 1, at') (hst hnc hlo) (by dsimp only; omega)
  have hiL : i = K.L.length := by omega
  subst hiL
  have hlt' : ¬ (K.L.length : Int) < (K.L.length : Int) := by omega
  have hfree := addS_free (L := K.L) (s := s) (nb := l.length) hmay fun x hx hc => by
    obtain ⟨j, hj⟩ := List.getElem?_of_mem hx
    exact hno j x (List.getElem?_eq_some_iff.1 hj).1 hj hc
  have hfree : addS K.sb s l.length = _ := hfree
  rw [hfree]
  by_cases h8 : 8 ≤ K.L.length
  · rw [if_pos h8]
    repeat' (first
     | refine WPl.nil ?_ | refine WPq.then ?_ | refine WPq.thenR ?_ | refine WPq.thenE ?_ | refine WPq.blockN ?_ | refine WPq.blockR ?_ | refine WPq.blockE ?_ | refine WPq.blockO rfl ?_ | refine WPc.seq ?_ | refine WPc.block ?_ | refine WPc.ret ?_ | refine WPc.exit ?_ | refine WPc.skip ?_ | refine WPc.region ?_
     | (refine isCond ?_; first | refine WPc.cT ?_ | refine WPc.cF ?_ | (refine WPc.cQ (fun hc => ?_) (fun hc => ?_) <;> try first | exact prA | (exfalso; first | omega)))
     | (refine isD 17 ?_; refine WPl.rdX (ReadR.binE rfl rfl BinR.lss (congrArg Value.bool (decide_eq_false hlt'))) ?_)
     | (refine isD 65 ?_; refine WPl.rdX (ReadR.binE rfl rfl BinR.geq (congrArg Value.bool (decide_eq_true (by omega)))) ?_)
     | (refine isOp ?_; first | refine WPl.rd ?_ | refine WPl.sk ?_ | refine WPl.rdB ?_)
     | (refine isAl ?_; refine WPl.nw fun g => ?_)
     | (refine isBx ?_; refine WPl.nw fun g => ?_)
     | (refine isSt ?_; first | refine WPl.st1 ?_ | refine WPl.stA ?_ | refine WPl.stEB ?_ | refine WPl.stRB ?_)
     | (show WPl _ _ _ _ _ _ _ (⟨_, .indexAddr _ _ _, _, _, _, _⟩ :: _) _; refine WPl.rdX (ReadR.indexE rfl rfl hasA (by first | assumption | omega)) ?_)
     | (show WPl _ _ _ _ _ _ _ (⟨_, .fieldAddr _ _ _, _, _, _, _⟩ :: _) _; refine WPl.rdX (ReadR.fieldE rfl hasA (by first | assumption | omega)) ?_)
     | (show WPl _ _ _ _ _ _ _ (⟨_, .load _ _, _, _, _, _⟩ :: _) _; first | refine WPl.rdX (ReadR.loadE rfl hasA (by assumption)) ?_ | refine WPl.rdX (ReadR.loadES (by assumption) (by first | assumption | omega) rfl hasA) ?_)
     | (show WPl _ _ _ _ _ _ _ (⟨_, .slice _ _ _ _ _, _, _, _, _⟩ :: _) _; first | refine WPl.rdX (ReadR.sliceH rfl rfl hasA (by omega)) ?_ | refine WPl.rdX (ReadR.sliceL rfl rfl hasA (by omega)) ?_ | refine WPl.rdX (ReadR.sliceLH rfl rfl rfl hasA (by omega) (by omega)) ?_)
     | (refine WPl.spQ (fun hc => ?_) (fun hc => ?_) <;> try first | exact prA | (exfalso; first | omega))
     | fail)
    exact WPq.dX (vs := [.int .i64 2]) (rfA gX K) ⟨K, rfl, hK, rfl, hv0, rfl⟩ (ho := rfA_own)
  · rw [if_neg h8]
    have hT := svsT (D := K.L) (i := at') (by omega)
    have hU := svsD (D := K.L) (i := at') (k := K.L.length - at') (by omega)
    have hones := svs_ones (D := K.L.take at') fun y hy => (hK y (List.mem_of_mem_take hy)).1
    have hones2 := svs_ones (D := K.L.drop at') fun y hy => (hK y (List.mem_of_mem_drop hy)).1
    repeat' (first
     | refine WPl.nil ?_ | refine WPq.then ?_ | refine WPq.thenR ?_ | refine WPq.thenE ?_ | refine WPq.blockN ?_ | refine WPq.blockR ?_ | refine WPq.blockE ?_ | refine WPq.blockO rfl ?_ | refine WPc.seq ?_ | refine WPc.block ?_ | refine WPc.ret ?_ | refine WPc.exit ?_ | refine WPc.skip ?_ | refine WPc.region ?_
     | (refine isCond ?_; first | refine WPc.cT ?_ | refine WPc.cF ?_ | (refine WPc.cQ (fun hc => ?_) (fun hc => ?_) <;> try first | exact prA | (exfalso; first | omega)))
     | (refine isD 17 ?_; refine WPl.rdX (ReadR.binE rfl rfl BinR.lss (congrArg Value.bool (decide_eq_false hlt'))) ?_)
     | (refine isD 65 ?_; refine WPl.rdX (ReadR.binE rfl rfl BinR.geq (congrArg Value.bool (decide_eq_false (by omega)))) ?_)
     | (refine isD 66 ?_; refine WPl.litS0 (fun v66 hv66 => ?_))
     | (refine isOp ?_; first | refine WPl.rd ?_ | refine WPl.sk ?_ | refine WPl.rdB ?_)
     | (refine isAl ?_; refine WPl.nw fun g => ?_)
     | (refine isBx ?_; refine WPl.nw fun g => ?_)
     | (refine isSt ?_; first | refine WPl.st1 ?_ | refine WPl.stA ?_ | refine WPl.stEB ?_ | refine WPl.stRB ?_)
     | (show WPl _ _ _ _ _ _ _ (⟨_, .indexAddr _ _ _, _, _, _, _⟩ :: _) _; refine WPl.rdX (ReadR.indexE rfl rfl hasA (by first | assumption | omega)) ?_)
     | (show WPl _ _ _ _ _ _ _ (⟨_, .fieldAddr _ _ _, _, _, _, _⟩ :: _) _; refine WPl.rdX (ReadR.fieldE rfl hasA (by first | assumption | omega)) ?_)
     | (show WPl _ _ _ _ _ _ _ (⟨_, .load _ _, _, _, _, _⟩ :: _) _; first | refine WPl.rdX (ReadR.loadE rfl hasA (by assumption)) ?_ | refine WPl.rdX (ReadR.loadES (by assumption) (by first | assumption | omega) rfl hasA) ?_)
     | (show WPl _ _ _ _ _ _ _ (⟨_, .slice _ _ _ _ _, _, _, _, _⟩ :: _) _; first | refine WPl.rdX (ReadR.sliceH rfl rfl hasA (by omega)) ?_ | refine WPl.rdX (ReadR.sliceL rfl rfl hasA (by omega)) ?_ | refine WPl.rdX (ReadR.sliceLH rfl rfl rfl hasA (by omega) (by omega)) ?_)
     | (refine WPl.spQ (fun hc => ?_) (fun hc => ?_) <;> try first | exact prA | (exfalso; first | omega))
     | fail)
    have hf66 := shC_ok (s := s) hv66
    have h23 : (flat (shC s v66)).length = 23 := svC_len ⟨v66, s, []⟩
    repeat' (first
     | refine WPl.nil ?_ | refine WPq.then ?_ | refine WPq.thenR ?_ | refine WPq.thenE ?_ | refine WPq.blockN ?_ | refine WPq.blockR ?_ | refine WPq.blockE ?_ | refine WPq.blockO rfl ?_ | refine WPc.seq ?_ | refine WPc.block ?_ | refine WPc.ret ?_ | refine WPc.exit ?_ | refine WPc.skip ?_ | refine WPc.region ?_
     | (refine isReg 15 ?_; refine WPc.drA [([22], [69, 70, 71, 72, 73, 74, 75, 76, 77, 78, 79, 80, 81, 82, 83, 84, 85, 86]), ([22], [68, 70, 71, 72, 73, 74, 75, 77, 78, 80, 81, 82, 83, 84, 85]), ([22], [68, 69, 74, 77, 78, 80, 81, 82, 83, 84, 85]), ([2, 22], [68, 69, 70, 74, 77, 78, 80, 81, 82, 83, 84, 85]), ([2, 3, 22], [68, 69, 70, 71, 74, 77, 78, 80, 81, 82, 83, 84, 85]), ([2, 3, 4, 22], [68, 69, 70, 71, 72, 74, 77, 78, 80, 81, 82, 83, 84, 85]), ([22], [68, 69, 70, 71, 72, 73, 77, 78, 80, 81, 82, 83, 84, 85]), ([2, 3, 4, 5, 6, 22], [68, 69, 70, 71, 72, 73, 74, 77, 78, 80, 81, 82, 83, 84, 85]), ([1, 2, 3, 4, 5, 6, 7, 22], [68, 69, 70, 71, 72, 73, 74, 75, 77, 78, 80, 81, 82, 83, 84, 85]), ([22], [68, 69, 70, 71, 72, 73, 74, 75, 76, 80, 81, 82, 83, 84, 85]), ([9, 22], [68, 69, 70, 71, 72, 73, 74, 75, 76, 77, 80, 81, 82, 83, 84, 85]), ([1, 2, 3, 4, 5, 6, 7, 8, 9, 10, 22], [68, 69, 70, 71, 72, 73, 74, 75, 76, 77, 78, 80, 81, 82, 83, 84, 85]), ([22], [68, 69, 70, 71, 72, 73, 74, 75, 76, 77, 78, 79, 84]), ([12, 22], [68, 69, 70, 71, 72, 73, 74, 75, 76, 77, 78, 79, 80, 84]), ([12, 13, 22], [68, 69, 70, 71, 72, 73, 74, 75, 76, 77, 78, 79, 80, 81, 84]), ([12, 13, 14, 22], [68, 69, 70, 71, 72, 73, 74, 75, 76, 77, 78, 79, 80, 81, 82, 84]), ([22], [68, 69, 70, 71, 72, 73, 74, 75, 76, 77, 78, 79, 80, 81, 82, 83]), ([12, 13, 14, 15, 16, 22], [68, 69, 70, 71, 72, 73, 74, 75, 76, 77, 78, 79, 80, 81, 82, 83, 84]), ([1, 2, 3, 4, 5, 6, 7, 8, 9, 10, 11, 12, 13, 14, 15, 16, 17, 22], [68, 69, 70, 71, 72, 73, 74, 75, 76, 77, 78, 79, 80, 81, 82, 83, 84, 85]), ([0, 1, 2, 3, 4, 5, 6, 7, 8, 9, 10, 11, 12, 13, 14, 15, 16, 17, 18, 22], [68, 69, 70, 71, 72, 73, 74, 75, 76, 77, 78, 79, 80, 81, 82, 83, 84, 85, 86]), ([0, 1, 2, 3, 4, 5, 6, 7, 8, 9, 10, 11, 12, 13, 14, 15, 16, 17, 18, 19, 22], [68, 69, 70, 71, 72, 73, 74, 75, 76, 77, 78, 79, 80, 81, 82, 83, 84, 85, 86, 87]), ([0, 1, 2, 3, 4, 5, 6, 7, 8, 9, 10, 11, 12, 13, 14, 15, 16, 17, 18, 19, 20, 22], [68, 69, 70, 71, 72, 73, 74, 75, 76, 77, 78, 79, 80, 81, 82, 83, 84, 85, 86, 87, 88])] [(1, 8), (8, 11), (11, 18), (22, 21), (22, 0), (22, 1), (22, 2), (22, 3), (22, 4), (22, 5), (22, 6), (22, 7), (22, 8), (22, 9), (22, 10), (22, 11), (22, 12), (22, 13), (22, 14), (22, 15), (22, 16), (22, 17), (22, 18), (22, 19), (22, 20)] (Γx := [bx gX 49 (rfc K.vL)]) ?_; dsimp only [prev0, List.length_nil, List.length_cons])
     | (refine gAny ?_; first | (refine gD 69 ?_; refine RGl.row (Γ1 := fun _ => []) (fun e hk => by (try dsimp only [bndR, ensR, oksR, fcutR, List.append_nil, List.nil_append, List.cons_append, List.append_assoc] at hk ⊢); exact OpT.buildS0) ?_) | (refine gD 76 ?_; refine RGl.row (Γ1 := fun e => [rowN 33 23 (e 1).1 0 ([])]) (m := fun e => 0 + at') (xs := fun e => svs (K.L.take at')) (fun e hk => by (try dsimp only [bndR, ensR, oksR, fcutR, List.append_nil, List.nil_append, List.cons_append, List.append_assoc] at hk ⊢); exact OpT.appendN (m := 0) (m2 := at') (xs := []) (ys := svs (K.L.take at')) rfl rfl takesA (hT ▸ HasS.sub (k := 0) (n := at') (sz := 23) hasA svs_len (by omega)) (by rw [svs_len, List.length_take]; congr 1; omega) hones (by omega)) ?_) | (refine gD 78 ?_; refine RGl.row (Γ1 := fun _ => []) (fun e hk => by (try dsimp only [bndR, ensR, oksR, fcutR, List.append_nil, List.nil_append, List.cons_append, List.append_assoc] at hk ⊢); exact OpT.buildS1 (ds := shC s v66) rfl hf66 (by first | assumption | rfl) rfl) ?_) | (refine gD 79 ?_; refine RGl.row (Γ1 := fun e => [rowN 33 23 (e 8).1 (0 + at') ((svs (K.L.take at')))]) (m := fun e => (0 + at') + 1) (xs := fun e => (svs (K.L.take at')) ++ flat (shC s v66)) (fun e hk => by (try dsimp only [bndR, ensR, oksR, fcutR, List.append_nil, List.nil_append, List.cons_append, List.append_assoc] at hk ⊢); exact OpT.appendN (m := (0 + at')) (m2 := 1) (xs := (svs (K.L.take at'))) (ys := flat (shC s v66)) rfl rfl takesA (hasA) (by rw [h23]) hf66.one (by omega)) ?_) | (refine gD 86 ?_; refine RGl.row (Γ1 := fun e => [rowN 33 23 (e 11).1 (0 + at' + 1) ((svs (K.L.take at') ++ flat (shC s v66)))]) (m := fun e => (0 + at' + 1) + (K.L.length - at')) (xs := fun e => (svs (K.L.take at') ++ flat (shC s v66)) ++ svs (K.L.drop at')) (fun e hk => by (try dsimp only [bndR, ensR, oksR, fcutR, List.append_nil, List.nil_append, List.cons_append, List.append_assoc] at hk ⊢); exact OpT.appendN (m := (0 + at' + 1)) (m2 := (K.L.length - at')) (xs := (svs (K.L.take at') ++ flat (shC s v66))) (ys := svs (K.L.drop at')) rfl rfl takesA (hU ▸ HasS.sub (k := at') (n := K.L.length - at') (sz := 23) hasA svs_len (by omega)) (by rw [svs_len, List.length_drop]) hones2 (by omega)) ?_) | (refine gSt ?_; refine RGl.turn (fun e hk => by (try dsimp only [bndR, ensR, oksR, fcutR, List.append_nil, List.nil_append, List.cons_append, List.append_assoc] at hk ⊢); exact OpT.store1 rfl rfl takesA (by (repeat (obtain ⟨hk1, hk⟩ := hk)) <;> assumption) (by dsimp only [sel, takeCh, upd, dropCh, appCh, setAt, chAt, Option.map_some, List.cons_append, List.nil_append, Nat.reduceSub, Nat.reduceAdd] <;> exact rfl)) ?_) | (refine gD 75 ?_; refine RGl.rdX (fun e hk => by (try dsimp only [bndR, ensR, oksR, fcutR, List.append_nil, List.nil_append, List.cons_append, List.append_assoc] at hk ⊢); exact ReadR.sliceH (j := at') rfl rfl hasA (by omega)) ?_) | (refine gD 85 ?_; refine RGl.rdX (fun e hk => by (try dsimp only [bndR, ensR, oksR, fcutR, List.append_nil, List.nil_append, List.cons_append, List.append_assoc] at hk ⊢); exact ReadR.sliceL (i := at') rfl rfl hasA (by omega)) ?_) | (refine gOp ?_; first | refine RGl.rdA ?_ | refine RGl.rdX (fun e hk => by (try dsimp only [bndR, ensR, oksR, fcutR, List.append_nil, List.nil_append, List.cons_append, List.append_assoc] at hk ⊢); exact readB) ?_) | (refine gLit ?_; refine RGl.litA ?_) | (refine gApp ?_; refine RGl.appA ?_) | (refine gSt ?_; refine RGl.stA ?_) | (refine RGl.fin (fun e hk => ?_); (try dsimp only [bndA, ensAR, oksA, List.append_nil, List.nil_append, List.cons_append, List.append_assoc] at hk ⊢); (repeat (obtain ⟨hk1, hk⟩ := hk))) | fail)
     | (refine isCond ?_; first | refine WPc.cT ?_ | refine WPc.cF ?_ | (refine WPc.cQ (fun hc => ?_) (fun hc => ?_) <;> try exact prA))
     | (refine isD 75 ?_; refine WPl.rdX (ReadR.sliceH (j := at') rfl rfl hasA (by omega)) ?_)
     | (refine isD 85 ?_; refine WPl.rdX (ReadR.sliceL (i := at') rfl rfl hasA (by omega)) ?_)
     | (refine isOp ?_; first | refine WPl.rd ?_ | refine WPl.sk ?_ | refine WPl.rdB ?_)
     | (refine isAl ?_; refine WPl.nw fun g => ?_)
     | (refine isBx ?_; refine WPl.nw fun g => ?_)
     | (refine isSt ?_; first | refine WPl.st1 ?_ | refine WPl.stA ?_ | refine WPl.stEB ?_ | refine WPl.stRB ?_)
     | (show WPl _ _ _ _ _ _ _ (⟨_, .indexAddr _ _ _, _, _, _, _⟩ :: _) _; refine WPl.rdX (ReadR.indexE rfl rfl hasA (by first | assumption | omega)) ?_)
     | (show WPl _ _ _ _ _ _ _ (⟨_, .fieldAddr _ _ _, _, _, _, _⟩ :: _) _; refine WPl.rdX (ReadR.fieldE rfl hasA (by first | assumption | omega)) ?_)
     | (show WPl _ _ _ _ _ _ _ (⟨_, .load _ _, _, _, _, _⟩ :: _) _; first | refine WPl.rdX (ReadR.loadE rfl hasA (by assumption)) ?_ | refine WPl.rdX (ReadR.loadES (by assumption) (by first | assumption | omega) rfl hasA) ?_)
     | (show WPl _ _ _ _ _ _ _ (⟨_, .slice _ _ _ _ _, _, _, _, _⟩ :: _) _; first | refine WPl.rdX (ReadR.sliceH rfl rfl hasA (by omega)) ?_ | refine WPl.rdX (ReadR.sliceL rfl rfl hasA (by omega)) ?_ | refine WPl.rdX (ReadR.sliceLH rfl rfl rfl hasA (by omega) (by omega)) ?_)
     | (refine WPl.spQ (fun hc => ?_) (fun hc => ?_) <;> try exact prA)
     | fail)
    have hln : 0 + at' + 1 + (K.L.length - at') = (K.L.take at' ++ ⟨v66, s, []⟩ :: K.L.drop at').length := by rw [List.length_append, List.length_cons, List.length_take, List.length_drop]; omega
    have hap : svs (K.L.take at') ++ flat (shC s v66) ++ svs (K.L.drop at') = svs (K.L.take at' ++ ⟨v66, s, []⟩ :: K.L.drop at') := by
      rw [List.append_assoc, ← svs_one (x := ⟨v66, s, []⟩), ← svs_app, ← svs_app]
      rfl
    rw [hln, hap]
    have hone : (e 18).1.oneCell' = true := by assumption
    have hins : insS K.sb ⟨s, []⟩ = K.sb.take at' ++ ⟨s, []⟩ :: K.sb.drop at' := insS_at (fun k b hk hb => by
      rw [List.getElem?_map] at hb
      obtain ⟨z, hz, rfl⟩ := Option.map_eq_some_iff.1 hb
      exact hlw k z hk hz) fun k b hk hb => by
      rw [List.getElem?_map] at hb
      obtain ⟨z, hz, rfl⟩ := Option.map_eq_some_iff.1 hb
      exact hhi k z hk (List.getElem?_eq_some_iff.1 hz).1 hz
    refine WPq.gbagI (row := brow) (es := (v66, []) :: K.B) (es' := K.B) (x := (v66, [])) brow_own (List.Perm.refl _) (by rw [brow0]; exact takesA) ?_
    exact WPq.dX (vs := [.int .i64 0]) (rfA gX ⟨(e 18).1, K.L.take at' ++ ⟨v66, s, []⟩ :: K.L.drop at', (v66, []) :: K.B⟩) ⟨⟨(e 18).1, K.L.take at' ++ ⟨v66, s, []⟩ :: K.L.drop at', (v66, []) :: K.B⟩, rfl, fun y hy => by
      rcases List.mem_append.1 hy with hy | hy
      · exact ⟨(hK y (List.mem_of_mem_take hy)).1, List.mem_cons_of_mem _ (hK y (List.mem_of_mem_take hy)).2⟩
      · rcases List.mem_cons.1 hy with rfl | hy
        · exact ⟨hv66, List.mem_cons_self ..⟩
        · exact ⟨(hK y (List.mem_of_mem_drop hy)).1, List.mem_cons_of_mem _ (hK y (List.mem_of_mem_drop hy)).2⟩, by
      show List.map SX.sb _ = insS K.sb _
      rw [hins, List.map_append, List.map_cons, List.map_take, List.map_drop], hone, rfl⟩ (ho := rfA_own)
end
end Go.Proofs.Ytpjfkomicehinaa
