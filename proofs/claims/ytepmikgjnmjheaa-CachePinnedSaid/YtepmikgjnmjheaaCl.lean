/- slices.Sort at ints (as in XSf, without what sorts structs). -/
import Derived.Test.YtepmikgjnmjheaaCi
namespace Go.Proofs.Ytepmikgjnmjheaa
section
open Go.RowKit Go.Sort Go.Lib Go.Shelf
set_option linter.unusedSimpArgs false
set_option linter.unusedVariables false
set_option linter.unusedSectionVars false
/-- How a row of one's own lies, as the sort's laws ask it. -/
theorem row_holds {w : World} {g k : Nat} {cur : Array Value} {T : TypeId} {xs : List Value} (hb : w.heap[g]? = some (.cells cur T (0, 0))) (ht : cur.toList.take xs.length = xs) : Sort.Holds id w g 0 xs.toArray := by
  intro j hj
  have hj' : j < xs.length := by simpa using hj
  refine ⟨?_, by simp [World.frozen?, hb]⟩
  have h1 : (cur.toList.take xs.length)[j]? = xs[j]? := by rw [ht]
  rw [List.getElem?_take_of_lt hj'] at h1
  simp only [World.cell?, hb, Nat.zero_add]
  simp only [Option.isSome_none, Bool.false_eq_true, if_false]
  rw [← Array.getElem?_toList, h1]
  simp [hj']
theorem row_put {w : World} {g n : Nat} {os : Array Obj} {cur : Array Value} {T : TypeId} {k cap m : Nat} {ys : List Value} (hb : w.heap[g]? = some (.cells cur T (0, 0))) (h1 : m ≤ cap) (h2 : cap ≤ maxLen) (h3 : cur.size = cap * k) (hl : ys.length = m * k) (Q : Nat → Prop) (hQ : Q g) :
    (rowN T k (.slice (some ⟨g, 0, none⟩) m cap) m ys).holds (Sort.grow (putRow id (Sort.ahead w n) g 0 ys.toArray) os) ∧ Mod Q w (Sort.grow (putRow id (Sort.ahead w n) g 0 ys.toArray) os) := by
  have hg : g < w.heap.size := (Array.getElem?_eq_some_iff.1 hb).1
  have hle : m * k ≤ cap * k := Nat.mul_le_mul_right k h1
  constructor
  · refine ⟨hl, .inr ⟨g, cap, putCells id 0 ys.toArray cur, rfl, Nat.zero_le _, ?_, h1, h2, by simp [putCells, h3], ?_⟩⟩
    · rw [heap_grow_old _ _ (by simpa using hg)]
      simp [putRow, mapBlock, Sort.ahead, Array.getElem?_modify, hb, onCells]
    · apply List.ext_getElem?
      intro j
      by_cases hj : j < m * k
      · rw [List.getElem?_take_of_lt hj, Array.getElem?_toList]
        simp [putCells, hl, hj, show j < cur.size by omega, show j < ys.length by omega]
      · rw [List.getElem?_take_eq_none (by omega), List.getElem?_eq_none (by omega)]
  · refine ⟨rfl, rfl, rfl, by simp, by simp, fun j hj hn => ?_⟩
    rw [heap_grow_old _ _ (by simpa using hj)]
    have : g ≠ j := fun e => hn (e ▸ hQ)
    simp [putRow, mapBlock, Sort.ahead, Array.getElem?_modify, this]
theorem not_own {g : Nat} : ¬ ownFp [] g := by rintro ⟨A, hA, _⟩; cases hA
section
variable {P : Program} {ρ : Ren}
theorem sortI_t (L : Lays.n189 P ρ) {T : TypeId} (hnone : Triple P (ρ.f 189) #[.slice none 0 0] [] (RVal (.tuple #[]))) (v : Value) (l : List Int) (hl : l.length < 4611686018427387904) :
    Triple P (ρ.f 189) #[v] [rowN T 1 v l.length (intsV l)] (RTurns (.tuple #[]) [rowN T 1 v l.length (intsV (l.mergeSort fun x y => decide (x ≤ y)))]) := by
  intro w hw ha
  have hrow := hw _ (List.mem_cons_self ..)
  have hlen : (intsV l).length = l.length * 1 := by simp [intsV]
  rcases hrow.2 with ⟨hv, h0⟩ | ⟨g0, cap, cur, hv, hB, hb, hnc, hcm, hcs, ht⟩
  · subst hv
    have : l = [] := List.eq_nil_of_length_eq_zero h0
    subst this
    refine (hnone w (fun A hA => by cases hA) .nil).mono ?_
    rintro e w' ⟨v, Γ', rfl, ⟨rfl, rfl⟩, hp⟩
    exact ⟨_, _, rfl, ⟨rfl, rfl⟩, .one (hp.mod.weaken fun g _ h => (not_own h).elim) ⟨by simp [intsV], .inl ⟨rfl, rfl⟩⟩ fun g hg => by cases hg⟩
  · subst hv
    have hblk : g0 < w.heap.size := (Array.getElem?_eq_some_iff.1 hb).1
    have hid : ∀ zs : List Int, ∀ w2 : World, putRow (Value.int .i64) w2 g0 0 zs.toArray = putRow id w2 g0 0 (intsV zs).toArray := fun zs w2 => by
      unfold putRow putCells
      congr 1
      funext c
      apply Array.ext
      · simp
      · intro i h1 h2
        simp [intsV]
        split
        · rename_i h9; simp [List.getElem?_eq_getElem h9]
        · rfl
    have hH : Sort.Holds (Value.int .i64) w g0 0 l.toArray := by
      have h2 := row_holds (k := 1) hb (by rw [hlen]; exact ht)
      intro j hj
      have hj' : j < (intsV l).toArray.size := by simpa [intsV] using hj
      have h3 := h2 j hj'
      refine ⟨?_, h3.2⟩
      have h4 := h3.1
      have hjl : j < l.length := by simpa using hj
      simpa [intsV, hjl] using h4
    have h := Any.slices_Sort_int L g0 0 cap l w hH hblk hl
    refine Calls.mono h ?_
    rintro e w' ⟨rfl, n, os, rfl⟩
    rw [hid]
    have hsl : (intsV (l.mergeSort fun x y => decide (x ≤ y))).length = l.length * 1 := by simp [intsV]
    have hfin := row_put (n := n) (os := os) hb hnc hcm hcs hsl (ownFp [rowN T 1 (.slice (some ⟨g0, 0, none⟩) l.length cap) l.length (intsV l)]) ⟨_, List.mem_singleton.2 rfl, rfl, rfl⟩
    exact ⟨_, _, rfl, ⟨rfl, rfl⟩, .one hfin.2 hfin.1 fun g' hg' => .inr (by cases hg'; exact ⟨_, List.mem_singleton.2 rfl, rfl, rfl⟩)⟩
end
theorem sort0_t : Triple Try.prog 75 #[.slice none 0 0] [] (RVal (.tuple #[])) := by
  intro w hw ha
  refine (Any.slices_Sort_int_none Try.sortI none 0 w).mono ?_
  rintro e w' ⟨rfl, rfl⟩
  exact ⟨_, _, rfl, ⟨rfl, rfl⟩, .nil (Mod.refl _ _)⟩
theorem sortInts_t (v : Value) (l : List Int) (hl : l.length < 4611686018427387904) :
    Triple Try.prog 75 #[v] [rowN 3 1 v l.length (intsV l)] (RTurns (.tuple #[]) [rowN 3 1 v l.length (intsV (l.mergeSort fun x y => decide (x ≤ y)))]) :=
  sortI_t Try.sortI sort0_t v l hl
end
end Go.Proofs.Ytepmikgjnmjheaa
/- Layer 5 (cache): contracts: Held, Dirty. -/
namespace Go.Proofs.Ytepmikgjnmjheaa
open Go.RowKit
set_option linter.unusedSimpArgs false
set_option linter.unusedVariables false
set_option maxRecDepth 20000
set_option maxHeartbeats 4000000
attribute [local irreducible] WPc WPl WPq ReadR OpT BinR HasS bx rdN rowN Take Takes Prov Triple ResF BuildP Done ag Int.decLt Int.decLe Int.instDecidableEq
attribute [local irreducible] mp rmp rg rgo bag vrow secs mput mget mfind mdel intsV skeys vault frs pickG
theorem isFull_t (f : Frm) (h : f.bv.oneCell' = true) : Triple Try.prog 60 #[ag (frC f)] [] (RVal (.bool f.full)) := by
  have hk : FOk (frC f) := .one1 rfl (.one1 rfl (.one1 rfl (.one1 rfl (.one1 rfl (.one1 h .nil)))))
  refine Triple.enter Try.func60 rfl Try.ntmps60 rfl (fun W => ?_)
  dsimp only [argsF, Nat.reduceAdd]
  repeat' (first
   | refine WPl.nil ?_ | refine WPq.then ?_ | refine WPq.thenR ?_ | refine WPq.thenE ?_ | refine WPq.blockN ?_ | refine WPq.blockR ?_ | refine WPq.blockE ?_ | refine WPq.blockO rfl ?_ | refine WPc.seq ?_ | refine WPc.block ?_ | refine WPc.ret ?_ | refine WPc.exit ?_ | refine WPc.skip ?_ | refine WPc.region ?_
   | (refine isCond ?_; first | refine WPc.cT ?_ | refine WPc.cF ?_ | (refine WPc.cQ (fun hc => ?_) (fun hc => ?_) <;> try exact prA))
   | (refine isD 1 ?_; refine WPl.boxC (frC f) hk rfl (fun g1 => ?_))
   | (refine isOp ?_; first | refine WPl.rd ?_ | refine WPl.sk ?_ | refine WPl.rdB ?_)
   | (refine isBx ?_; refine WPl.nw fun g => ?_)
   | (show WPl _ _ _ _ _ _ _ (⟨_, .indexAddr _ _ _, _, _, _, _⟩ :: _) _; refine WPl.rdX (ReadR.indexE rfl rfl hasA (by first | assumption | omega)) ?_)
   | (show WPl _ _ _ _ _ _ _ (⟨_, .fieldAddr _ _ _, _, _, _, _⟩ :: _) _; refine WPl.rdX (ReadR.fieldE rfl hasA (by first | assumption | omega)) ?_)
   | (show WPl _ _ _ _ _ _ _ (⟨_, .load _ _, _, _, _, _⟩ :: _) _; first | refine WPl.rdX (ReadR.loadE rfl hasA (by assumption)) ?_ | refine WPl.rdX (ReadR.loadES (by assumption) (by first | assumption | omega) rfl hasA) ?_)
   | (show WPl _ _ _ _ _ _ _ (⟨_, .slice _ _ _ _ _, _, _, _, _⟩ :: _) _; first | refine WPl.rdX (ReadR.sliceH rfl rfl hasA (by omega)) ?_ | refine WPl.rdX (ReadR.sliceL rfl rfl hasA (by omega)) ?_ | refine WPl.rdX (ReadR.sliceLH rfl rfl rfl hasA (by omega) (by omega)) ?_)
   | (refine WPl.spQ (fun hc => ?_) (fun hc => ?_) <;> try exact prA)
   | fail)
  all_goals exact WPq.dV
theorem isDirty_t (f : Frm) (h : f.bv.oneCell' = true) : Triple Try.prog 61 #[ag (frC f)] [] (RVal (.bool (f.full && f.dirty))) := by
  have hk : FOk (frC f) := .one1 rfl (.one1 rfl (.one1 rfl (.one1 rfl (.one1 rfl (.one1 h .nil)))))
  obtain ⟨fu, di, us, no, pi, bv, s⟩ := f
  cases fu with
  | true =>
    refine Triple.enter Try.func61 rfl Try.ntmps61 rfl (fun W => ?_)
    dsimp only [argsF, Nat.reduceAdd]
    repeat' (first
     | refine WPl.nil ?_ | refine WPq.then ?_ | refine WPq.thenR ?_ | refine WPq.thenE ?_ | refine WPq.blockN ?_ | refine WPq.blockR ?_ | refine WPq.blockE ?_ | refine WPq.blockO rfl ?_ | refine WPc.seq ?_ | refine WPc.block ?_ | refine WPc.ret ?_ | refine WPc.exit ?_ | refine WPc.skip ?_ | refine WPc.region ?_
     | (refine isCond ?_; first | refine WPc.cT ?_ | refine WPc.cF ?_ | (refine WPc.cQ (fun hc => ?_) (fun hc => ?_) <;> try exact prA))
     | (refine isD 1 ?_; refine WPl.boxC (frC ⟨true, di, us, no, pi, bv, s⟩) hk rfl (fun g1 => ?_))
     | (refine isOp ?_; first | refine WPl.rd ?_ | refine WPl.sk ?_ | refine WPl.rdB ?_)
     | (refine isBx ?_; refine WPl.nw fun g => ?_)
     | (show WPl _ _ _ _ _ _ _ (⟨_, .indexAddr _ _ _, _, _, _, _⟩ :: _) _; refine WPl.rdX (ReadR.indexE rfl rfl hasA (by first | assumption | omega)) ?_)
     | (show WPl _ _ _ _ _ _ _ (⟨_, .fieldAddr _ _ _, _, _, _, _⟩ :: _) _; refine WPl.rdX (ReadR.fieldE rfl hasA (by first | assumption | omega)) ?_)
     | (show WPl _ _ _ _ _ _ _ (⟨_, .load _ _, _, _, _, _⟩ :: _) _; first | refine WPl.rdX (ReadR.loadE rfl hasA (by assumption)) ?_ | refine WPl.rdX (ReadR.loadES (by assumption) (by first | assumption | omega) rfl hasA) ?_)
     | (show WPl _ _ _ _ _ _ _ (⟨_, .slice _ _ _ _ _, _, _, _, _⟩ :: _) _; first | refine WPl.rdX (ReadR.sliceH rfl rfl hasA (by omega)) ?_ | refine WPl.rdX (ReadR.sliceL rfl rfl hasA (by omega)) ?_ | refine WPl.rdX (ReadR.sliceLH rfl rfl rfl hasA (by omega) (by omega)) ?_)
     | (refine WPl.spQ (fun hc => ?_) (fun hc => ?_) <;> try exact prA)
     | fail)
    all_goals exact WPq.dV
  | false =>
    refine Triple.enter Try.func61 rfl Try.ntmps61 rfl (fun W => ?_)
    dsimp only [argsF, Nat.reduceAdd]
    repeat' (first
     | refine WPl.nil ?_ | refine WPq.then ?_ | refine WPq.thenR ?_ | refine WPq.thenE ?_ | refine WPq.blockN ?_ | refine WPq.blockR ?_ | refine WPq.blockE ?_ | refine WPq.blockO rfl ?_ | refine WPc.seq ?_ | refine WPc.block ?_ | refine WPc.ret ?_ | refine WPc.exit ?_ | refine WPc.skip ?_ | refine WPc.region ?_
     | (refine isCond ?_; first | refine WPc.cT ?_ | refine WPc.cF ?_ | (refine WPc.cQ (fun hc => ?_) (fun hc => ?_) <;> try exact prA))
     | (refine isD 1 ?_; refine WPl.boxC (frC ⟨false, di, us, no, pi, bv, s⟩) hk rfl (fun g1 => ?_))
     | (refine isOp ?_; first | refine WPl.rd ?_ | refine WPl.sk ?_ | refine WPl.rdB ?_)
     | (refine isBx ?_; refine WPl.nw fun g => ?_)
     | (show WPl _ _ _ _ _ _ _ (⟨_, .indexAddr _ _ _, _, _, _, _⟩ :: _) _; refine WPl.rdX (ReadR.indexE rfl rfl hasA (by first | assumption | omega)) ?_)
     | (show WPl _ _ _ _ _ _ _ (⟨_, .fieldAddr _ _ _, _, _, _, _⟩ :: _) _; refine WPl.rdX (ReadR.fieldE rfl hasA (by first | assumption | omega)) ?_)
     | (show WPl _ _ _ _ _ _ _ (⟨_, .load _ _, _, _, _, _⟩ :: _) _; first | refine WPl.rdX (ReadR.loadE rfl hasA (by assumption)) ?_ | refine WPl.rdX (ReadR.loadES (by assumption) (by first | assumption | omega) rfl hasA) ?_)
     | (show WPl _ _ _ _ _ _ _ (⟨_, .slice _ _ _ _ _, _, _, _, _⟩ :: _) _; first | refine WPl.rdX (ReadR.sliceH rfl rfl hasA (by omega)) ?_ | refine WPl.rdX (ReadR.sliceL rfl rfl hasA (by omega)) ?_ | refine WPl.rdX (ReadR.sliceLH rfl rfl rfl hasA (by omega) (by omega)) ?_)
     | (refine WPl.spQ (fun hc => ?_) (fun hc => ?_) <;> try exact prA)
     | fail)
    all_goals exact WPq.dV
theorem thoseN_t (ch : FuncId) : Triple Try.prog 59 #[.pointer none, .func (.func ch) #[] #[]] [] (RVal (.slice none 0 0)) := by
  refine Triple.enter Try.func59 rfl Try.ntmps59 rfl (fun W => ?_)
  dsimp only [argsF, Nat.reduceAdd]
  repeat' (first
   | refine WPl.nil ?_ | refine WPq.then ?_ | refine WPq.thenR ?_ | refine WPq.thenE ?_ | refine WPq.blockN ?_ | refine WPq.blockR ?_ | refine WPq.blockE ?_ | refine WPq.blockO rfl ?_ | refine WPc.seq ?_ | refine WPc.block ?_ | refine WPc.ret ?_ | refine WPc.exit ?_ | refine WPc.skip ?_ | refine WPc.region ?_
   | (refine isCond ?_; first | refine WPc.cT ?_ | refine WPc.cF ?_ | (refine WPc.cQ (fun hc => ?_) (fun hc => ?_) <;> try exact prA))
   | (refine isD 9 ?_; refine WPl.rdX (readP) ?_)
   | (refine isOp ?_; first | refine WPl.rd ?_ | refine WPl.sk ?_ | refine WPl.rdB ?_)
   | (refine isAl ?_; refine WPl.nw fun g => ?_)
   | (refine isSt ?_; first | refine WPl.st1 ?_ | refine WPl.stA ?_ | refine WPl.stEB ?_ | refine WPl.stRB ?_)
   | (show WPl _ _ _ _ _ _ _ (⟨_, .indexAddr _ _ _, _, _, _, _⟩ :: _) _; refine WPl.rdX (ReadR.indexE rfl rfl hasA (by first | assumption | omega)) ?_)
   | (show WPl _ _ _ _ _ _ _ (⟨_, .fieldAddr _ _ _, _, _, _, _⟩ :: _) _; refine WPl.rdX (ReadR.fieldE rfl hasA (by first | assumption | omega)) ?_)
   | (show WPl _ _ _ _ _ _ _ (⟨_, .load _ _, _, _, _, _⟩ :: _) _; first | refine WPl.rdX (ReadR.loadE rfl hasA (by assumption)) ?_ | refine WPl.rdX (ReadR.loadES (by assumption) (by first | assumption | omega) rfl hasA) ?_)
   | (show WPl _ _ _ _ _ _ _ (⟨_, .slice _ _ _ _ _, _, _, _, _⟩ :: _) _; first | refine WPl.rdX (ReadR.sliceH rfl rfl hasA (by omega)) ?_ | refine WPl.rdX (ReadR.sliceL rfl rfl hasA (by omega)) ?_ | refine WPl.rdX (ReadR.sliceLH rfl rfl rfl hasA (by omega) (by omega)) ?_)
   | (refine WPl.spQ (fun hc => ?_) (fun hc => ?_) <;> try exact prA)
   | fail)
  all_goals exact WPq.dV
def nosF (p : Frm → Bool) (fs : List Frm) : List Int := (fs.filter p).map (·.no)
theorem nosF_len {p : Frm → Bool} {fs : List Frm} : (nosF p fs).length ≤ fs.length := by
  unfold nosF; rw [List.length_map]; exact List.length_filter_le _ _
theorem nosF_next {p : Frm → Bool} {fs : List Frm} {i : Nat} {f : Frm} (h : fs[i]? = some f) : nosF p (fs.take (i + 1)) = nosF p (fs.take i) ++ if p f then [f.no] else [] := by
  unfold nosF
  rw [List.take_add_one, h, List.filter_append, List.map_append]
  congr 1
  show List.map _ (List.filter p [f]) = _
  rw [List.filter_cons]
  split <;> rfl
section
variable (gK gV : Nat) (vF : Value) (hand : Int) (fs : List Frm)
theorem those_t (ch : FuncId) (hc0 : isCode Try.prog ch = true) (p : Frm → Bool) (hp : ∀ f : Frm, f.bv.oneCell' = true → Triple Try.prog ch #[ag (frC f)] [] (RVal (.bool (p f)))) (h1 : ∀ f ∈ fs, f.bv.oneCell' = true) (hm : fs.length ≤ 1000) :
    Triple Try.prog 59 #[hC gK, .func (.func ch) #[] #[]] [rbx gK 86 (cxc gV vF hand), rdN vF fs.length (frs fs)] (RRow 3 1 (nosF p fs).length (intsV ((nosF p fs).mergeSort fun x y => decide (x ≤ y)))) := by
  have hL := frs_len (l := fs)
  have e1 : rowN 3 1 (.slice none 0 0) 0 [] = rowN 3 1 (.slice none 0 0) (nosF p (fs.take 0)).length (intsV (nosF p (fs.take 0))) := by with_unfolding_all rfl
  refine Triple.enter Try.func59 rfl Try.ntmps59 rfl (fun W => ?_)
  dsimp only [argsF, Nat.reduceAdd]
  refine WPc.nilRowN 3 1 ?_
  repeat' (first
   | refine WPl.nil ?_ | refine WPq.then ?_ | refine WPq.thenR ?_ | refine WPq.thenE ?_ | refine WPq.blockN ?_ | refine WPq.blockR ?_ | refine WPq.blockE ?_ | refine WPq.blockO rfl ?_ | refine WPc.seq ?_ | refine WPc.block ?_ | refine WPc.ret ?_ | refine WPc.exit ?_ | refine WPc.skip ?_ | refine WPc.region ?_
   | (refine isCond ?_; first | refine WPc.cT ?_ | refine WPc.cF ?_ | (refine WPc.cQ (fun hc => ?_) (fun hc => ?_) <;> try exact prA))
   | (refine isD 9 ?_; refine WPl.rdX (readP) ?_)
   | (refine isD 13 ?_; refine WPl.rdX (ReadR.loadO memA rfl rfl) ?_)
   | (refine isOp ?_; first | refine WPl.rd ?_ | refine WPl.sk ?_ | refine WPl.rdB ?_)
   | (refine isAl ?_; refine WPl.nw fun g => ?_)
   | (refine isSt ?_; first | refine WPl.st1 ?_ | refine WPl.stA ?_ | refine WPl.stEB ?_ | refine WPl.stRB ?_)
   | (show WPl _ _ _ _ _ _ _ (⟨_, .indexAddr _ _ _, _, _, _, _⟩ :: _) _; refine WPl.rdX (ReadR.indexE rfl rfl hasA (by first | assumption | omega)) ?_)
   | (show WPl _ _ _ _ _ _ _ (⟨_, .fieldAddr _ _ _, _, _, _, _⟩ :: _) _; refine WPl.rdX (ReadR.fieldE rfl hasA (by first | assumption | omega)) ?_)
   | (show WPl _ _ _ _ _ _ _ (⟨_, .load _ _, _, _, _, _⟩ :: _) _; first | refine WPl.rdX (ReadR.loadE rfl hasA (by assumption)) ?_ | refine WPl.rdX (ReadR.loadES (by assumption) (by first | assumption | omega) rfl hasA) ?_)
   | (show WPl _ _ _ _ _ _ _ (⟨_, .slice _ _ _ _ _, _, _, _, _⟩ :: _) _; first | refine WPl.rdX (ReadR.sliceH rfl rfl hasA (by omega)) ?_ | refine WPl.rdX (ReadR.sliceL rfl rfl hasA (by omega)) ?_ | refine WPl.rdX (ReadR.sliceLH rfl rfl rfl hasA (by omega) (by omega)) ?_)
   | (refine WPl.spQ (fun hc => ?_) (fun hc => ?_) <;> try exact prA)
   | fail)
  rw [e1]
  first | refine WPc.loop (σ := Nat × Value) (fun st => st.1 ≤ fs.length ∧ st.2.oneCell' = true) (fun st => [rbx gK 86 (cxc gV vF hand), rdN vF fs.length (frs fs), rowN 3 1 st.2 (nosF p (fs.take st.1)).length (intsV (nosF p (fs.take st.1)))]) (fun st => [(0, hC gK), (1, .func (.func ch) #[] #[]), (5, st.2), (13, vF), (14, .int .i64 (fs.length : Int)), (15, .int .i64 (st.1 : Int))]) (fun st => fs.length - st.1) ((0, .slice none 0 0)) ?_ takesA frsA (fun st km hx hk => ?_)
  · exact ⟨Nat.zero_le _, rfl⟩
  obtain ⟨i, vo⟩ := st
  obtain ⟨hi, hvo⟩ := hx
  dsimp only at hi hvo hk ⊢
  have hkm : km = fs.length - i := hk
  clear hk
  have hnl := nosF_len (p := p) (fs := fs.take i)
  rw [List.length_take] at hnl
  by_cases hlt : i < fs.length
  · obtain ⟨f, hf⟩ : ∃ f, fs[i]? = some f := ⟨_, List.getElem?_eq_getElem hlt⟩
    have hone := h1 f (List.mem_of_getElem? hf)
    have hfk : FOk (frC f) := .one1 rfl (.one1 rfl (.one1 rfl (.one1 rfl (.one1 rfl (.one1 hone .nil)))))
    have hfa := frs_at hf
    have c21 := hp f hone
    have hnx := nosF_next (p := p) hf
    cases hpf : p f with
    | true =>
      rw [hpf, if_pos rfl] at hnx
      rw [hpf] at c21
      have hrow : ∀ v2, rowN 3 1 v2 ((nosF p (fs.take i)).length + 1) (intsV (nosF p (fs.take i)) ++ [.int .i64 f.no]) = rowN 3 1 v2 (nosF p (fs.take (i + 1))).length (intsV (nosF p (fs.take (i + 1)))) := fun v2 => by
        rw [hnx, List.length_append]
        with_unfolding_all (unfold intsV; rw [List.map_append]; rfl)
      repeat' (first
       | refine WPl.nil ?_ | refine WPq.then ?_ | refine WPq.thenR ?_ | refine WPq.thenE ?_ | refine WPq.blockN ?_ | refine WPq.blockR ?_ | refine WPq.blockE ?_ | refine WPq.blockO rfl ?_ | refine WPc.seq ?_ | refine WPc.block ?_ | refine WPc.ret ?_ | refine WPc.exit ?_ | refine WPc.skip ?_ | refine WPc.region ?_
       | (refine isCond ?_; first | refine WPc.cT ?_ | refine WPc.cF ?_ | (refine WPc.cQ (fun hc => ?_) (fun hc => ?_) <;> try first | exact prA | (exfalso; first | omega)))
       | (refine isD 17 ?_; refine WPl.rdX (ReadR.indexE (i := i) rfl rfl hasA hlt) ?_)
       | (refine isD 18 ?_; refine WPl.rdX (ReadR.loadES (cs := frC f) hfa (by omega) rfl hasA) ?_)
       | (refine isD 7 ?_; first | (refine isAl ?_; refine WPl.nw fun g7 => ?_) | (refine isBx ?_; refine WPl.nw fun g7 => ?_))
       | (show WPl _ _ _ _ _ _ _ (⟨_, .store _ (.tmp 7) _, _, _, _, _⟩ :: _) _; refine WPl.stA (new := frC f) ?_ (hn := hfk))
       | (refine isD 21 ?_; refine WPl.cFV [ag (frC f)] [] c21 ?_ (hc := hc0))
       | (refine isLit ?_; refine WPl.lits fun w25 hw25 => ?_)
       | (refine isD 26 ?_; refine WPl.appN (m := (nosF p (fs.take i)).length) (m2 := 1) (xs := intsV (nosF p (fs.take i))) (ys := [.int .i64 f.no]) rfl (fun u hu => by rw [List.mem_singleton.1 hu]; rfl) (by omega) fun v2 hv2 => ?_)
       | (refine isOp ?_; first | refine WPl.rd ?_ | refine WPl.sk ?_ | refine WPl.rdB ?_)
       | (refine isAl ?_; refine WPl.nw fun g => ?_)
       | (refine isSt ?_; first | refine WPl.st1 ?_ | refine WPl.stA ?_ | refine WPl.stEB ?_ | refine WPl.stRB ?_)
       | (show WPl _ _ _ _ _ _ _ (⟨_, .indexAddr _ _ _, _, _, _, _⟩ :: _) _; refine WPl.rdX (ReadR.indexE rfl rfl hasA (by first | assumption | omega)) ?_)
       | (show WPl _ _ _ _ _ _ _ (⟨_, .fieldAddr _ _ _, _, _, _, _⟩ :: _) _; refine WPl.rdX (ReadR.fieldE rfl hasA (by first | assumption | omega)) ?_)
       | (show WPl _ _ _ _ _ _ _ (⟨_, .load _ _, _, _, _, _⟩ :: _) _; first | refine WPl.rdX (ReadR.loadE rfl hasA (by assumption)) ?_ | refine WPl.rdX (ReadR.loadES (by assumption) (by first | assumption | omega) rfl hasA) ?_)
       | (show WPl _ _ _ _ _ _ _ (⟨_, .slice _ _ _ _ _, _, _, _, _⟩ :: _) _; first | refine WPl.rdX (ReadR.sliceH rfl rfl hasA (by omega)) ?_ | refine WPl.rdX (ReadR.sliceL rfl rfl hasA (by omega)) ?_ | refine WPl.rdX (ReadR.sliceLH rfl rfl rfl hasA (by omega) (by omega)) ?_)
       | (refine WPl.spQ (fun hc => ?_) (fun hc => ?_) <;> try first | exact prA | (exfalso; first | omega))
       | fail)
      rw [hrow]
      exact WPq.rnd (i + 1, v2) ⟨hlt, hv2⟩ (by dsimp only; omega)
    | false =>
      rw [hpf, if_neg (by simp), List.append_nil] at hnx
      rw [hpf] at c21
      repeat' (first
       | refine WPl.nil ?_ | refine WPq.then ?_ | refine WPq.thenR ?_ | refine WPq.thenE ?_ | refine WPq.blockN ?_ | refine WPq.blockR ?_ | refine WPq.blockE ?_ | refine WPq.blockO rfl ?_ | refine WPc.seq ?_ | refine WPc.block ?_ | refine WPc.ret ?_ | refine WPc.exit ?_ | refine WPc.skip ?_ | refine WPc.region ?_
       | (refine isCond ?_; first | refine WPc.cT ?_ | refine WPc.cF ?_ | (refine WPc.cQ (fun hc => ?_) (fun hc => ?_) <;> try first | exact prA | (exfalso; first | omega)))
       | (refine isD 17 ?_; refine WPl.rdX (ReadR.indexE (i := i) rfl rfl hasA hlt) ?_)
       | (refine isD 18 ?_; refine WPl.rdX (ReadR.loadES (cs := frC f) hfa (by omega) rfl hasA) ?_)
       | (refine isD 7 ?_; first | (refine isAl ?_; refine WPl.nw fun g7 => ?_) | (refine isBx ?_; refine WPl.nw fun g7 => ?_))
       | (show WPl _ _ _ _ _ _ _ (⟨_, .store _ (.tmp 7) _, _, _, _, _⟩ :: _) _; refine WPl.stA (new := frC f) ?_ (hn := hfk))
       | (refine isD 21 ?_; refine WPl.cFV [ag (frC f)] [] c21 ?_ (hc := hc0))
       | (refine isOp ?_; first | refine WPl.rd ?_ | refine WPl.sk ?_ | refine WPl.rdB ?_)
       | (refine isAl ?_; refine WPl.nw fun g => ?_)
       | (refine isSt ?_; first | refine WPl.st1 ?_ | refine WPl.stA ?_ | refine WPl.stEB ?_ | refine WPl.stRB ?_)
       | (show WPl _ _ _ _ _ _ _ (⟨_, .indexAddr _ _ _, _, _, _, _⟩ :: _) _; refine WPl.rdX (ReadR.indexE rfl rfl hasA (by first | assumption | omega)) ?_)
       | (show WPl _ _ _ _ _ _ _ (⟨_, .fieldAddr _ _ _, _, _, _, _⟩ :: _) _; refine WPl.rdX (ReadR.fieldE rfl hasA (by first | assumption | omega)) ?_)
       | (show WPl _ _ _ _ _ _ _ (⟨_, .load _ _, _, _, _, _⟩ :: _) _; first | refine WPl.rdX (ReadR.loadE rfl hasA (by assumption)) ?_ | refine WPl.rdX (ReadR.loadES (by assumption) (by first | assumption | omega) rfl hasA) ?_)
       | (show WPl _ _ _ _ _ _ _ (⟨_, .slice _ _ _ _ _, _, _, _, _⟩ :: _) _; first | refine WPl.rdX (ReadR.sliceH rfl rfl hasA (by omega)) ?_ | refine WPl.rdX (ReadR.sliceL rfl rfl hasA (by omega)) ?_ | refine WPl.rdX (ReadR.sliceLH rfl rfl rfl hasA (by omega) (by omega)) ?_)
       | (refine WPl.spQ (fun hc => ?_) (fun hc => ?_) <;> try first | exact prA | (exfalso; first | omega))
       | fail)
      rw [← hnx]
      exact WPq.rnd (i + 1, vo) ⟨hlt, hvo⟩ (by dsimp only; omega)
  · have hil : fs.take i = fs := List.take_of_length_le (by omega)
    rw [hil]
    have c29 := sortInts_t vo (nosF p fs) (by have := nosF_len (p := p) (fs := fs); omega)
    have hll : (nosF p fs).length = ((nosF p fs).mergeSort fun x y => decide (x ≤ y)).length := by rw [List.length_mergeSort]
    repeat' (first
     | refine WPl.nil ?_ | refine WPq.then ?_ | refine WPq.thenR ?_ | refine WPq.thenE ?_ | refine WPq.blockN ?_ | refine WPq.blockR ?_ | refine WPq.blockE ?_ | refine WPq.blockO rfl ?_ | refine WPc.seq ?_ | refine WPc.block ?_ | refine WPc.ret ?_ | refine WPc.exit ?_ | refine WPc.skip ?_ | refine WPc.region ?_
     | (refine isCond ?_; first | refine WPc.cT ?_ | refine WPc.cF ?_ | (refine WPc.cQ (fun hc => ?_) (fun hc => ?_) <;> try first | exact prA | (exfalso; first | omega)))
     | (refine isC 29 ?_; refine WPl.cTs (c29) ?_; (try dsimp only [putF, List.cons_append, List.nil_append]))
     | (refine isOp ?_; first | refine WPl.rd ?_ | refine WPl.sk ?_ | refine WPl.rdB ?_)
     | (refine isAl ?_; refine WPl.nw fun g => ?_)
     | (refine isSt ?_; first | refine WPl.st1 ?_ | refine WPl.stA ?_ | refine WPl.stEB ?_ | refine WPl.stRB ?_)
     | (show WPl _ _ _ _ _ _ _ (⟨_, .indexAddr _ _ _, _, _, _, _⟩ :: _) _; refine WPl.rdX (ReadR.indexE rfl rfl hasA (by first | assumption | omega)) ?_)
     | (show WPl _ _ _ _ _ _ _ (⟨_, .fieldAddr _ _ _, _, _, _, _⟩ :: _) _; refine WPl.rdX (ReadR.fieldE rfl hasA (by first | assumption | omega)) ?_)
     | (show WPl _ _ _ _ _ _ _ (⟨_, .load _ _, _, _, _, _⟩ :: _) _; first | refine WPl.rdX (ReadR.loadE rfl hasA (by assumption)) ?_ | refine WPl.rdX (ReadR.loadES (by assumption) (by first | assumption | omega) rfl hasA) ?_)
     | (show WPl _ _ _ _ _ _ _ (⟨_, .slice _ _ _ _ _, _, _, _, _⟩ :: _) _; first | refine WPl.rdX (ReadR.sliceH rfl rfl hasA (by omega)) ?_ | refine WPl.rdX (ReadR.sliceL rfl rfl hasA (by omega)) ?_ | refine WPl.rdX (ReadR.sliceLH rfl rfl rfl hasA (by omega) (by omega)) ?_)
     | (refine WPl.spQ (fun hc => ?_) (fun hc => ?_) <;> try first | exact prA | (exfalso; first | omega))
     | fail)
    exact WPq.dR
theorem held_t (h1 : ∀ f ∈ fs, f.bv.oneCell' = true) (hm : fs.length ≤ 1000) : Triple Try.prog 33 #[hC gK] [rbx gK 86 (cxc gV vF hand), rdN vF fs.length (frs fs)] (RRow 3 1 (nosF (·.full) fs).length (intsV ((nosF (·.full) fs).mergeSort fun x y => decide (x ≤ y)))) := by
  have c4 := those_t gK gV vF hand fs 60 (by kernel_rfl) (·.full) isFull_t h1 hm
  refine Triple.enter Try.func33 rfl Try.ntmps33 rfl (fun W => ?_)
  dsimp only [argsF, Nat.reduceAdd]
  repeat' (first
   | refine WPl.nil ?_ | refine WPq.then ?_ | refine WPq.thenR ?_ | refine WPq.thenE ?_ | refine WPq.blockN ?_ | refine WPq.blockR ?_ | refine WPq.blockE ?_ | refine WPq.blockO rfl ?_ | refine WPc.seq ?_ | refine WPc.block ?_ | refine WPc.ret ?_ | refine WPc.exit ?_ | refine WPc.skip ?_ | refine WPc.region ?_
   | (refine isCond ?_; first | refine WPc.cT ?_ | refine WPc.cF ?_ | (refine WPc.cQ (fun hc => ?_) (fun hc => ?_) <;> try exact prA))
   | (refine isC 4 ?_; refine WPl.cR c4 (fun v4 hv4 => ?_) (hΔ := provsW))
   | (refine isOp ?_; first | refine WPl.rd ?_ | refine WPl.sk ?_ | refine WPl.rdB ?_)
   | (show WPl _ _ _ _ _ _ _ (⟨_, .indexAddr _ _ _, _, _, _, _⟩ :: _) _; refine WPl.rdX (ReadR.indexE rfl rfl hasA (by first | assumption | omega)) ?_)
   | (show WPl _ _ _ _ _ _ _ (⟨_, .fieldAddr _ _ _, _, _, _, _⟩ :: _) _; refine WPl.rdX (ReadR.fieldE rfl hasA (by first | assumption | omega)) ?_)
   | (show WPl _ _ _ _ _ _ _ (⟨_, .load _ _, _, _, _, _⟩ :: _) _; first | refine WPl.rdX (ReadR.loadE rfl hasA (by assumption)) ?_ | refine WPl.rdX (ReadR.loadES (by assumption) (by first | assumption | omega) rfl hasA) ?_)
   | (show WPl _ _ _ _ _ _ _ (⟨_, .slice _ _ _ _ _, _, _, _, _⟩ :: _) _; first | refine WPl.rdX (ReadR.sliceH rfl rfl hasA (by omega)) ?_ | refine WPl.rdX (ReadR.sliceL rfl rfl hasA (by omega)) ?_ | refine WPl.rdX (ReadR.sliceLH rfl rfl rfl hasA (by omega) (by omega)) ?_)
   | (refine WPl.spQ (fun hc => ?_) (fun hc => ?_) <;> try exact prA)
   | fail)
  exact WPq.dR
theorem dirty_t (h1 : ∀ f ∈ fs, f.bv.oneCell' = true) (hm : fs.length ≤ 1000) : Triple Try.prog 40 #[hC gK] [rbx gK 86 (cxc gV vF hand), rdN vF fs.length (frs fs)] (RRow 3 1 (nosF (fun f => f.full && f.dirty) fs).length (intsV ((nosF (fun f => f.full && f.dirty) fs).mergeSort fun x y => decide (x ≤ y)))) := by
  have c4 := those_t gK gV vF hand fs 61 (by kernel_rfl) (fun f => f.full && f.dirty) isDirty_t h1 hm
  refine Triple.enter Try.func40 rfl Try.ntmps40 rfl (fun W => ?_)
  dsimp only [argsF, Nat.reduceAdd]
  repeat' (first
   | refine WPl.nil ?_ | refine WPq.then ?_ | refine WPq.thenR ?_ | refine WPq.thenE ?_ | refine WPq.blockN ?_ | refine WPq.blockR ?_ | refine WPq.blockE ?_ | refine WPq.blockO rfl ?_ | refine WPc.seq ?_ | refine WPc.block ?_ | refine WPc.ret ?_ | refine WPc.exit ?_ | refine WPc.skip ?_ | refine WPc.region ?_
   | (refine isCond ?_; first | refine WPc.cT ?_ | refine WPc.cF ?_ | (refine WPc.cQ (fun hc => ?_) (fun hc => ?_) <;> try exact prA))
   | (refine isC 4 ?_; refine WPl.cR c4 (fun v4 hv4 => ?_) (hΔ := provsW))
   | (refine isOp ?_; first | refine WPl.rd ?_ | refine WPl.sk ?_ | refine WPl.rdB ?_)
   | (show WPl _ _ _ _ _ _ _ (⟨_, .indexAddr _ _ _, _, _, _, _⟩ :: _) _; refine WPl.rdX (ReadR.indexE rfl rfl hasA (by first | assumption | omega)) ?_)
   | (show WPl _ _ _ _ _ _ _ (⟨_, .fieldAddr _ _ _, _, _, _, _⟩ :: _) _; refine WPl.rdX (ReadR.fieldE rfl hasA (by first | assumption | omega)) ?_)
   | (show WPl _ _ _ _ _ _ _ (⟨_, .load _ _, _, _, _, _⟩ :: _) _; first | refine WPl.rdX (ReadR.loadE rfl hasA (by assumption)) ?_ | refine WPl.rdX (ReadR.loadES (by assumption) (by first | assumption | omega) rfl hasA) ?_)
   | (show WPl _ _ _ _ _ _ _ (⟨_, .slice _ _ _ _ _, _, _, _, _⟩ :: _) _; first | refine WPl.rdX (ReadR.sliceH rfl rfl hasA (by omega)) ?_ | refine WPl.rdX (ReadR.sliceL rfl rfl hasA (by omega)) ?_ | refine WPl.rdX (ReadR.sliceLH rfl rfl rfl hasA (by omega) (by omega)) ?_)
   | (refine WPl.spQ (fun hc => ?_) (fun hc => ?_) <;> try exact prA)
   | fail)
  exact WPq.dR
theorem heldN_t : Triple Try.prog 33 #[.pointer none] [] (RVal (.slice none 0 0)) := by
  have c4 := thoseN_t 60
  refine Triple.enter Try.func33 rfl Try.ntmps33 rfl (fun W => ?_)
  dsimp only [argsF, Nat.reduceAdd]
  repeat' (first
   | refine WPl.nil ?_ | refine WPq.then ?_ | refine WPq.thenR ?_ | refine WPq.thenE ?_ | refine WPq.blockN ?_ | refine WPq.blockR ?_ | refine WPq.blockE ?_ | refine WPq.blockO rfl ?_ | refine WPc.seq ?_ | refine WPc.block ?_ | refine WPc.ret ?_ | refine WPc.exit ?_ | refine WPc.skip ?_ | refine WPc.region ?_
   | (refine isCond ?_; first | refine WPc.cT ?_ | refine WPc.cF ?_ | (refine WPc.cQ (fun hc => ?_) (fun hc => ?_) <;> try exact prA))
   | (refine isC 4 ?_; refine WPl.cV (c4) ?_)
   | (refine isOp ?_; first | refine WPl.rd ?_ | refine WPl.sk ?_ | refine WPl.rdB ?_)
   | (show WPl _ _ _ _ _ _ _ (⟨_, .indexAddr _ _ _, _, _, _, _⟩ :: _) _; refine WPl.rdX (ReadR.indexE rfl rfl hasA (by first | assumption | omega)) ?_)
   | (show WPl _ _ _ _ _ _ _ (⟨_, .fieldAddr _ _ _, _, _, _, _⟩ :: _) _; refine WPl.rdX (ReadR.fieldE rfl hasA (by first | assumption | omega)) ?_)
   | (show WPl _ _ _ _ _ _ _ (⟨_, .load _ _, _, _, _, _⟩ :: _) _; first | refine WPl.rdX (ReadR.loadE rfl hasA (by assumption)) ?_ | refine WPl.rdX (ReadR.loadES (by assumption) (by first | assumption | omega) rfl hasA) ?_)
   | (show WPl _ _ _ _ _ _ _ (⟨_, .slice _ _ _ _ _, _, _, _, _⟩ :: _) _; first | refine WPl.rdX (ReadR.sliceH rfl rfl hasA (by omega)) ?_ | refine WPl.rdX (ReadR.sliceL rfl rfl hasA (by omega)) ?_ | refine WPl.rdX (ReadR.sliceLH rfl rfl rfl hasA (by omega) (by omega)) ?_)
   | (refine WPl.spQ (fun hc => ?_) (fun hc => ?_) <;> try exact prA)
   | fail)
  exact WPq.dV
theorem dirtyN_t : Triple Try.prog 40 #[.pointer none] [] (RVal (.slice none 0 0)) := by
  have c4 := thoseN_t 61
  refine Triple.enter Try.func40 rfl Try.ntmps40 rfl (fun W => ?_)
  dsimp only [argsF, Nat.reduceAdd]
  repeat' (first
   | refine WPl.nil ?_ | refine WPq.then ?_ | refine WPq.thenR ?_ | refine WPq.thenE ?_ | refine WPq.blockN ?_ | refine WPq.blockR ?_ | refine WPq.blockE ?_ | refine WPq.blockO rfl ?_ | refine WPc.seq ?_ | refine WPc.block ?_ | refine WPc.ret ?_ | refine WPc.exit ?_ | refine WPc.skip ?_ | refine WPc.region ?_
   | (refine isCond ?_; first | refine WPc.cT ?_ | refine WPc.cF ?_ | (refine WPc.cQ (fun hc => ?_) (fun hc => ?_) <;> try exact prA))
   | (refine isC 4 ?_; refine WPl.cV (c4) ?_)
   | (refine isOp ?_; first | refine WPl.rd ?_ | refine WPl.sk ?_ | refine WPl.rdB ?_)
   | (show WPl _ _ _ _ _ _ _ (⟨_, .indexAddr _ _ _, _, _, _, _⟩ :: _) _; refine WPl.rdX (ReadR.indexE rfl rfl hasA (by first | assumption | omega)) ?_)
   | (show WPl _ _ _ _ _ _ _ (⟨_, .fieldAddr _ _ _, _, _, _, _⟩ :: _) _; refine WPl.rdX (ReadR.fieldE rfl hasA (by first | assumption | omega)) ?_)
   | (show WPl _ _ _ _ _ _ _ (⟨_, .load _ _, _, _, _, _⟩ :: _) _; first | refine WPl.rdX (ReadR.loadE rfl hasA (by assumption)) ?_ | refine WPl.rdX (ReadR.loadES (by assumption) (by first | assumption | omega) rfl hasA) ?_)
   | (show WPl _ _ _ _ _ _ _ (⟨_, .slice _ _ _ _ _, _, _, _, _⟩ :: _) _; first | refine WPl.rdX (ReadR.sliceH rfl rfl hasA (by omega)) ?_ | refine WPl.rdX (ReadR.sliceL rfl rfl hasA (by omega)) ?_ | refine WPl.rdX (ReadR.sliceLH rfl rfl rfl hasA (by omega) (by omega)) ?_)
   | (refine WPl.spQ (fun hc => ?_) (fun hc => ?_) <;> try exact prA)
   | fail)
  exact WPq.dV
end
end Go.Proofs.Ytepmikgjnmjheaa
/- Law 05 (cache): contracts; what lives. -/
namespace Go.Proofs.Ytepmikgjnmjheaa
open Go.RowKit
set_option linter.unusedSimpArgs false
set_option linter.unusedVariables false
set_option maxRecDepth 20000
set_option maxHeartbeats 4000000
attribute [local irreducible] WPc WPl WPq ReadR OpT BinR HasS bx rdN rowN Take Takes Prov Triple ResF BuildP Done ag Int.decLt Int.decLe Int.instDecidableEq
attribute [local irreducible] mp rmp rg rgo bag vrow secs mput mget mfind mdel intsV skeys vault frs pickG secF
theorem full5_t (b : UInt8) : Triple Try.prog 36 #[.int .u8 ((b.toNat : Nat) : Int)] [] (ROb (List.replicate 256 b)) := by
  refine Triple.enter Try.func36 rfl Try.ntmps36 rfl (fun W => ?_)
  dsimp only [argsF, Nat.reduceAdd]
  repeat' (first
   | refine WPl.nil ?_ | refine WPq.then ?_ | refine WPq.thenR ?_ | refine WPq.thenE ?_ | refine WPq.blockN ?_ | refine WPq.blockR ?_ | refine WPq.blockE ?_ | refine WPq.blockO rfl ?_ | refine WPc.seq ?_ | refine WPc.block ?_ | refine WPc.ret ?_ | refine WPc.exit ?_ | refine WPc.skip ?_ | refine WPc.region ?_
   | (refine isCond ?_; first | refine WPc.cT ?_ | refine WPc.cF ?_ | (refine WPc.cQ (fun hc => ?_) (fun hc => ?_) <;> try exact prA))
   | (refine isMk ?_; refine WPl.mk fun v hv => ?_)
   | (refine isOp ?_; first | refine WPl.rd ?_ | refine WPl.sk ?_ | refine WPl.rdB ?_)
   | (refine isSt ?_; first | refine WPl.st1 ?_ | refine WPl.stA ?_ | refine WPl.stEB ?_ | refine WPl.stRB ?_)
   | (show WPl _ _ _ _ _ _ _ (⟨_, .indexAddr _ _ _, _, _, _, _⟩ :: _) _; refine WPl.rdX (ReadR.indexE rfl rfl hasA (by first | assumption | omega)) ?_)
   | (show WPl _ _ _ _ _ _ _ (⟨_, .fieldAddr _ _ _, _, _, _, _⟩ :: _) _; refine WPl.rdX (ReadR.fieldE rfl hasA (by first | assumption | omega)) ?_)
   | (show WPl _ _ _ _ _ _ _ (⟨_, .load _ _, _, _, _, _⟩ :: _) _; first | refine WPl.rdX (ReadR.loadE rfl hasA (by assumption)) ?_ | refine WPl.rdX (ReadR.loadES (by assumption) (by first | assumption | omega) rfl hasA) ?_)
   | (show WPl _ _ _ _ _ _ _ (⟨_, .slice _ _ _ _ _, _, _, _, _⟩ :: _) _; first | refine WPl.rdX (ReadR.sliceH rfl rfl hasA (by omega)) ?_ | refine WPl.rdX (ReadR.sliceL rfl rfl hasA (by omega)) ?_ | refine WPl.rdX (ReadR.sliceLH rfl rfl rfl hasA (by omega) (by omega)) ?_)
   | (refine WPl.spQ (fun hc => ?_) (fun hc => ?_) <;> try exact prA)
   | fail)
  first | refine WPc.loop (σ := Nat) (fun st => st ≤ 256) (fun st => [ob v (List.replicate st b ++ (List.replicate 256 (0 : UInt8)).drop st)]) (fun st => [(0, .int .u8 ((b.toNat : Nat) : Int)), (3, v), (4, .int .i64 (st : Int))]) (fun st => 256 - st) (0) ?_ takesA frsA (fun st km hx hk => ?_)
  · omega
  have hl : (List.replicate st b ++ (List.replicate 256 (0 : UInt8)).drop st).length = 256 := by simp; omega
  repeat' (first
   | refine WPl.nil ?_ | refine WPq.then ?_ | refine WPq.thenR ?_ | refine WPq.thenE ?_ | refine WPq.blockN ?_ | refine WPq.blockR ?_ | refine WPq.blockE ?_ | refine WPq.blockO rfl ?_ | refine WPc.seq ?_ | refine WPc.block ?_ | refine WPc.ret ?_ | refine WPc.exit ?_ | refine WPc.skip ?_ | refine WPc.region ?_
   | (refine isCond ?_; first | refine WPc.cT ?_ | refine WPc.cF ?_ | (refine WPc.cQ (fun hc => ?_) (fun hc => ?_) <;> try exact prA))
   | (show WPl _ _ _ _ _ _ _ (⟨_, .store _ (.tmp 13) _, _, _, _, _⟩ :: _) _; first | refine WPl.stEB (b := b) ?_ | refine WPl.stRB (b := b) ?_)
   | (refine isMk ?_; refine WPl.mk fun v hv => ?_)
   | (refine isOp ?_; first | refine WPl.rd ?_ | refine WPl.sk ?_ | refine WPl.rdB ?_)
   | (refine isSt ?_; first | refine WPl.st1 ?_ | refine WPl.stA ?_ | refine WPl.stEB ?_ | refine WPl.stRB ?_)
   | (show WPl _ _ _ _ _ _ _ (⟨_, .indexAddr _ _ _, _, _, _, _⟩ :: _) _; refine WPl.rdX (ReadR.indexE rfl rfl hasA (by first | assumption | omega)) ?_)
   | (show WPl _ _ _ _ _ _ _ (⟨_, .fieldAddr _ _ _, _, _, _, _⟩ :: _) _; refine WPl.rdX (ReadR.fieldE rfl hasA (by first | assumption | omega)) ?_)
   | (show WPl _ _ _ _ _ _ _ (⟨_, .load _ _, _, _, _, _⟩ :: _) _; first | refine WPl.rdX (ReadR.loadE rfl hasA (by assumption)) ?_ | refine WPl.rdX (ReadR.loadES (by assumption) (by first | assumption | omega) rfl hasA) ?_)
   | (show WPl _ _ _ _ _ _ _ (⟨_, .slice _ _ _ _ _, _, _, _, _⟩ :: _) _; first | refine WPl.rdX (ReadR.sliceH rfl rfl hasA (by omega)) ?_ | refine WPl.rdX (ReadR.sliceL rfl rfl hasA (by omega)) ?_ | refine WPl.rdX (ReadR.sliceLH rfl rfl rfl hasA (by omega) (by omega)) ?_)
   | (refine WPl.spQ (fun hc => ?_) (fun hc => ?_) <;> try exact prA)
   | fail)
  · rw [rep_set (by simp; omega)]
    exact WPq.rnd (st + 1) (by omega) (by omega)
  · rw [show st = 256 by omega, List.drop_of_length_le (by simp), List.append_nil]
    exact WPq.dR
theorem csyncN_t : Triple Try.prog 37 #[.pointer none] [] (RVal (.int .i64 1)) := by
  refine Triple.enter Try.func37 rfl Try.ntmps37 rfl (fun W => ?_)
  dsimp only [argsF, Nat.reduceAdd]
  repeat' (first
   | refine WPl.nil ?_ | refine WPq.then ?_ | refine WPq.thenR ?_ | refine WPq.thenE ?_ | refine WPq.blockN ?_ | refine WPq.blockR ?_ | refine WPq.blockE ?_ | refine WPq.blockO rfl ?_ | refine WPc.seq ?_ | refine WPc.block ?_ | refine WPc.ret ?_ | refine WPc.exit ?_ | refine WPc.skip ?_ | refine WPc.region ?_
   | (refine isReg 7 ?_; refine WPc.drA [([], [23, 24, 25, 26, 27]), ([0], [19, 23, 24, 25, 26, 27]), ([0, 1], [19, 20, 23, 24, 25, 26, 27]), ([0, 1, 2], [19, 20, 21, 23, 24, 25, 26, 27]), ([], [19, 20, 21, 22, 24, 25, 26, 27]), ([], [19, 20, 21, 22, 23]), ([5], [19, 20, 21, 22, 23, 24]), ([5, 6], [19, 20, 21, 22, 23, 24, 25]), ([5, 6, 7], [19, 20, 21, 22, 23, 24, 25, 26]), ([0, 1, 2, 3, 4, 5, 6, 7, 8], [19, 20, 21, 22, 23, 24, 25, 26, 27]), ([0, 1, 2, 3, 4, 5, 6, 7, 8, 9], [19, 20, 21, 22, 23, 24, 25, 26, 27, 28])] [] (Γx := []) ?_; dsimp only [prev0, List.length_nil, List.length_cons])
   | (refine gAny ?_; first | (refine gD 8 ?_; refine RGl.rdX (fun e hk => by (try dsimp only [bndR, ensR, oksR, fcutR, List.append_nil, List.nil_append, List.cons_append, List.append_assoc] at hk ⊢); exact readP) ?_) | (refine gOp ?_; first | refine RGl.rdA ?_ | refine RGl.rdX (fun e hk => by (try dsimp only [bndR, ensR, oksR, fcutR, List.append_nil, List.nil_append, List.cons_append, List.append_assoc] at hk ⊢); exact readB) ?_) | (refine RGl.fin (fun e hk => ?_); (try dsimp only [bndA, ensAR, oksA, List.append_nil, List.nil_append, List.cons_append, List.append_assoc] at hk ⊢); (repeat (obtain ⟨hk1, hk⟩ := hk))) | fail)
   | (refine isCond ?_; first | refine WPc.cT ?_ | refine WPc.cF ?_ | (refine WPc.cQ (fun hc => ?_) (fun hc => ?_) <;> try exact prA))
   | (refine isD 8 ?_; refine WPl.rdX (readP) ?_)
   | (refine isOp ?_; first | refine WPl.rd ?_ | refine WPl.sk ?_ | refine WPl.rdB ?_)
   | (refine isSt ?_; first | refine WPl.st1 ?_ | refine WPl.stA ?_ | refine WPl.stEB ?_ | refine WPl.stRB ?_)
   | (show WPl _ _ _ _ _ _ _ (⟨_, .indexAddr _ _ _, _, _, _, _⟩ :: _) _; refine WPl.rdX (ReadR.indexE rfl rfl hasA (by first | assumption | omega)) ?_)
   | (show WPl _ _ _ _ _ _ _ (⟨_, .fieldAddr _ _ _, _, _, _, _⟩ :: _) _; refine WPl.rdX (ReadR.fieldE rfl hasA (by first | assumption | omega)) ?_)
   | (show WPl _ _ _ _ _ _ _ (⟨_, .load _ _, _, _, _, _⟩ :: _) _; first | refine WPl.rdX (ReadR.loadE rfl hasA (by assumption)) ?_ | refine WPl.rdX (ReadR.loadES (by assumption) (by first | assumption | omega) rfl hasA) ?_)
   | (show WPl _ _ _ _ _ _ _ (⟨_, .slice _ _ _ _ _, _, _, _, _⟩ :: _) _; first | refine WPl.rdX (ReadR.sliceH rfl rfl hasA (by omega)) ?_ | refine WPl.rdX (ReadR.sliceL rfl rfl hasA (by omega)) ?_ | refine WPl.rdX (ReadR.sliceLH rfl rfl rfl hasA (by omega) (by omega)) ?_)
   | (refine WPl.spQ (fun hc => ?_) (fun hc => ?_) <;> try exact prA)
   | fail)
  all_goals exact WPq.dV
def Cv.dnos (C : Cv) : List Int := C.fs.filterMap fun o => match o with | some f => if f.dirty then some f.no else none | none => none
def Cv.hnos (C : Cv) : List Int := C.fs.filterMap fun o => o.map (·.no)
theorem dnos_vw (C : CS) : nosF (fun f => f.full && f.dirty) C.fs = C.vw.dnos := by
  unfold Cv.dnos CS.vw nosF
  dsimp only
  induction C.fs with
  | nil => rfl
  | cons f l ih =>
    rw [List.filter_cons, List.map_cons, List.filterMap_cons]
    unfold Frm.vw
    cases f.full with
    | false => exact ih
    | true =>
      cases hd : f.dirty with
      | false => exact ih
      | true =>
        exact congrArg (List.cons f.no) ih
theorem hnos_vw (C : CS) : nosF (·.full) C.fs = C.vw.hnos := by
  unfold Cv.hnos CS.vw nosF
  dsimp only
  induction C.fs with
  | nil => rfl
  | cons f l ih =>
    rw [List.filter_cons, List.map_cons, List.filterMap_cons]
    unfold Frm.vw
    cases f.full with
    | false => exact ih
    | true =>
      exact congrArg (List.cons f.no) ih
def Cv.dirty (C : Cv) : List Int := C.dnos.mergeSort fun x y => decide (x ≤ y)
def Cv.held (C : Cv) : List Int := C.hnos.mergeSort fun x y => decide (x ≤ y)
section
variable (gK gV : Nat) (vF : Value) (mD : Nat) (vd : Value) (n m p k : Nat) (C : CS) (S : DS)
theorem cheld_t (h : CInv n m p C) (hm : m ≤ 64) : Triple Try.prog 33 #[hC gK] [rbx gK 86 (cxc gV vF (C.hand : Int)), rdN vF C.fs.length (frs C.fs)] (RRow 3 1 C.vw.held.length (intsV C.vw.held)) := by
  have := held_t gK gV vF (C.hand : Int) C.fs (fun f hf => (h.each f hf).one) (by have := h.len; omega)
  rw [hnos_vw] at this
  unfold Cv.held
  rw [List.length_mergeSort]
  exact this
theorem cdirty_t (h : CInv n m p C) (hm : m ≤ 64) : Triple Try.prog 40 #[hC gK] [rbx gK 86 (cxc gV vF (C.hand : Int)), rdN vF C.fs.length (frs C.fs)] (RRow 3 1 C.vw.dirty.length (intsV C.vw.dirty)) := by
  have := dirty_t gK gV vF (C.hand : Int) C.fs (fun f hf => (h.each f hf).one) (by have := h.len; omega)
  rw [dnos_vw] at this
  unfold Cv.dirty
  rw [List.length_mergeSort]
  exact this
def cl0 : Cv := ⟨List.replicate 8 none, 0⟩
def cl1 : Cv := ⟨(List.replicate 8 none).set 0 (some ⟨3, 0, true, true, secF 7⟩), 0⟩
def dl0 : Dv := ⟨f4, List.replicate 16 (secF 0), fun _ => [], 0⟩
theorem lput_t (hCv : C.vw = cl0) (hSv : S.vw = dl0) (h : CInv 16 8 0 C) (hd : DInv 16 0 S) (bv : Value) : Triple Try.prog 35 #[hC gK, .int .i64 3, bv] ([rb bv (secF 7).b] ++ cdA gK gV vF C mD vd S) (RPut gK gV vF mD vd 16 8 0 1 (cl1, dl0, 0)) := by
  have := cput_t gK gV vF mD vd 16 8 0 0 C S 3 bv (secF 7) h hd (by omega) (by omega) (by omega) (by omega) (by omega)
  rw [hCv, hSv, show cl0.put dl0 3 (secF 7) = (cl1, dl0, 0) by with_unfolding_all rfl] at this
  exact this
theorem lget_t (hCv : C.vw = cl1) (hSv : S.vw = dl0) (h : CInv 16 8 0 C) (hd : DInv 16 1 S) : Triple Try.prog 31 #[hC gK, .int .i64 3] (cdA gK gV vF C mD vd S) (RGet gK gV vF mD vd 16 8 0 2 (cl1, dl0, (secF 7).b, 0)) := by
  have := cget_t gK gV vF mD vd 16 8 0 1 C S 3 h hd (by omega) (by omega) (by omega) (by omega) (by omega)
  rw [hCv, hSv, show cl1.get dl0 3 = (cl1, dl0, (secF 7).b, 0) by with_unfolding_all rfl] at this
  exact this
theorem ldirty_t (hCv : C.vw = cl1) (h : CInv 16 8 0 C) : Triple Try.prog 40 #[hC gK] [rbx gK 86 (cxc gV vF (C.hand : Int)), rdN vF C.fs.length (frs C.fs)] (RRow 3 1 1 (intsV [3])) := by
  have := cdirty_t gK gV vF 16 8 0 C h (by omega)
  rw [hCv, show cl1.dirty = [3] by with_unfolding_all (unfold Cv.dirty; rw [show cl1.dnos = [3] by with_unfolding_all rfl]; exact List.mergeSort_singleton 3)] at this
  exact this
end
theorem clives_t : Triple Try.prog 34 #[] [] (RVal (.bool true)) := by
  have c9 := dnew_t 16 (by omega) (by omega)
  have hbb : (secF 7).b = List.replicate 256 (7 : UInt8) := by with_unfolding_all rfl
  have c24 := full5_t 7
  rw [← hbb] at c24
  refine Triple.enter Try.func34 rfl Try.ntmps34 rfl (fun W => ?_)
  dsimp only [argsF, Nat.reduceAdd]
  repeat' (first
   | refine WPl.nil ?_ | refine WPq.then ?_ | refine WPq.thenR ?_ | refine WPq.thenE ?_ | refine WPq.blockN ?_ | refine WPq.blockR ?_ | refine WPq.blockE ?_ | refine WPq.blockO rfl ?_ | refine WPc.seq ?_ | refine WPc.block ?_ | refine WPc.ret ?_ | refine WPc.exit ?_ | refine WPc.skip ?_ | refine WPc.region ?_
   | (refine isReg 7 ?_; refine WPc.drA [([], []), ([0], [31]), ([0, 1], [31, 32]), ([0, 1, 2], [31, 32, 33]), ([0, 1, 2, 3], [31, 32, 33, 34]), ([0, 1, 2, 3, 4], [31, 32, 33, 34, 35]), ([0, 1, 2, 3, 4, 5], [31, 32, 33, 34, 35, 36]), ([0, 1, 2, 3, 4, 5, 6], [31, 32, 33, 34, 35, 36, 37, 40, 41]), ([0, 1, 2, 3, 4, 5, 6, 7], [31, 32, 33, 34, 35, 36, 37, 38, 40, 41]), ([0, 1, 2, 3, 4, 5, 6], [31, 32, 33, 34, 35, 36, 37, 38, 39]), ([0, 1, 2, 3, 4, 5, 6, 9], [31, 32, 33, 34, 35, 36, 37, 38, 39, 40]), ([0, 1, 2, 3, 4, 5, 6, 7, 8, 9, 10], [31, 32, 33, 34, 35, 36, 37, 38, 39, 40, 41]), ([0, 1, 2, 3, 4, 5, 6, 7, 8, 9, 10, 11], [31, 32, 33, 34, 35, 36, 37, 38, 39, 40, 41, 42]), ([0, 1, 2, 3, 4, 5, 6, 7, 8, 9, 10, 11, 12], [31, 32, 33, 34, 35, 36, 37, 38, 39, 40, 41, 42, 43]), ([0, 1, 2, 3, 4, 5, 6, 7, 8, 9, 10, 11, 12, 13], [31, 32, 33, 34, 35, 36, 37, 38, 39, 40, 41, 42, 43, 44]), ([0, 1, 2, 3, 4, 5, 6, 7, 8, 9, 10, 11, 12, 13, 14], [31, 32, 33, 34, 35, 36, 37, 38, 39, 40, 41, 42, 43, 44, 45]), ([0, 1, 2, 3, 4, 5, 6, 7, 8, 9, 10, 11, 12, 13, 14, 15], [31, 32, 33, 34, 35, 36, 37, 38, 39, 40, 41, 42, 43, 44, 45, 46]), ([0, 1, 2, 3, 4, 5, 6, 7, 8, 9, 10, 11, 12, 13, 14, 15, 16], [31, 32, 33, 34, 35, 36, 37, 38, 39, 40, 41, 42, 43, 44, 45, 46, 47]), ([0, 1, 2, 3, 4, 5, 6, 7, 8, 9, 10, 11, 12, 13, 14, 15, 16, 17], [31, 32, 33, 34, 35, 36, 37, 38, 39, 40, 41, 42, 43, 44, 45, 46, 47, 48]), ([0, 1, 2, 3, 4, 5, 6, 7, 8, 9, 10, 11, 12, 13, 14, 15, 16, 17, 18], [31, 32, 33, 34, 35, 36, 37, 38, 39, 40, 41, 42, 43, 44, 45, 46, 47, 48, 49])] [] (Γx := []) ?_; dsimp only [prev0, List.length_nil, List.length_cons])
   | (refine gAny ?_; first | (refine gGd ?_; refine RGl.skp ?_) | (refine gC 24 ?_; refine RGl.row (Γ1 := fun _ => []) (fun e hk => OpT.callN (c24)) ?_) | (refine gC 40 ?_; refine RGl.row (Γ1 := fun _ => []) (fun e hk => OpT.callN (c24)) ?_) | (refine gD 18 ?_; refine RGl.rdX (fun e hk => by (try dsimp only [bndR, ensR, oksR, fcutR, List.append_nil, List.nil_append, List.cons_append, List.append_assoc] at hk ⊢); exact readP) ?_) | (refine gD 32 ?_; refine RGl.rdX (fun e hk => by (try dsimp only [bndR, ensR, oksR, fcutR, List.append_nil, List.nil_append, List.cons_append, List.append_assoc] at hk ⊢); exact ReadR.binE rfl rfl BinR.eql (congrArg Value.bool (decide_eq_true rfl))) ?_) | (refine gD 35 ?_; refine RGl.rdX (fun e hk => by (try dsimp only [bndR, ensR, oksR, fcutR, List.append_nil, List.nil_append, List.cons_append, List.append_assoc] at hk ⊢); exact ReadR.binE rfl rfl BinR.eql (congrArg Value.bool (decide_eq_true rfl))) ?_) | (refine gD 42 ?_; refine RGl.rdX (fun e hk => by (try dsimp only [bndR, ensR, oksR, fcutR, List.append_nil, List.nil_append, List.cons_append, List.append_assoc] at hk ⊢); exact ReadR.binE rfl rfl BinR.strUE (congrArg Value.bool (decide_eq_true rfl))) ?_) | (refine gOp ?_; (refine gC 46 ?_; refine RGl.row (Γ1 := fun _ => []) (fun e hk => OpT.callN c46 (hΔ := by (try dsimp only [bndR, ensR, oksR, fcutR, List.append_nil, List.nil_append, List.cons_append, List.append_assoc] at hk ⊢); exact provsW)) ?_)) | (refine gD 48 ?_; refine RGl.rdX (fun e hk => by (try dsimp only [bndR, ensR, oksR, fcutR, List.append_nil, List.nil_append, List.cons_append, List.append_assoc] at hk ⊢); exact ReadR.binE rfl rfl BinR.eql (congrArg Value.bool (decide_eq_true rfl))) ?_) | (refine gOp ?_; first | refine RGl.rdA ?_ | refine RGl.rdX (fun e hk => by (try dsimp only [bndR, ensR, oksR, fcutR, List.append_nil, List.nil_append, List.cons_append, List.append_assoc] at hk ⊢); exact readB) ?_) | (refine RGl.fin (fun e hk => ?_); (try dsimp only [bndA, ensAR, oksA, List.append_nil, List.nil_append, List.cons_append, List.append_assoc] at hk ⊢); (repeat (obtain ⟨hk1, hk⟩ := hk))) | fail)
   | (refine isCond ?_; first | refine WPc.cT ?_ | refine WPc.cF ?_ | (refine WPc.cQ (fun hc => ?_) (fun hc => ?_) <;> try exact prA))
   | (refine isC 9 ?_; refine WPl.cXs (c9) fun v Γ1 hR => ?_; (obtain ⟨gV, mD, vd, S0, rfl, hvd, hS0, hD0, rfl⟩ := hR; have c14 := cnew_t gV 8 (by omega) (by omega)); (try dsimp only [putF, List.cons_append, List.nil_append]))
   | (refine isC 14 ?_; refine WPl.cXs (c14) fun v Γ1 hR => ?_; (obtain ⟨gK, vF, C0, rfl, hvF, hC0, hI0, rfl⟩ := hR; have c25 := lput_t gK gV vF mD vd C0 S0 hC0 hS0 (hI0 16) hD0); (try dsimp only [putF, List.cons_append, List.nil_append]))
   | (refine isD 18 ?_; refine WPl.rdX (readP) ?_)
   | (refine isC 24 ?_; refine WPl.cR (c24) fun bv hbv => ?_)
   | (refine isC 25 ?_; refine WPl.cO (c25 bv) (fun v Γ1 hR => ?_) ?_; rotate_left; exact fpA; (obtain ⟨C1, S1, rfl, hC1, hS1, hI1, hD1, rfl⟩ := hR; have c28 := lget_t gK gV vF mD vd C1 S1 hC1 hS1 hI1 hD1); (try dsimp only [putF, List.cons_append, List.nil_append]))
   | (refine isC 28 ?_; refine WPl.cXs (c28) fun v Γ1 hR => ?_; (obtain ⟨C2, S2, sv, rfl, hsv, hC2, hS2, hI2, hD2, rfl⟩ := hR; have c46 := ldirty_t gK gV vF C2 hC2 hI2); (try dsimp only [putF, List.cons_append, List.nil_append]))
   | (refine isC 40 ?_; refine WPl.cR (c24) fun v hv => ?_)
   | (refine isOp ?_; first | refine WPl.rd ?_ | refine WPl.sk ?_ | refine WPl.rdB ?_)
   | (show WPl _ _ _ _ _ _ _ (⟨_, .indexAddr _ _ _, _, _, _, _⟩ :: _) _; refine WPl.rdX (ReadR.indexE rfl rfl hasA (by first | assumption | omega)) ?_)
   | (show WPl _ _ _ _ _ _ _ (⟨_, .fieldAddr _ _ _, _, _, _, _⟩ :: _) _; refine WPl.rdX (ReadR.fieldE rfl hasA (by first | assumption | omega)) ?_)
   | (show WPl _ _ _ _ _ _ _ (⟨_, .load _ _, _, _, _, _⟩ :: _) _; first | refine WPl.rdX (ReadR.loadE rfl hasA (by assumption)) ?_ | refine WPl.rdX (ReadR.loadES (by assumption) (by first | assumption | omega) rfl hasA) ?_)
   | (show WPl _ _ _ _ _ _ _ (⟨_, .slice _ _ _ _ _, _, _, _, _⟩ :: _) _; first | refine WPl.rdX (ReadR.sliceH rfl rfl hasA (by omega)) ?_ | refine WPl.rdX (ReadR.sliceL rfl rfl hasA (by omega)) ?_ | refine WPl.rdX (ReadR.sliceLH rfl rfl rfl hasA (by omega) (by omega)) ?_)
   | (refine WPl.spQ (fun hc => ?_) (fun hc => ?_) <;> try exact prA)
   | fail)
  all_goals exact WPq.dV
end Go.Proofs.Ytepmikgjnmjheaa
