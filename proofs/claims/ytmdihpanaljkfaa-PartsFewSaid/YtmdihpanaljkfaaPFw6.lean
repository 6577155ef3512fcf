/- What the row of partsFew_holds needs: part 6. -/
import Derived.Test.YtmdihpanaljkfaaPFw5
import Derived.Shelf.SlSortCmp.NoneTotal
import Derived.Shelf.Sort.Plain
import Derived.Test.YtmdihpanaljkfaaPFw3
import Derived.Lib.Bytealg
import Derived.Laws.Externs
import Derived.Shelf.SlGeneric
import Derived.Shelf.Small.Bits
import Derived.Test.YtmdihpanaljkfaaProg
/- Layer 35 (parts): a part beside others: contracts. -/
namespace Go.Proofs.Ytmdihpanaljkfaa
def overB (p o : Pt) : Bool := decide (max (p.pos : Int) (o.pos : Int) < min (p.fin : Int) (o.fin : Int))
def badB (p o : Pt) : Bool := (p.last && (o.last || decide ((p.fin : Int) < (o.fin : Int)))) || (o.last && decide ((o.fin : Int) < (p.fin : Int)))
def againstP (ps : List Pt) (p : Pt) : Int := if ps.any (overB p) = true then 7 else if ps.any (badB p) = true then 4 else 0
theorem any_yes {α : Type} {l : List α} {q : α → Bool} {i : Nat} {x : α} (h : l[i]? = some x) (hq : q x = true) : l.any q = true := List.any_eq_true.2 ⟨x, List.mem_of_getElem? h, hq⟩
theorem any_no {α : Type} {l : List α} {q : α → Bool} (h : ∀ j x, j < l.length → l[j]? = some x → q x = false) : l.any q = false := by
  rw [List.any_eq_false]
  intro x hx
  obtain ⟨j, hj⟩ := List.getElem?_of_mem hx
  rw [h j x (List.getElem?_eq_some_iff.1 hj).1 hj]
  decide
open Go.RowKit
set_option linter.unusedSimpArgs false
set_option linter.unusedVariables false
set_option maxRecDepth 20000
set_option maxHeartbeats 2000000
attribute [local irreducible] WPc WPl WPq ReadR OpT BinR HasS bx rdN rowN Take Takes Prov Triple ResF BuildP Done ag Int.decLt Int.decLe Int.instDecidableEq
attribute [local irreducible] mp rmp rg rgo mput mget mfind mdel gbag jes pts Pt.v Pt.fin overB badB
theorem pagainst_t (x : PJ) (p : Pt) (hp : p.fin ≤ 100000) (hx2 : ∀ o ∈ x.ps, o.fin ≤ 100000) (hl : x.ps.length ≤ 10000) : Triple Try.prog 36 #[hJ x.g, ag (ptC p)] [rbx x.g 77 (pjC x), rdN x.vP x.ps.length (pts x.ps)] (RVal (.int .i64 (againstP x.ps p))) := by
  have hv1 := p.v1
  have l1 := p.h.src.len
  have l2 := p.h.dst.len
  have hL := pts_len (l := x.ps)
  have cp := pend_t p (by omega)
  refine Triple.enter Try.func36 rfl Try.ntmps36 rfl (fun W => ?_)
  dsimp only [argsF, Nat.reduceAdd]
  repeat' (first
   | refine WPl.nil ?_ | refine WPq.then ?_ | refine WPq.thenR ?_ | refine WPq.thenE ?_ | refine WPq.blockN ?_ | refine WPq.blockR ?_ | refine WPq.blockE ?_ | refine WPq.blockO rfl ?_ | refine WPc.seq ?_ | refine WPc.block ?_ | refine WPc.ret ?_ | refine WPc.exit ?_ | refine WPc.skip ?_ | refine WPc.region ?_
   | (refine isCond ?_; first | refine WPc.cT ?_ | refine WPc.cF ?_ | (refine WPc.cQ (fun hc => ?_) (fun hc => ?_) <;> try exact prA))
   | (refine isD 3 ?_; first | (refine isAl ?_; refine WPl.nw fun g3 => ?_) | (refine isBx ?_; refine WPl.nw fun g3 => ?_))
   | (refine isD 12 ?_; refine WPl.rdX (ReadR.loadO memA rfl rfl) ?_)
   | (refine isOp ?_; first | refine WPl.rd ?_ | refine WPl.sk ?_ | refine WPl.rdB ?_)
   | (refine isAl ?_; refine WPl.nw fun g => ?_)
   | (refine isBx ?_; refine WPl.nw fun g => ?_)
   | (refine isSt ?_; first | refine WPl.st1 ?_ | refine WPl.stA ?_ | refine WPl.stEB ?_ | refine WPl.stRB ?_)
   | (show WPl _ _ _ _ _ _ _ (⟨_, .indexAddr _ _ _, _, _, _, _⟩ :: _) _; refine WPl.rdX (ReadR.indexE rfl rfl hasA (by first | assumption | omega)) ?_)
   | (show WPl _ _ _ _ _ _ _ (⟨_, .fieldAddr _ _ _, _, _, _, _⟩ :: _) _; refine WPl.rdX (ReadR.fieldE rfl hasA (by first | assumption | omega)) ?_)
   | (show WPl _ _ _ _ _ _ _ (⟨_, .load _ _, _, _, _, _⟩ :: _) _; first | refine WPl.rdX (ReadR.loadE rfl hasA (by assumption)) ?_ | refine WPl.rdX (ReadR.loadES (by assumption) (by first | assumption | omega) rfl hasA) ?_)
   | (show WPl _ _ _ _ _ _ _ (⟨_, .slice _ _ _ _ _, _, _, _, _⟩ :: _) _; first | refine WPl.rdX (ReadR.sliceH rfl rfl hasA (by omega)) ?_ | refine WPl.rdX (ReadR.sliceL rfl rfl hasA (by omega)) ?_ | refine WPl.rdX (ReadR.sliceLH rfl rfl rfl hasA (by omega) (by omega)) ?_)
   | (refine WPl.spQ (fun hc => ?_) (fun hc => ?_) <;> try exact prA)
   | fail)
  first | refine WPc.loop (σ := Nat) (fun st => st ≤ x.ps.length ∧ ∀ j o, j < st → x.ps[j]? = some o → overB p o = false) (fun st => [rbx x.g 77 (pjC x), rdN x.vP x.ps.length (pts x.ps), bx g3 55 (ptC p)]) (fun st => [(0, hJ x.g), (3, .pointer (some ⟨g3, 0, none⟩)), (12, x.vP), (13, .int .i64 (x.ps.length : Int)), (14, .int .i64 (st : Int))]) (fun st => x.ps.length - st) (0) ?_ takesA frsA (fun st km hx hk => ?_)
  · exact ⟨Nat.zero_le _, fun j o hj => absurd hj (Nat.not_lt_zero _)⟩
  obtain ⟨i, rfl⟩ : ∃ i, i = st := ⟨_, rfl⟩
  obtain ⟨hi, hno⟩ := hx
  have hkm : km = x.ps.length - i := hk
  clear hk
  by_cases hlt : i < x.ps.length
  · obtain ⟨o, ho⟩ : ∃ o, x.ps[i]? = some o := ⟨_, List.getElem?_eq_getElem hlt⟩
    have hlt' : (i : Int) < (x.ps.length : Int) := by omega
    have hoc := pts_at ho
    have hov := o.v1
    have k1 := o.h.src.len
    have k2 := o.h.dst.len
    have co := pend_t o (by have := hx2 o (List.mem_of_getElem? ho); omega)
    have hfo := ptC_ok o
    cases hov2 : overB p o with
    | true =>
      have hcm : max (p.pos : Int) (o.pos : Int) < min (p.fin : Int) (o.fin : Int) := by with_unfolding_all exact of_decide_eq_true hov2
      have hr : againstP x.ps p = 7 := if_pos (any_yes ho hov2)
      rw [hr]
      repeat' (first
       | refine WPl.nil ?_ | refine WPq.then ?_ | refine WPq.thenR ?_ | refine WPq.thenE ?_ | refine WPq.blockN ?_ | refine WPq.blockR ?_ | refine WPq.blockE ?_ | refine WPq.blockO rfl ?_ | refine WPc.seq ?_ | refine WPc.block ?_ | refine WPc.ret ?_ | refine WPc.exit ?_ | refine WPc.skip ?_ | refine WPc.region ?_
       | (refine isReg 4 ?_; refine WPc.drA [([], [20, 21, 23, 24, 25, 26, 27]), ([0], [18, 20, 21, 23, 24, 25, 26, 27]), ([], [18, 19, 23, 24, 25, 26, 27]), ([2], [18, 19, 20, 23, 24, 25, 26, 27]), ([0, 1, 2, 3], [18, 19, 20, 21, 23, 24, 25, 26, 27]), ([], [18, 19, 20, 21, 22, 25]), ([5], [18, 19, 20, 21, 22, 23, 25]), ([], [18, 19, 20, 21, 22, 23, 24]), ([5, 6, 7], [18, 19, 20, 21, 22, 23, 24, 25]), ([5, 6, 7, 8], [18, 19, 20, 21, 22, 23, 24, 25, 26]), ([0, 1, 2, 3, 4, 5, 6, 7, 8, 9], [18, 19, 20, 21, 22, 23, 24, 25, 26, 27])] [] (Γx := []) ?_; dsimp only [prev0, List.length_nil, List.length_cons])
       | (refine gAny ?_; first | (refine gC 24 ?_; refine RGl.vl (fun e hk => OpT.callN (cp)) ?_) | (refine gC 26 ?_; refine RGl.vl (fun e hk => OpT.callN (co)) ?_) | (refine gD 15 ?_; refine RGl.rdX (fun e hk => by (try dsimp only [bndR, ensR, oksR, fcutR, List.append_nil, List.nil_append, List.cons_append, List.append_assoc] at hk ⊢); exact ReadR.binE rfl rfl BinR.lss (congrArg Value.bool (decide_eq_true hlt'))) ?_) | (refine gD 16 ?_; refine RGl.rdX (fun e hk => by (try dsimp only [bndR, ensR, oksR, fcutR, List.append_nil, List.nil_append, List.cons_append, List.append_assoc] at hk ⊢); exact ReadR.indexE (i := i) rfl rfl hasA hlt) ?_) | (refine gD 17 ?_; refine RGl.rdX (fun e hk => by (try dsimp only [bndR, ensR, oksR, fcutR, List.append_nil, List.nil_append, List.cons_append, List.append_assoc] at hk ⊢); exact ReadR.loadES (cs := ptC o) hoc (by omega) rfl hasA) ?_) | (refine gD 28 ?_; refine RGl.rdX (fun e hk => by (try dsimp only [bndR, ensR, oksR, fcutR, List.append_nil, List.nil_append, List.cons_append, List.append_assoc] at hk ⊢); exact ReadR.binE rfl rfl BinR.lss (congrArg Value.bool (decide_eq_true hcm))) ?_) | (refine gOp ?_; first | refine RGl.rdA ?_ | refine RGl.rdX (fun e hk => by (try dsimp only [bndR, ensR, oksR, fcutR, List.append_nil, List.nil_append, List.cons_append, List.append_assoc] at hk ⊢); exact readB) ?_) | (refine RGl.fin (fun e hk => ?_); (try dsimp only [bndA, ensAR, oksA, List.append_nil, List.nil_append, List.cons_append, List.append_assoc] at hk ⊢); (repeat (obtain ⟨hk1, hk⟩ := hk))) | fail)
       | (refine isCond ?_; first | refine WPc.cT ?_ | refine WPc.cF ?_ | (refine WPc.cQ (fun hc => ?_) (fun hc => ?_) <;> try first | exact prA | (exfalso; first | omega)))
       | (refine isD 15 ?_; refine WPl.rdX (ReadR.binE rfl rfl BinR.lss (congrArg Value.bool (decide_eq_true hlt'))) ?_)
       | (refine isD 16 ?_; refine WPl.rdX (ReadR.indexE (i := i) rfl rfl hasA hlt) ?_)
       | (refine isD 17 ?_; refine WPl.rdX (ReadR.loadES (cs := ptC o) hoc (by omega) rfl hasA) ?_)
       | (refine isD 6 ?_; first | (refine isAl ?_; refine WPl.nw fun g6 => ?_) | (refine isBx ?_; refine WPl.nw fun g6 => ?_))
       | (show WPl _ _ _ _ _ _ _ (⟨_, .store _ (.tmp 6) _, _, _, _, _⟩ :: _) _; refine WPl.stA (new := ptC o) ?_ (hn := hfo))
       | (refine isC 24 ?_; refine WPl.cV (cp) ?_)
       | (refine isC 26 ?_; refine WPl.cV (co) ?_)
       | (refine isD 28 ?_; refine WPl.rdX (ReadR.binE rfl rfl BinR.lss (congrArg Value.bool (decide_eq_true hcm))) ?_)
       | (refine isOp ?_; first | refine WPl.rd ?_ | refine WPl.sk ?_ | refine WPl.rdB ?_)
       | (refine isAl ?_; refine WPl.nw fun g => ?_)
       | (refine isBx ?_; refine WPl.nw fun g => ?_)
       | (refine isSt ?_; first | refine WPl.st1 ?_ | refine WPl.stA ?_ | refine WPl.stEB ?_ | refine WPl.stRB ?_)
       | (show WPl _ _ _ _ _ _ _ (⟨_, .indexAddr _ _ _, _, _, _, _⟩ :: _) _; refine WPl.rdX (ReadR.indexE rfl rfl hasA (by first | assumption | omega)) ?_)
       | (show WPl _ _ _ _ _ _ _ (⟨_, .fieldAddr _ _ _, _, _, _, _⟩ :: _) _; refine WPl.rdX (ReadR.fieldE rfl hasA (by first | assumption | omega)) ?_)
       | (show WPl _ _ _ _ _ _ _ (⟨_, .load _ _, _, _, _, _⟩ :: _) _; first | refine WPl.rdX (ReadR.loadE rfl hasA (by assumption)) ?_ | refine WPl.rdX (ReadR.loadES (by assumption) (by first | assumption | omega) rfl hasA) ?_)
       | (show WPl _ _ _ _ _ _ _ (⟨_, .slice _ _ _ _ _, _, _, _, _⟩ :: _) _; first | refine WPl.rdX (ReadR.sliceH rfl rfl hasA (by omega)) ?_ | refine WPl.rdX (ReadR.sliceL rfl rfl hasA (by omega)) ?_ | refine WPl.rdX (ReadR.sliceLH rfl rfl rfl hasA (by omega) (by omega)) ?_)
       | (refine WPl.spQ (fun hc => ?_) (fun hc => ?_) <;> try first | exact prA | (exfalso; first | omega))
       | fail)
      exact WPq.dV
    | false =>
      have hcm : ¬ max (p.pos : Int) (o.pos : Int) < min (p.fin : Int) (o.fin : Int) := by with_unfolding_all exact of_decide_eq_false hov2
      repeat' (first
       | refine WPl.nil ?_ | refine WPq.then ?_ | refine WPq.thenR ?_ | refine WPq.thenE ?_ | refine WPq.blockN ?_ | refine WPq.blockR ?_ | refine WPq.blockE ?_ | refine WPq.blockO rfl ?_ | refine WPc.seq ?_ | refine WPc.block ?_ | refine WPc.ret ?_ | refine WPc.exit ?_ | refine WPc.skip ?_ | refine WPc.region ?_
       | (refine isReg 4 ?_; refine WPc.drA [([], [20, 21, 23, 24, 25, 26, 27]), ([0], [18, 20, 21, 23, 24, 25, 26, 27]), ([], [18, 19, 23, 24, 25, 26, 27]), ([2], [18, 19, 20, 23, 24, 25, 26, 27]), ([0, 1, 2, 3], [18, 19, 20, 21, 23, 24, 25, 26, 27]), ([], [18, 19, 20, 21, 22, 25]), ([5], [18, 19, 20, 21, 22, 23, 25]), ([], [18, 19, 20, 21, 22, 23, 24]), ([5, 6, 7], [18, 19, 20, 21, 22, 23, 24, 25]), ([5, 6, 7, 8], [18, 19, 20, 21, 22, 23, 24, 25, 26]), ([0, 1, 2, 3, 4, 5, 6, 7, 8, 9], [18, 19, 20, 21, 22, 23, 24, 25, 26, 27])] [] (Γx := []) ?_; dsimp only [prev0, List.length_nil, List.length_cons])
       | (refine gAny ?_; first | (refine gC 24 ?_; refine RGl.vl (fun e hk => OpT.callN (cp)) ?_) | (refine gC 26 ?_; refine RGl.vl (fun e hk => OpT.callN (co)) ?_) | (refine gD 15 ?_; refine RGl.rdX (fun e hk => by (try dsimp only [bndR, ensR, oksR, fcutR, List.append_nil, List.nil_append, List.cons_append, List.append_assoc] at hk ⊢); exact ReadR.binE rfl rfl BinR.lss (congrArg Value.bool (decide_eq_true hlt'))) ?_) | (refine gD 16 ?_; refine RGl.rdX (fun e hk => by (try dsimp only [bndR, ensR, oksR, fcutR, List.append_nil, List.nil_append, List.cons_append, List.append_assoc] at hk ⊢); exact ReadR.indexE (i := i) rfl rfl hasA hlt) ?_) | (refine gD 17 ?_; refine RGl.rdX (fun e hk => by (try dsimp only [bndR, ensR, oksR, fcutR, List.append_nil, List.nil_append, List.cons_append, List.append_assoc] at hk ⊢); exact ReadR.loadES (cs := ptC o) hoc (by omega) rfl hasA) ?_) | (refine gD 28 ?_; refine RGl.rdX (fun e hk => by (try dsimp only [bndR, ensR, oksR, fcutR, List.append_nil, List.nil_append, List.cons_append, List.append_assoc] at hk ⊢); exact ReadR.binE rfl rfl BinR.lss (congrArg Value.bool (decide_eq_false hcm))) ?_) | (refine gOp ?_; first | refine RGl.rdA ?_ | refine RGl.rdX (fun e hk => by (try dsimp only [bndR, ensR, oksR, fcutR, List.append_nil, List.nil_append, List.cons_append, List.append_assoc] at hk ⊢); exact readB) ?_) | (refine RGl.fin (fun e hk => ?_); (try dsimp only [bndA, ensAR, oksA, List.append_nil, List.nil_append, List.cons_append, List.append_assoc] at hk ⊢); (repeat (obtain ⟨hk1, hk⟩ := hk))) | fail)
       | (refine isCond ?_; first | refine WPc.cT ?_ | refine WPc.cF ?_ | (refine WPc.cQ (fun hc => ?_) (fun hc => ?_) <;> try first | exact prA | (exfalso; first | omega)))
       | (refine isD 15 ?_; refine WPl.rdX (ReadR.binE rfl rfl BinR.lss (congrArg Value.bool (decide_eq_true hlt'))) ?_)
       | (refine isD 16 ?_; refine WPl.rdX (ReadR.indexE (i := i) rfl rfl hasA hlt) ?_)
       | (refine isD 17 ?_; refine WPl.rdX (ReadR.loadES (cs := ptC o) hoc (by omega) rfl hasA) ?_)
       | (refine isD 6 ?_; first | (refine isAl ?_; refine WPl.nw fun g6 => ?_) | (refine isBx ?_; refine WPl.nw fun g6 => ?_))
       | (show WPl _ _ _ _ _ _ _ (⟨_, .store _ (.tmp 6) _, _, _, _, _⟩ :: _) _; refine WPl.stA (new := ptC o) ?_ (hn := hfo))
       | (refine isC 24 ?_; refine WPl.cV (cp) ?_)
       | (refine isC 26 ?_; refine WPl.cV (co) ?_)
       | (refine isD 28 ?_; refine WPl.rdX (ReadR.binE rfl rfl BinR.lss (congrArg Value.bool (decide_eq_false hcm))) ?_)
       | (refine isOp ?_; first | refine WPl.rd ?_ | refine WPl.sk ?_ | refine WPl.rdB ?_)
       | (refine isAl ?_; refine WPl.nw fun g => ?_)
       | (refine isBx ?_; refine WPl.nw fun g => ?_)
       | (refine isSt ?_; first | refine WPl.st1 ?_ | refine WPl.stA ?_ | refine WPl.stEB ?_ | refine WPl.stRB ?_)
       | (show WPl _ _ _ _ _ _ _ (⟨_, .indexAddr _ _ _, _, _, _, _⟩ :: _) _; refine WPl.rdX (ReadR.indexE rfl rfl hasA (by first | assumption | omega)) ?_)
       | (show WPl _ _ _ _ _ _ _ (⟨_, .fieldAddr _ _ _, _, _, _, _⟩ :: _) _; refine WPl.rdX (ReadR.fieldE rfl hasA (by first | assumption | omega)) ?_)
       | (show WPl _ _ _ _ _ _ _ (⟨_, .load _ _, _, _, _, _⟩ :: _) _; first | refine WPl.rdX (ReadR.loadE rfl hasA (by assumption)) ?_ | refine WPl.rdX (ReadR.loadES (by assumption) (by first | assumption | omega) rfl hasA) ?_)
       | (show WPl _ _ _ _ _ _ _ (⟨_, .slice _ _ _ _ _, _, _, _, _⟩ :: _) _; first | refine WPl.rdX (ReadR.sliceH rfl rfl hasA (by omega)) ?_ | refine WPl.rdX (ReadR.sliceL rfl rfl hasA (by omega)) ?_ | refine WPl.rdX (ReadR.sliceLH rfl rfl rfl hasA (by omega) (by omega)) ?_)
       | (refine WPl.spQ (fun hc => ?_) (fun hc => ?_) <;> try first | exact prA | (exfalso; first | omega))
       | fail)
      exact WPq.rnd (i + 1) ⟨hlt, fun j q hj hq => by
        by_cases e : j = i
        · subst e; rw [ho] at hq; cases hq; exact hov2
        · exact hno j q (by omega) hq⟩ (by omega)
  have hlt' : ¬ (i : Int) < (x.ps.length : Int) := by omega
  have hno1 : x.ps.any (overB p) = false := any_no fun j o hj hq => hno j o (by omega) hq
  clear hno hkm
  repeat' (first
   | refine WPl.nil ?_ | refine WPq.then ?_ | refine WPq.thenR ?_ | refine WPq.thenE ?_ | refine WPq.blockN ?_ | refine WPq.blockR ?_ | refine WPq.blockE ?_ | refine WPq.blockO rfl ?_ | refine WPc.seq ?_ | refine WPc.block ?_ | refine WPc.ret ?_ | refine WPc.exit ?_ | refine WPc.skip ?_ | refine WPc.region ?_
   | (refine isCond ?_; first | refine WPc.cT ?_ | refine WPc.cF ?_ | (refine WPc.cQ (fun hc => ?_) (fun hc => ?_) <;> try first | exact prA | (exfalso; first | omega)))
   | (refine isD 15 ?_; refine WPl.rdX (ReadR.binE rfl rfl BinR.lss (congrArg Value.bool (decide_eq_false hlt'))) ?_)
   | (refine isD 33 ?_; refine WPl.rdX (ReadR.loadO memA rfl rfl) ?_)
   | (refine isOp ?_; first | refine WPl.rd ?_ | refine WPl.sk ?_ | refine WPl.rdB ?_)
   | (refine isAl ?_; refine WPl.nw fun g => ?_)
   | (refine isBx ?_; refine WPl.nw fun g => ?_)
   | (refine isSt ?_; first | refine WPl.st1 ?_ | refine WPl.stA ?_ | refine WPl.stEB ?_ | refine WPl.stRB ?_)
   | (show WPl _ _ _ _ _ _ _ (⟨_, .indexAddr _ _ _, _, _, _, _⟩ :: _) _; refine WPl.rdX (ReadR.indexE rfl rfl hasA (by first | assumption | omega)) ?_)
   | (show WPl _ _ _ _ _ _ _ (⟨_, .fieldAddr _ _ _, _, _, _, _⟩ :: _) _; refine WPl.rdX (ReadR.fieldE rfl hasA (by first | assumption | omega)) ?_)
   | (show WPl _ _ _ _ _ _ _ (⟨_, .load _ _, _, _, _, _⟩ :: _) _; first | refine WPl.rdX (ReadR.loadE rfl hasA (by assumption)) ?_ | refine WPl.rdX (ReadR.loadES (by assumption) (by first | assumption | omega) rfl hasA) ?_)
   | (show WPl _ _ _ _ _ _ _ (⟨_, .slice _ _ _ _ _, _, _, _, _⟩ :: _) _; first | refine WPl.rdX (ReadR.sliceH rfl rfl hasA (by omega)) ?_ | refine WPl.rdX (ReadR.sliceL rfl rfl hasA (by omega)) ?_ | refine WPl.rdX (ReadR.sliceLH rfl rfl rfl hasA (by omega) (by omega)) ?_)
   | (refine WPl.spQ (fun hc => ?_) (fun hc => ?_) <;> try first | exact prA | (exfalso; first | omega))
   | fail)
  first | refine WPc.loop (σ := Nat) (fun st => st ≤ x.ps.length ∧ ∀ j o, j < st → x.ps[j]? = some o → badB p o = false) (fun st => [rbx x.g 77 (pjC x), rdN x.vP x.ps.length (pts x.ps), bx g3 55 (ptC p)]) (fun st => [(0, hJ x.g), (3, .pointer (some ⟨g3, 0, none⟩)), (33, x.vP), (34, .int .i64 (x.ps.length : Int)), (35, .int .i64 (st : Int))]) (fun st => x.ps.length - st) (0) ?_ takesA frsA (fun st km hx hk => ?_)
  · exact ⟨Nat.zero_le _, fun j o hj => absurd hj (Nat.not_lt_zero _)⟩
  obtain ⟨k, rfl⟩ : ∃ k, k = st := ⟨_, rfl⟩
  obtain ⟨hk2, hno⟩ := hx
  have hkm : km = x.ps.length - k := hk
  clear hk
  by_cases hlt : k < x.ps.length
  · obtain ⟨o, ho⟩ : ∃ o, x.ps[k]? = some o := ⟨_, List.getElem?_eq_getElem hlt⟩
    have hlt' : (k : Int) < (x.ps.length : Int) := by omega
    have hoc := pts_at ho
    have hov := o.v1
    have k1 := o.h.src.len
    have k2 := o.h.dst.len
    have co := pend_t o (by have := hx2 o (List.mem_of_getElem? ho); omega)
    have hfo := ptC_ok o
    have hnx : badB p o = false → k + 1 ≤ x.ps.length ∧ ∀ j q, j < k + 1 → x.ps[j]? = some q → badB p q = false := fun hb => ⟨hlt, fun j q hj hq => by
      by_cases e : j = k
      · subst e; rw [ho] at hq; cases hq; exact hb
      · exact hno j q (by omega) hq⟩
    have hyes : badB p o = true → againstP x.ps p = 4 := fun hb => by unfold againstP; rw [if_neg (by rw [hno1]; decide), if_pos (any_yes ho hb)]
    have hbd : badB p o = ((p.last && (o.last || decide ((p.fin : Int) < (o.fin : Int)))) || (o.last && decide ((o.fin : Int) < (p.fin : Int)))) := by with_unfolding_all rfl
    cases hpl : p.last with
    | true =>
      have ep : ptC p = ptX p.pos p.v true p.h := by show ptX _ _ p.last _ = _; rw [hpl]
      rw [ep] at cp ⊢
      cases hol : o.last with
      | true =>
        have eo : ptC o = ptX o.pos o.v true o.h := by show ptX _ _ o.last _ = _; rw [hol]
        rw [eo] at co hoc hfo
        rw [hyes (by rw [hbd, hpl, hol]; rfl)]
        repeat' (first
         | refine WPl.nil ?_ | refine WPq.then ?_ | refine WPq.thenR ?_ | refine WPq.thenE ?_ | refine WPq.blockN ?_ | refine WPq.blockR ?_ | refine WPq.blockE ?_ | refine WPq.blockO rfl ?_ | refine WPc.seq ?_ | refine WPc.block ?_ | refine WPc.ret ?_ | refine WPc.exit ?_ | refine WPc.skip ?_ | refine WPc.region ?_
         | (refine isReg 10 ?_; refine WPc.drA [([], []), ([0], [39]), ([0, 1], [39, 40]), ([0, 1, 2], [39, 40, 41]), ([0, 1, 2, 3], [39, 40, 41, 42]), ([0, 1, 2, 3, 4], [39, 40, 41, 42, 43]), ([0, 1, 2, 3, 4, 5], [39, 40, 41, 42, 43, 44, 47]), ([0, 1, 2, 3, 4, 5, 6], [39, 40, 41, 42, 43, 44, 45, 47]), ([0, 1, 2, 3, 4, 5], [39, 40, 41, 42, 43, 44, 45, 46]), ([0, 1, 2, 3, 4, 5, 6, 7, 8], [39, 40, 41, 42, 43, 44, 45, 46, 47]), ([0, 1, 2, 3, 4, 5, 6, 7, 8, 9], [39, 40, 41, 42, 43, 44, 45, 46, 47, 48]), ([0, 1, 2, 3, 4, 5, 6, 7, 8, 9, 10], [39, 40, 41, 42, 43, 44, 45, 46, 47, 48, 49]), ([0, 1, 2, 3, 4, 5, 6, 7, 8, 9, 10, 11], [39, 40, 41, 42, 43, 44, 45, 46, 47, 48, 49, 50]), ([0, 1, 2, 3, 4, 5, 6, 7, 8, 9, 10, 11, 12], [39, 40, 41, 42, 43, 44, 45, 46, 47, 48, 49, 50, 51]), ([0, 1, 2, 3, 4, 5, 6, 7, 8, 9, 10, 11, 12, 13], [39, 40, 41, 42, 43, 44, 45, 46, 47, 48, 49, 50, 51, 52]), ([0, 1, 2, 3, 4, 5, 6, 7, 8, 9, 10, 11, 12, 13, 14], [39, 40, 41, 42, 43, 44, 45, 46, 47, 48, 49, 50, 51, 52, 53]), ([0, 1, 2, 3, 4, 5, 6, 7, 8, 9, 10, 11, 12, 13, 14, 15], [39, 40, 41, 42, 43, 44, 45, 46, 47, 48, 49, 50, 51, 52, 53, 54]), ([0, 1, 2, 3, 4, 5, 6, 7, 8, 9, 10, 11, 12, 13, 14, 15, 16], [39, 40, 41, 42, 43, 44, 45, 46, 47, 48, 49, 50, 51, 52, 53, 54, 55, 58]), ([0, 1, 2, 3, 4, 5, 6, 7, 8, 9, 10, 11, 12, 13, 14, 15, 16, 17], [39, 40, 41, 42, 43, 44, 45, 46, 47, 48, 49, 50, 51, 52, 53, 54, 55, 56, 58]), ([0, 1, 2, 3, 4, 5, 6, 7, 8, 9, 10, 11, 12, 13, 14, 15, 16], [39, 40, 41, 42, 43, 44, 45, 46, 47, 48, 49, 50, 51, 52, 53, 54, 55, 56, 57]), ([0, 1, 2, 3, 4, 5, 6, 7, 8, 9, 10, 11, 12, 13, 14, 15, 16, 17, 18, 19], [39, 40, 41, 42, 43, 44, 45, 46, 47, 48, 49, 50, 51, 52, 53, 54, 55, 56, 57, 58]), ([0, 1, 2, 3, 4, 5, 6, 7, 8, 9, 10, 11, 12, 13, 14, 15, 16, 17, 18, 19, 20], [39, 40, 41, 42, 43, 44, 45, 46, 47, 48, 49, 50, 51, 52, 53, 54, 55, 56, 57, 58, 59]), ([0, 1, 2, 3, 4, 5, 6, 7, 8, 9, 10, 11, 12, 13, 14, 15, 16, 17, 18, 19, 20, 21], [39, 40, 41, 42, 43, 44, 45, 46, 47, 48, 49, 50, 51, 52, 53, 54, 55, 56, 57, 58, 59, 60]), ([0, 1, 2, 3, 4, 5, 6, 7, 8, 9, 10, 11, 12, 13, 14, 15, 16, 17, 18, 19, 20, 21, 22], [39, 40, 41, 42, 43, 44, 45, 46, 47, 48, 49, 50, 51, 52, 53, 54, 55, 56, 57, 58, 59, 60, 61])] [] (Γx := []) ?_; dsimp only [prev0, List.length_nil, List.length_cons])
         | (refine gAny ?_; first | (refine gGd ?_; refine RGl.skp ?_) | (refine gC 46 ?_; refine RGl.vl (fun e hk => OpT.callN (co)) ?_) | (refine gC 48 ?_; refine RGl.vl (fun e hk => OpT.callN (cp)) ?_) | (refine gC 57 ?_; refine RGl.vl (fun e hk => OpT.callN (cp)) ?_) | (refine gC 59 ?_; refine RGl.vl (fun e hk => OpT.callN (co)) ?_) | (refine gD 36 ?_; refine RGl.rdX (fun e hk => by (try dsimp only [bndR, ensR, oksR, fcutR, List.append_nil, List.nil_append, List.cons_append, List.append_assoc] at hk ⊢); exact ReadR.binE rfl rfl BinR.lss (congrArg Value.bool (decide_eq_true hlt'))) ?_) | (refine gD 37 ?_; refine RGl.rdX (fun e hk => by (try dsimp only [bndR, ensR, oksR, fcutR, List.append_nil, List.nil_append, List.cons_append, List.append_assoc] at hk ⊢); exact ReadR.indexE (i := k) rfl rfl hasA hlt) ?_) | (refine gD 38 ?_; refine RGl.rdX (fun e hk => by (try dsimp only [bndR, ensR, oksR, fcutR, List.append_nil, List.nil_append, List.cons_append, List.append_assoc] at hk ⊢); exact ReadR.loadES (cs := ptX o.pos o.v true o.h) hoc (by omega) rfl hasA) ?_) | (refine gOp ?_; first | refine RGl.rdA ?_ | refine RGl.rdX (fun e hk => by (try dsimp only [bndR, ensR, oksR, fcutR, List.append_nil, List.nil_append, List.cons_append, List.append_assoc] at hk ⊢); exact readB) ?_) | (refine RGl.fin (fun e hk => ?_); (try dsimp only [bndA, ensAR, oksA, List.append_nil, List.nil_append, List.cons_append, List.append_assoc] at hk ⊢); (repeat (obtain ⟨hk1, hk⟩ := hk))) | fail)
         | (refine isCond ?_; first | refine WPc.cT ?_ | refine WPc.cF ?_ | (refine WPc.cQ (fun hc => ?_) (fun hc => ?_) <;> try first | exact prA | (exfalso; first | omega)))
         | (refine isD 36 ?_; refine WPl.rdX (ReadR.binE rfl rfl BinR.lss (congrArg Value.bool (decide_eq_true hlt'))) ?_)
         | (refine isD 37 ?_; refine WPl.rdX (ReadR.indexE (i := k) rfl rfl hasA hlt) ?_)
         | (refine isD 38 ?_; refine WPl.rdX (ReadR.loadES (cs := ptX o.pos o.v true o.h) hoc (by omega) rfl hasA) ?_)
         | (refine isD 8 ?_; first | (refine isAl ?_; refine WPl.nw fun g8 => ?_) | (refine isBx ?_; refine WPl.nw fun g8 => ?_))
         | (show WPl _ _ _ _ _ _ _ (⟨_, .store _ (.tmp 8) _, _, _, _, _⟩ :: _) _; refine WPl.stA (new := ptX o.pos o.v true o.h) ?_ (hn := hfo))
         | (refine isC 46 ?_; refine WPl.cV (co) ?_)
         | (refine isC 48 ?_; refine WPl.cV (cp) ?_)
         | (refine isC 57 ?_; refine WPl.cV (cp) ?_)
         | (refine isC 59 ?_; refine WPl.cV (co) ?_)
         | (refine isOp ?_; first | refine WPl.rd ?_ | refine WPl.sk ?_ | refine WPl.rdB ?_)
         | (refine isAl ?_; refine WPl.nw fun g => ?_)
         | (refine isBx ?_; refine WPl.nw fun g => ?_)
         | (refine isSt ?_; first | refine WPl.st1 ?_ | refine WPl.stA ?_ | refine WPl.stEB ?_ | refine WPl.stRB ?_)
         | (show WPl _ _ _ _ _ _ _ (⟨_, .indexAddr _ _ _, _, _, _, _⟩ :: _) _; refine WPl.rdX (ReadR.indexE rfl rfl hasA (by first | assumption | omega)) ?_)
         | (show WPl _ _ _ _ _ _ _ (⟨_, .fieldAddr _ _ _, _, _, _, _⟩ :: _) _; refine WPl.rdX (ReadR.fieldE rfl hasA (by first | assumption | omega)) ?_)
         | (show WPl _ _ _ _ _ _ _ (⟨_, .load _ _, _, _, _, _⟩ :: _) _; first | refine WPl.rdX (ReadR.loadE rfl hasA (by assumption)) ?_ | refine WPl.rdX (ReadR.loadES (by assumption) (by first | assumption | omega) rfl hasA) ?_)
         | (show WPl _ _ _ _ _ _ _ (⟨_, .slice _ _ _ _ _, _, _, _, _⟩ :: _) _; first | refine WPl.rdX (ReadR.sliceH rfl rfl hasA (by omega)) ?_ | refine WPl.rdX (ReadR.sliceL rfl rfl hasA (by omega)) ?_ | refine WPl.rdX (ReadR.sliceLH rfl rfl rfl hasA (by omega) (by omega)) ?_)
         | (refine WPl.spQ (fun hc => ?_) (fun hc => ?_) <;> try first | exact prA | (exfalso; first | omega))
         | fail)
        exact WPq.dV
      | false =>
        have eo : ptC o = ptX o.pos o.v false o.h := by show ptX _ _ o.last _ = _; rw [hol]
        rw [eo] at co hoc hfo
        by_cases hgt : (p.fin : Int) < (o.fin : Int)
        · rw [hyes (by rw [hbd, hpl, hol, decide_eq_true hgt]; rfl)]
          repeat' (first
           | refine WPl.nil ?_ | refine WPq.then ?_ | refine WPq.thenR ?_ | refine WPq.thenE ?_ | refine WPq.blockN ?_ | refine WPq.blockR ?_ | refine WPq.blockE ?_ | refine WPq.blockO rfl ?_ | refine WPc.seq ?_ | refine WPc.block ?_ | refine WPc.ret ?_ | refine WPc.exit ?_ | refine WPc.skip ?_ | refine WPc.region ?_
           | (refine isReg 10 ?_; refine WPc.drA [([], []), ([0], [39]), ([0, 1], [39, 40]), ([0, 1, 2], [39, 40, 41]), ([0, 1, 2, 3], [39, 40, 41, 42]), ([0, 1, 2, 3, 4], [39, 40, 41, 42, 43]), ([0, 1, 2, 3, 4, 5], [39, 40, 41, 42, 43, 44, 47]), ([0, 1, 2, 3, 4, 5, 6], [39, 40, 41, 42, 43, 44, 45, 47]), ([0, 1, 2, 3, 4, 5], [39, 40, 41, 42, 43, 44, 45, 46]), ([0, 1, 2, 3, 4, 5, 6, 7, 8], [39, 40, 41, 42, 43, 44, 45, 46, 47]), ([0, 1, 2, 3, 4, 5, 6, 7, 8, 9], [39, 40, 41, 42, 43, 44, 45, 46, 47, 48]), ([0, 1, 2, 3, 4, 5, 6, 7, 8, 9, 10], [39, 40, 41, 42, 43, 44, 45, 46, 47, 48, 49]), ([0, 1, 2, 3, 4, 5, 6, 7, 8, 9, 10, 11], [39, 40, 41, 42, 43, 44, 45, 46, 47, 48, 49, 50]), ([0, 1, 2, 3, 4, 5, 6, 7, 8, 9, 10, 11, 12], [39, 40, 41, 42, 43, 44, 45, 46, 47, 48, 49, 50, 51]), ([0, 1, 2, 3, 4, 5, 6, 7, 8, 9, 10, 11, 12, 13], [39, 40, 41, 42, 43, 44, 45, 46, 47, 48, 49, 50, 51, 52]), ([0, 1, 2, 3, 4, 5, 6, 7, 8, 9, 10, 11, 12, 13, 14], [39, 40, 41, 42, 43, 44, 45, 46, 47, 48, 49, 50, 51, 52, 53]), ([0, 1, 2, 3, 4, 5, 6, 7, 8, 9, 10, 11, 12, 13, 14, 15], [39, 40, 41, 42, 43, 44, 45, 46, 47, 48, 49, 50, 51, 52, 53, 54]), ([0, 1, 2, 3, 4, 5, 6, 7, 8, 9, 10, 11, 12, 13, 14, 15, 16], [39, 40, 41, 42, 43, 44, 45, 46, 47, 48, 49, 50, 51, 52, 53, 54, 55, 58]), ([0, 1, 2, 3, 4, 5, 6, 7, 8, 9, 10, 11, 12, 13, 14, 15, 16, 17], [39, 40, 41, 42, 43, 44, 45, 46, 47, 48, 49, 50, 51, 52, 53, 54, 55, 56, 58]), ([0, 1, 2, 3, 4, 5, 6, 7, 8, 9, 10, 11, 12, 13, 14, 15, 16], [39, 40, 41, 42, 43, 44, 45, 46, 47, 48, 49, 50, 51, 52, 53, 54, 55, 56, 57]), ([0, 1, 2, 3, 4, 5, 6, 7, 8, 9, 10, 11, 12, 13, 14, 15, 16, 17, 18, 19], [39, 40, 41, 42, 43, 44, 45, 46, 47, 48, 49, 50, 51, 52, 53, 54, 55, 56, 57, 58]), ([0, 1, 2, 3, 4, 5, 6, 7, 8, 9, 10, 11, 12, 13, 14, 15, 16, 17, 18, 19, 20], [39, 40, 41, 42, 43, 44, 45, 46, 47, 48, 49, 50, 51, 52, 53, 54, 55, 56, 57, 58, 59]), ([0, 1, 2, 3, 4, 5, 6, 7, 8, 9, 10, 11, 12, 13, 14, 15, 16, 17, 18, 19, 20, 21], [39, 40, 41, 42, 43, 44, 45, 46, 47, 48, 49, 50, 51, 52, 53, 54, 55, 56, 57, 58, 59, 60]), ([0, 1, 2, 3, 4, 5, 6, 7, 8, 9, 10, 11, 12, 13, 14, 15, 16, 17, 18, 19, 20, 21, 22], [39, 40, 41, 42, 43, 44, 45, 46, 47, 48, 49, 50, 51, 52, 53, 54, 55, 56, 57, 58, 59, 60, 61])] [] (Γx := []) ?_; dsimp only [prev0, List.length_nil, List.length_cons])
           | (refine gAny ?_; first | (refine gGd ?_; refine RGl.skp ?_) | (refine gC 46 ?_; refine RGl.vl (fun e hk => OpT.callN (co)) ?_) | (refine gC 48 ?_; refine RGl.vl (fun e hk => OpT.callN (cp)) ?_) | (refine gC 57 ?_; refine RGl.vl (fun e hk => OpT.callN (cp)) ?_) | (refine gC 59 ?_; refine RGl.vl (fun e hk => OpT.callN (co)) ?_) | (refine gD 36 ?_; refine RGl.rdX (fun e hk => by (try dsimp only [bndR, ensR, oksR, fcutR, List.append_nil, List.nil_append, List.cons_append, List.append_assoc] at hk ⊢); exact ReadR.binE rfl rfl BinR.lss (congrArg Value.bool (decide_eq_true hlt'))) ?_) | (refine gD 37 ?_; refine RGl.rdX (fun e hk => by (try dsimp only [bndR, ensR, oksR, fcutR, List.append_nil, List.nil_append, List.cons_append, List.append_assoc] at hk ⊢); exact ReadR.indexE (i := k) rfl rfl hasA hlt) ?_) | (refine gD 38 ?_; refine RGl.rdX (fun e hk => by (try dsimp only [bndR, ensR, oksR, fcutR, List.append_nil, List.nil_append, List.cons_append, List.append_assoc] at hk ⊢); exact ReadR.loadES (cs := ptX o.pos o.v false o.h) hoc (by omega) rfl hasA) ?_) | (refine gD 49 ?_; refine RGl.rdX (fun e hk => by (try dsimp only [bndR, ensR, oksR, fcutR, List.append_nil, List.nil_append, List.cons_append, List.append_assoc] at hk ⊢); exact ReadR.binE rfl rfl BinR.gtr (congrArg Value.bool (decide_eq_true hgt))) ?_) | (refine gOp ?_; first | refine RGl.rdA ?_ | refine RGl.rdX (fun e hk => by (try dsimp only [bndR, ensR, oksR, fcutR, List.append_nil, List.nil_append, List.cons_append, List.append_assoc] at hk ⊢); exact readB) ?_) | (refine RGl.fin (fun e hk => ?_); (try dsimp only [bndA, ensAR, oksA, List.append_nil, List.nil_append, List.cons_append, List.append_assoc] at hk ⊢); (repeat (obtain ⟨hk1, hk⟩ := hk))) | fail)
           | (refine isCond ?_; first | refine WPc.cT ?_ | refine WPc.cF ?_ | (refine WPc.cQ (fun hc => ?_) (fun hc => ?_) <;> try first | exact prA | (exfalso; first | omega)))
           | (refine isD 36 ?_; refine WPl.rdX (ReadR.binE rfl rfl BinR.lss (congrArg Value.bool (decide_eq_true hlt'))) ?_)
           | (refine isD 37 ?_; refine WPl.rdX (ReadR.indexE (i := k) rfl rfl hasA hlt) ?_)
           | (refine isD 38 ?_; refine WPl.rdX (ReadR.loadES (cs := ptX o.pos o.v false o.h) hoc (by omega) rfl hasA) ?_)
           | (refine isD 8 ?_; first | (refine isAl ?_; refine WPl.nw fun g8 => ?_) | (refine isBx ?_; refine WPl.nw fun g8 => ?_))
           | (show WPl _ _ _ _ _ _ _ (⟨_, .store _ (.tmp 8) _, _, _, _, _⟩ :: _) _; refine WPl.stA (new := ptX o.pos o.v false o.h) ?_ (hn := hfo))
           | (refine isC 46 ?_; refine WPl.cV (co) ?_)
           | (refine isC 48 ?_; refine WPl.cV (cp) ?_)
           | (refine isC 57 ?_; refine WPl.cV (cp) ?_)
           | (refine isC 59 ?_; refine WPl.cV (co) ?_)
           | (refine isD 49 ?_; refine WPl.rdX (ReadR.binE rfl rfl BinR.gtr (congrArg Value.bool (decide_eq_true hgt))) ?_)
           | (refine isOp ?_; first | refine WPl.rd ?_ | refine WPl.sk ?_ | refine WPl.rdB ?_)
           | (refine isAl ?_; refine WPl.nw fun g => ?_)
           | (refine isBx ?_; refine WPl.nw fun g => ?_)
           | (refine isSt ?_; first | refine WPl.st1 ?_ | refine WPl.stA ?_ | refine WPl.stEB ?_ | refine WPl.stRB ?_)
           | (show WPl _ _ _ _ _ _ _ (⟨_, .indexAddr _ _ _, _, _, _, _⟩ :: _) _; refine WPl.rdX (ReadR.indexE rfl rfl hasA (by first | assumption | omega)) ?_)
           | (show WPl _ _ _ _ _ _ _ (⟨_, .fieldAddr _ _ _, _, _, _, _⟩ :: _) _; refine WPl.rdX (ReadR.fieldE rfl hasA (by first | assumption | omega)) ?_)
           | (show WPl _ _ _ _ _ _ _ (⟨_, .load _ _, _, _, _, _⟩ :: _) _; first | refine WPl.rdX (ReadR.loadE rfl hasA (by assumption)) ?_ | refine WPl.rdX (ReadR.loadES (by assumption) (by first | assumption | omega) rfl hasA) ?_)
           | (show WPl _ _ _ _ _ _ _ (⟨_, .slice _ _ _ _ _, _, _, _, _⟩ :: _) _; first | refine WPl.rdX (ReadR.sliceH rfl rfl hasA (by omega)) ?_ | refine WPl.rdX (ReadR.sliceL rfl rfl hasA (by omega)) ?_ | refine WPl.rdX (ReadR.sliceLH rfl rfl rfl hasA (by omega) (by omega)) ?_)
           | (refine WPl.spQ (fun hc => ?_) (fun hc => ?_) <;> try first | exact prA | (exfalso; first | omega))
           | fail)
          exact WPq.dV
        · skip
          repeat' (first
           | refine WPl.nil ?_ | refine WPq.then ?_ | refine WPq.thenR ?_ | refine WPq.thenE ?_ | refine WPq.blockN ?_ | refine WPq.blockR ?_ | refine WPq.blockE ?_ | refine WPq.blockO rfl ?_ | refine WPc.seq ?_ | refine WPc.block ?_ | refine WPc.ret ?_ | refine WPc.exit ?_ | refine WPc.skip ?_ | refine WPc.region ?_
           | (refine isReg 10 ?_; refine WPc.drA [([], []), ([0], [39]), ([0, 1], [39, 40]), ([0, 1, 2], [39, 40, 41]), ([0, 1, 2, 3], [39, 40, 41, 42]), ([0, 1, 2, 3, 4], [39, 40, 41, 42, 43]), ([0, 1, 2, 3, 4, 5], [39, 40, 41, 42, 43, 44, 47]), ([0, 1, 2, 3, 4, 5, 6], [39, 40, 41, 42, 43, 44, 45, 47]), ([0, 1, 2, 3, 4, 5], [39, 40, 41, 42, 43, 44, 45, 46]), ([0, 1, 2, 3, 4, 5, 6, 7, 8], [39, 40, 41, 42, 43, 44, 45, 46, 47]), ([0, 1, 2, 3, 4, 5, 6, 7, 8, 9], [39, 40, 41, 42, 43, 44, 45, 46, 47, 48]), ([0, 1, 2, 3, 4, 5, 6, 7, 8, 9, 10], [39, 40, 41, 42, 43, 44, 45, 46, 47, 48, 49]), ([0, 1, 2, 3, 4, 5, 6, 7, 8, 9, 10, 11], [39, 40, 41, 42, 43, 44, 45, 46, 47, 48, 49, 50]), ([0, 1, 2, 3, 4, 5, 6, 7, 8, 9, 10, 11, 12], [39, 40, 41, 42, 43, 44, 45, 46, 47, 48, 49, 50, 51]), ([0, 1, 2, 3, 4, 5, 6, 7, 8, 9, 10, 11, 12, 13], [39, 40, 41, 42, 43, 44, 45, 46, 47, 48, 49, 50, 51, 52]), ([0, 1, 2, 3, 4, 5, 6, 7, 8, 9, 10, 11, 12, 13, 14], [39, 40, 41, 42, 43, 44, 45, 46, 47, 48, 49, 50, 51, 52, 53]), ([0, 1, 2, 3, 4, 5, 6, 7, 8, 9, 10, 11, 12, 13, 14, 15], [39, 40, 41, 42, 43, 44, 45, 46, 47, 48, 49, 50, 51, 52, 53, 54]), ([0, 1, 2, 3, 4, 5, 6, 7, 8, 9, 10, 11, 12, 13, 14, 15, 16], [39, 40, 41, 42, 43, 44, 45, 46, 47, 48, 49, 50, 51, 52, 53, 54, 55, 58]), ([0, 1, 2, 3, 4, 5, 6, 7, 8, 9, 10, 11, 12, 13, 14, 15, 16, 17], [39, 40, 41, 42, 43, 44, 45, 46, 47, 48, 49, 50, 51, 52, 53, 54, 55, 56, 58]), ([0, 1, 2, 3, 4, 5, 6, 7, 8, 9, 10, 11, 12, 13, 14, 15, 16], [39, 40, 41, 42, 43, 44, 45, 46, 47, 48, 49, 50, 51, 52, 53, 54, 55, 56, 57]), ([0, 1, 2, 3, 4, 5, 6, 7, 8, 9, 10, 11, 12, 13, 14, 15, 16, 17, 18, 19], [39, 40, 41, 42, 43, 44, 45, 46, 47, 48, 49, 50, 51, 52, 53, 54, 55, 56, 57, 58]), ([0, 1, 2, 3, 4, 5, 6, 7, 8, 9, 10, 11, 12, 13, 14, 15, 16, 17, 18, 19, 20], [39, 40, 41, 42, 43, 44, 45, 46, 47, 48, 49, 50, 51, 52, 53, 54, 55, 56, 57, 58, 59]), ([0, 1, 2, 3, 4, 5, 6, 7, 8, 9, 10, 11, 12, 13, 14, 15, 16, 17, 18, 19, 20, 21], [39, 40, 41, 42, 43, 44, 45, 46, 47, 48, 49, 50, 51, 52, 53, 54, 55, 56, 57, 58, 59, 60]), ([0, 1, 2, 3, 4, 5, 6, 7, 8, 9, 10, 11, 12, 13, 14, 15, 16, 17, 18, 19, 20, 21, 22], [39, 40, 41, 42, 43, 44, 45, 46, 47, 48, 49, 50, 51, 52, 53, 54, 55, 56, 57, 58, 59, 60, 61])] [] (Γx := []) ?_; dsimp only [prev0, List.length_nil, List.length_cons])
           | (refine gAny ?_; first | (refine gGd ?_; refine RGl.skp ?_) | (refine gC 46 ?_; refine RGl.vl (fun e hk => OpT.callN (co)) ?_) | (refine gC 48 ?_; refine RGl.vl (fun e hk => OpT.callN (cp)) ?_) | (refine gC 57 ?_; refine RGl.vl (fun e hk => OpT.callN (cp)) ?_) | (refine gC 59 ?_; refine RGl.vl (fun e hk => OpT.callN (co)) ?_) | (refine gD 36 ?_; refine RGl.rdX (fun e hk => by (try dsimp only [bndR, ensR, oksR, fcutR, List.append_nil, List.nil_append, List.cons_append, List.append_assoc] at hk ⊢); exact ReadR.binE rfl rfl BinR.lss (congrArg Value.bool (decide_eq_true hlt'))) ?_) | (refine gD 37 ?_; refine RGl.rdX (fun e hk => by (try dsimp only [bndR, ensR, oksR, fcutR, List.append_nil, List.nil_append, List.cons_append, List.append_assoc] at hk ⊢); exact ReadR.indexE (i := k) rfl rfl hasA hlt) ?_) | (refine gD 38 ?_; refine RGl.rdX (fun e hk => by (try dsimp only [bndR, ensR, oksR, fcutR, List.append_nil, List.nil_append, List.cons_append, List.append_assoc] at hk ⊢); exact ReadR.loadES (cs := ptX o.pos o.v false o.h) hoc (by omega) rfl hasA) ?_) | (refine gD 49 ?_; refine RGl.rdX (fun e hk => by (try dsimp only [bndR, ensR, oksR, fcutR, List.append_nil, List.nil_append, List.cons_append, List.append_assoc] at hk ⊢); exact ReadR.binE rfl rfl BinR.gtr (congrArg Value.bool (decide_eq_false hgt))) ?_) | (refine gOp ?_; first | refine RGl.rdA ?_ | refine RGl.rdX (fun e hk => by (try dsimp only [bndR, ensR, oksR, fcutR, List.append_nil, List.nil_append, List.cons_append, List.append_assoc] at hk ⊢); exact readB) ?_) | (refine RGl.fin (fun e hk => ?_); (try dsimp only [bndA, ensAR, oksA, List.append_nil, List.nil_append, List.cons_append, List.append_assoc] at hk ⊢); (repeat (obtain ⟨hk1, hk⟩ := hk))) | fail)
           | (refine isCond ?_; first | refine WPc.cT ?_ | refine WPc.cF ?_ | (refine WPc.cQ (fun hc => ?_) (fun hc => ?_) <;> try first | exact prA | (exfalso; first | omega)))
           | (refine isD 36 ?_; refine WPl.rdX (ReadR.binE rfl rfl BinR.lss (congrArg Value.bool (decide_eq_true hlt'))) ?_)
           | (refine isD 37 ?_; refine WPl.rdX (ReadR.indexE (i := k) rfl rfl hasA hlt) ?_)
           | (refine isD 38 ?_; refine WPl.rdX (ReadR.loadES (cs := ptX o.pos o.v false o.h) hoc (by omega) rfl hasA) ?_)
           | (refine isD 8 ?_; first | (refine isAl ?_; refine WPl.nw fun g8 => ?_) | (refine isBx ?_; refine WPl.nw fun g8 => ?_))
           | (show WPl _ _ _ _ _ _ _ (⟨_, .store _ (.tmp 8) _, _, _, _, _⟩ :: _) _; refine WPl.stA (new := ptX o.pos o.v false o.h) ?_ (hn := hfo))
           | (refine isC 46 ?_; refine WPl.cV (co) ?_)
           | (refine isC 48 ?_; refine WPl.cV (cp) ?_)
           | (refine isC 57 ?_; refine WPl.cV (cp) ?_)
           | (refine isC 59 ?_; refine WPl.cV (co) ?_)
           | (refine isD 49 ?_; refine WPl.rdX (ReadR.binE rfl rfl BinR.gtr (congrArg Value.bool (decide_eq_false hgt))) ?_)
           | (refine isOp ?_; first | refine WPl.rd ?_ | refine WPl.sk ?_ | refine WPl.rdB ?_)
           | (refine isAl ?_; refine WPl.nw fun g => ?_)
           | (refine isBx ?_; refine WPl.nw fun g => ?_)
           | (refine isSt ?_; first | refine WPl.st1 ?_ | refine WPl.stA ?_ | refine WPl.stEB ?_ | refine WPl.stRB ?_)
           | (show WPl _ _ _ _ _ _ _ (⟨_, .indexAddr _ _ _, _, _, _, _⟩ :: _) _; refine WPl.rdX (ReadR.indexE rfl rfl hasA (by first | assumption | omega)) ?_)
           | (show WPl _ _ _ _ _ _ _ (⟨_, .fieldAddr _ _ _, _, _, _, _⟩ :: _) _; refine WPl.rdX (ReadR.fieldE rfl hasA (by first | assumption | omega)) ?_)
           | (show WPl _ _ _ _ _ _ _ (⟨_, .load _ _, _, _, _, _⟩ :: _) _; first | refine WPl.rdX (ReadR.loadE rfl hasA (by assumption)) ?_ | refine WPl.rdX (ReadR.loadES (by assumption) (by first | assumption | omega) rfl hasA) ?_)
           | (show WPl _ _ _ _ _ _ _ (⟨_, .slice _ _ _ _ _, _, _, _, _⟩ :: _) _; first | refine WPl.rdX (ReadR.sliceH rfl rfl hasA (by omega)) ?_ | refine WPl.rdX (ReadR.sliceL rfl rfl hasA (by omega)) ?_ | refine WPl.rdX (ReadR.sliceLH rfl rfl rfl hasA (by omega) (by omega)) ?_)
           | (refine WPl.spQ (fun hc => ?_) (fun hc => ?_) <;> try first | exact prA | (exfalso; first | omega))
           | fail)
          exact WPq.rnd (k + 1) (hnx (by rw [hbd, hpl, hol, decide_eq_false hgt]; rfl)) (by omega)
    | false =>
      have ep : ptC p = ptX p.pos p.v false p.h := by show ptX _ _ p.last _ = _; rw [hpl]
      rw [ep] at cp ⊢
      cases hol : o.last with
      | true =>
        have eo : ptC o = ptX o.pos o.v true o.h := by show ptX _ _ o.last _ = _; rw [hol]
        rw [eo] at co hoc hfo
        by_cases hgt : (o.fin : Int) < (p.fin : Int)
        · rw [hyes (by rw [hbd, hpl, hol, decide_eq_true hgt]; rfl)]
          repeat' (first
           | refine WPl.nil ?_ | refine WPq.then ?_ | refine WPq.thenR ?_ | refine WPq.thenE ?_ | refine WPq.blockN ?_ | refine WPq.blockR ?_ | refine WPq.blockE ?_ | refine WPq.blockO rfl ?_ | refine WPc.seq ?_ | refine WPc.block ?_ | refine WPc.ret ?_ | refine WPc.exit ?_ | refine WPc.skip ?_ | refine WPc.region ?_
           | (refine isReg 10 ?_; refine WPc.drA [([], []), ([0], [39]), ([0, 1], [39, 40]), ([0, 1, 2], [39, 40, 41]), ([0, 1, 2, 3], [39, 40, 41, 42]), ([0, 1, 2, 3, 4], [39, 40, 41, 42, 43]), ([0, 1, 2, 3, 4, 5], [39, 40, 41, 42, 43, 44, 47]), ([0, 1, 2, 3, 4, 5, 6], [39, 40, 41, 42, 43, 44, 45, 47]), ([0, 1, 2, 3, 4, 5], [39, 40, 41, 42, 43, 44, 45, 46]), ([0, 1, 2, 3, 4, 5, 6, 7, 8], [39, 40, 41, 42, 43, 44, 45, 46, 47]), ([0, 1, 2, 3, 4, 5, 6, 7, 8, 9], [39, 40, 41, 42, 43, 44, 45, 46, 47, 48]), ([0, 1, 2, 3, 4, 5, 6, 7, 8, 9, 10], [39, 40, 41, 42, 43, 44, 45, 46, 47, 48, 49]), ([0, 1, 2, 3, 4, 5, 6, 7, 8, 9, 10, 11], [39, 40, 41, 42, 43, 44, 45, 46, 47, 48, 49, 50]), ([0, 1, 2, 3, 4, 5, 6, 7, 8, 9, 10, 11, 12], [39, 40, 41, 42, 43, 44, 45, 46, 47, 48, 49, 50, 51]), ([0, 1, 2, 3, 4, 5, 6, 7, 8, 9, 10, 11, 12, 13], [39, 40, 41, 42, 43, 44, 45, 46, 47, 48, 49, 50, 51, 52]), ([0, 1, 2, 3, 4, 5, 6, 7, 8, 9, 10, 11, 12, 13, 14], [39, 40, 41, 42, 43, 44, 45, 46, 47, 48, 49, 50, 51, 52, 53]), ([0, 1, 2, 3, 4, 5, 6, 7, 8, 9, 10, 11, 12, 13, 14, 15], [39, 40, 41, 42, 43, 44, 45, 46, 47, 48, 49, 50, 51, 52, 53, 54]), ([0, 1, 2, 3, 4, 5, 6, 7, 8, 9, 10, 11, 12, 13, 14, 15, 16], [39, 40, 41, 42, 43, 44, 45, 46, 47, 48, 49, 50, 51, 52, 53, 54, 55, 58]), ([0, 1, 2, 3, 4, 5, 6, 7, 8, 9, 10, 11, 12, 13, 14, 15, 16, 17], [39, 40, 41, 42, 43, 44, 45, 46, 47, 48, 49, 50, 51, 52, 53, 54, 55, 56, 58]), ([0, 1, 2, 3, 4, 5, 6, 7, 8, 9, 10, 11, 12, 13, 14, 15, 16], [39, 40, 41, 42, 43, 44, 45, 46, 47, 48, 49, 50, 51, 52, 53, 54, 55, 56, 57]), ([0, 1, 2, 3, 4, 5, 6, 7, 8, 9, 10, 11, 12, 13, 14, 15, 16, 17, 18, 19], [39, 40, 41, 42, 43, 44, 45, 46, 47, 48, 49, 50, 51, 52, 53, 54, 55, 56, 57, 58]), ([0, 1, 2, 3, 4, 5, 6, 7, 8, 9, 10, 11, 12, 13, 14, 15, 16, 17, 18, 19, 20], [39, 40, 41, 42, 43, 44, 45, 46, 47, 48, 49, 50, 51, 52, 53, 54, 55, 56, 57, 58, 59]), ([0, 1, 2, 3, 4, 5, 6, 7, 8, 9, 10, 11, 12, 13, 14, 15, 16, 17, 18, 19, 20, 21], [39, 40, 41, 42, 43, 44, 45, 46, 47, 48, 49, 50, 51, 52, 53, 54, 55, 56, 57, 58, 59, 60]), ([0, 1, 2, 3, 4, 5, 6, 7, 8, 9, 10, 11, 12, 13, 14, 15, 16, 17, 18, 19, 20, 21, 22], [39, 40, 41, 42, 43, 44, 45, 46, 47, 48, 49, 50, 51, 52, 53, 54, 55, 56, 57, 58, 59, 60, 61])] [] (Γx := []) ?_; dsimp only [prev0, List.length_nil, List.length_cons])
           | (refine gAny ?_; first | (refine gGd ?_; refine RGl.skp ?_) | (refine gC 46 ?_; refine RGl.vl (fun e hk => OpT.callN (co)) ?_) | (refine gC 48 ?_; refine RGl.vl (fun e hk => OpT.callN (cp)) ?_) | (refine gC 57 ?_; refine RGl.vl (fun e hk => OpT.callN (cp)) ?_) | (refine gC 59 ?_; refine RGl.vl (fun e hk => OpT.callN (co)) ?_) | (refine gD 36 ?_; refine RGl.rdX (fun e hk => by (try dsimp only [bndR, ensR, oksR, fcutR, List.append_nil, List.nil_append, List.cons_append, List.append_assoc] at hk ⊢); exact ReadR.binE rfl rfl BinR.lss (congrArg Value.bool (decide_eq_true hlt'))) ?_) | (refine gD 37 ?_; refine RGl.rdX (fun e hk => by (try dsimp only [bndR, ensR, oksR, fcutR, List.append_nil, List.nil_append, List.cons_append, List.append_assoc] at hk ⊢); exact ReadR.indexE (i := k) rfl rfl hasA hlt) ?_) | (refine gD 38 ?_; refine RGl.rdX (fun e hk => by (try dsimp only [bndR, ensR, oksR, fcutR, List.append_nil, List.nil_append, List.cons_append, List.append_assoc] at hk ⊢); exact ReadR.loadES (cs := ptX o.pos o.v true o.h) hoc (by omega) rfl hasA) ?_) | (refine gD 60 ?_; refine RGl.rdX (fun e hk => by (try dsimp only [bndR, ensR, oksR, fcutR, List.append_nil, List.nil_append, List.cons_append, List.append_assoc] at hk ⊢); exact ReadR.binE rfl rfl BinR.gtr (congrArg Value.bool (decide_eq_true hgt))) ?_) | (refine gOp ?_; first | refine RGl.rdA ?_ | refine RGl.rdX (fun e hk => by (try dsimp only [bndR, ensR, oksR, fcutR, List.append_nil, List.nil_append, List.cons_append, List.append_assoc] at hk ⊢); exact readB) ?_) | (refine RGl.fin (fun e hk => ?_); (try dsimp only [bndA, ensAR, oksA, List.append_nil, List.nil_append, List.cons_append, List.append_assoc] at hk ⊢); (repeat (obtain ⟨hk1, hk⟩ := hk))) | fail)
           | (refine isCond ?_; first | refine WPc.cT ?_ | refine WPc.cF ?_ | (refine WPc.cQ (fun hc => ?_) (fun hc => ?_) <;> try first | exact prA | (exfalso; first | omega)))
           | (refine isD 36 ?_; refine WPl.rdX (ReadR.binE rfl rfl BinR.lss (congrArg Value.bool (decide_eq_true hlt'))) ?_)
           | (refine isD 37 ?_; refine WPl.rdX (ReadR.indexE (i := k) rfl rfl hasA hlt) ?_)
           | (refine isD 38 ?_; refine WPl.rdX (ReadR.loadES (cs := ptX o.pos o.v true o.h) hoc (by omega) rfl hasA) ?_)
           | (refine isD 8 ?_; first | (refine isAl ?_; refine WPl.nw fun g8 => ?_) | (refine isBx ?_; refine WPl.nw fun g8 => ?_))
           | (show WPl _ _ _ _ _ _ _ (⟨_, .store _ (.tmp 8) _, _, _, _, _⟩ :: _) _; refine WPl.stA (new := ptX o.pos o.v true o.h) ?_ (hn := hfo))
           | (refine isC 46 ?_; refine WPl.cV (co) ?_)
           | (refine isC 48 ?_; refine WPl.cV (cp) ?_)
           | (refine isC 57 ?_; refine WPl.cV (cp) ?_)
           | (refine isC 59 ?_; refine WPl.cV (co) ?_)
           | (refine isD 60 ?_; refine WPl.rdX (ReadR.binE rfl rfl BinR.gtr (congrArg Value.bool (decide_eq_true hgt))) ?_)
           | (refine isOp ?_; first | refine WPl.rd ?_ | refine WPl.sk ?_ | refine WPl.rdB ?_)
           | (refine isAl ?_; refine WPl.nw fun g => ?_)
           | (refine isBx ?_; refine WPl.nw fun g => ?_)
           | (refine isSt ?_; first | refine WPl.st1 ?_ | refine WPl.stA ?_ | refine WPl.stEB ?_ | refine WPl.stRB ?_)
           | (show WPl _ _ _ _ _ _ _ (⟨_, .indexAddr _ _ _, _, _, _, _⟩ :: _) _; refine WPl.rdX (ReadR.indexE rfl rfl hasA (by first | assumption | omega)) ?_)
           | (show WPl _ _ _ _ _ _ _ (⟨_, .fieldAddr _ _ _, _, _, _, _⟩ :: _) _; refine WPl.rdX (ReadR.fieldE rfl hasA (by first | assumption | omega)) ?_)
           | (show WPl _ _ _ _ _ _ _ (⟨_, .load _ _, _, _, _, _⟩ :: _) _; first | refine WPl.rdX (ReadR.loadE rfl hasA (by assumption)) ?_ | refine WPl.rdX (ReadR.loadES (by assumption) (by first | assumption | omega) rfl hasA) ?_)
           | (show WPl _ _ _ _ _ _ _ (⟨_, .slice _ _ _ _ _, _, _, _, _⟩ :: _) _; first | refine WPl.rdX (ReadR.sliceH rfl rfl hasA (by omega)) ?_ | refine WPl.rdX (ReadR.sliceL rfl rfl hasA (by omega)) ?_ | refine WPl.rdX (ReadR.sliceLH rfl rfl rfl hasA (by omega) (by omega)) ?_)
           | (refine WPl.spQ (fun hc => ?_) (fun hc => ?_) <;> try first | exact prA | (exfalso; first | omega))
           | fail)
          exact WPq.dV
        · skip
          repeat' (first
           | refine WPl.nil ?_ | refine WPq.then ?_ | refine WPq.thenR ?_ | refine WPq.thenE ?_ | refine WPq.blockN ?_ | refine WPq.blockR ?_ | refine WPq.blockE ?_ | refine WPq.blockO rfl ?_ | refine WPc.seq ?_ | refine WPc.block ?_ | refine WPc.ret ?_ | refine WPc.exit ?_ | refine WPc.skip ?_ | refine WPc.region ?_
           | (refine isReg 10 ?_; refine WPc.drA [([], []), ([0], [39]), ([0, 1], [39, 40]), ([0, 1, 2], [39, 40, 41]), ([0, 1, 2, 3], [39, 40, 41, 42]), ([0, 1, 2, 3, 4], [39, 40, 41, 42, 43]), ([0, 1, 2, 3, 4, 5], [39, 40, 41, 42, 43, 44, 47]), ([0, 1, 2, 3, 4, 5, 6], [39, 40, 41, 42, 43, 44, 45, 47]), ([0, 1, 2, 3, 4, 5], [39, 40, 41, 42, 43, 44, 45, 46]), ([0, 1, 2, 3, 4, 5, 6, 7, 8], [39, 40, 41, 42, 43, 44, 45, 46, 47]), ([0, 1, 2, 3, 4, 5, 6, 7, 8, 9], [39, 40, 41, 42, 43, 44, 45, 46, 47, 48]), ([0, 1, 2, 3, 4, 5, 6, 7, 8, 9, 10], [39, 40, 41, 42, 43, 44, 45, 46, 47, 48, 49]), ([0, 1, 2, 3, 4, 5, 6, 7, 8, 9, 10, 11], [39, 40, 41, 42, 43, 44, 45, 46, 47, 48, 49, 50]), ([0, 1, 2, 3, 4, 5, 6, 7, 8, 9, 10, 11, 12], [39, 40, 41, 42, 43, 44, 45, 46, 47, 48, 49, 50, 51]), ([0, 1, 2, 3, 4, 5, 6, 7, 8, 9, 10, 11, 12, 13], [39, 40, 41, 42, 43, 44, 45, 46, 47, 48, 49, 50, 51, 52]), ([0, 1, 2, 3, 4, 5, 6, 7, 8, 9, 10, 11, 12, 13, 14], [39, 40, 41, 42, 43, 44, 45, 46, 47, 48, 49, 50, 51, 52, 53]), ([0, 1, 2, 3, 4, 5, 6, 7, 8, 9, 10, 11, 12, 13, 14, 15], [39, 40, 41, 42, 43, 44, 45, 46, 47, 48, 49, 50, 51, 52, 53, 54]), ([0, 1, 2, 3, 4, 5, 6, 7, 8, 9, 10, 11, 12, 13, 14, 15, 16], [39, 40, 41, 42, 43, 44, 45, 46, 47, 48, 49, 50, 51, 52, 53, 54, 55, 58]), ([0, 1, 2, 3, 4, 5, 6, 7, 8, 9, 10, 11, 12, 13, 14, 15, 16, 17], [39, 40, 41, 42, 43, 44, 45, 46, 47, 48, 49, 50, 51, 52, 53, 54, 55, 56, 58]), ([0, 1, 2, 3, 4, 5, 6, 7, 8, 9, 10, 11, 12, 13, 14, 15, 16], [39, 40, 41, 42, 43, 44, 45, 46, 47, 48, 49, 50, 51, 52, 53, 54, 55, 56, 57]), ([0, 1, 2, 3, 4, 5, 6, 7, 8, 9, 10, 11, 12, 13, 14, 15, 16, 17, 18, 19], [39, 40, 41, 42, 43, 44, 45, 46, 47, 48, 49, 50, 51, 52, 53, 54, 55, 56, 57, 58]), ([0, 1, 2, 3, 4, 5, 6, 7, 8, 9, 10, 11, 12, 13, 14, 15, 16, 17, 18, 19, 20], [39, 40, 41, 42, 43, 44, 45, 46, 47, 48, 49, 50, 51, 52, 53, 54, 55, 56, 57, 58, 59]), ([0, 1, 2, 3, 4, 5, 6, 7, 8, 9, 10, 11, 12, 13, 14, 15, 16, 17, 18, 19, 20, 21], [39, 40, 41, 42, 43, 44, 45, 46, 47, 48, 49, 50, 51, 52, 53, 54, 55, 56, 57, 58, 59, 60]), ([0, 1, 2, 3, 4, 5, 6, 7, 8, 9, 10, 11, 12, 13, 14, 15, 16, 17, 18, 19, 20, 21, 22], [39, 40, 41, 42, 43, 44, 45, 46, 47, 48, 49, 50, 51, 52, 53, 54, 55, 56, 57, 58, 59, 60, 61])] [] (Γx := []) ?_; dsimp only [prev0, List.length_nil, List.length_cons])
           | (refine gAny ?_; first | (refine gGd ?_; refine RGl.skp ?_) | (refine gC 46 ?_; refine RGl.vl (fun e hk => OpT.callN (co)) ?_) | (refine gC 48 ?_; refine RGl.vl (fun e hk => OpT.callN (cp)) ?_) | (refine gC 57 ?_; refine RGl.vl (fun e hk => OpT.callN (cp)) ?_) | (refine gC 59 ?_; refine RGl.vl (fun e hk => OpT.callN (co)) ?_) | (refine gD 36 ?_; refine RGl.rdX (fun e hk => by (try dsimp only [bndR, ensR, oksR, fcutR, List.append_nil, List.nil_append, List.cons_append, List.append_assoc] at hk ⊢); exact ReadR.binE rfl rfl BinR.lss (congrArg Value.bool (decide_eq_true hlt'))) ?_) | (refine gD 37 ?_; refine RGl.rdX (fun e hk => by (try dsimp only [bndR, ensR, oksR, fcutR, List.append_nil, List.nil_append, List.cons_append, List.append_assoc] at hk ⊢); exact ReadR.indexE (i := k) rfl rfl hasA hlt) ?_) | (refine gD 38 ?_; refine RGl.rdX (fun e hk => by (try dsimp only [bndR, ensR, oksR, fcutR, List.append_nil, List.nil_append, List.cons_append, List.append_assoc] at hk ⊢); exact ReadR.loadES (cs := ptX o.pos o.v true o.h) hoc (by omega) rfl hasA) ?_) | (refine gD 60 ?_; refine RGl.rdX (fun e hk => by (try dsimp only [bndR, ensR, oksR, fcutR, List.append_nil, List.nil_append, List.cons_append, List.append_assoc] at hk ⊢); exact ReadR.binE rfl rfl BinR.gtr (congrArg Value.bool (decide_eq_false hgt))) ?_) | (refine gOp ?_; first | refine RGl.rdA ?_ | refine RGl.rdX (fun e hk => by (try dsimp only [bndR, ensR, oksR, fcutR, List.append_nil, List.nil_append, List.cons_append, List.append_assoc] at hk ⊢); exact readB) ?_) | (refine RGl.fin (fun e hk => ?_); (try dsimp only [bndA, ensAR, oksA, List.append_nil, List.nil_append, List.cons_append, List.append_assoc] at hk ⊢); (repeat (obtain ⟨hk1, hk⟩ := hk))) | fail)
           | (refine isCond ?_; first | refine WPc.cT ?_ | refine WPc.cF ?_ | (refine WPc.cQ (fun hc => ?_) (fun hc => ?_) <;> try first | exact prA | (exfalso; first | omega)))
           | (refine isD 36 ?_; refine WPl.rdX (ReadR.binE rfl rfl BinR.lss (congrArg Value.bool (decide_eq_true hlt'))) ?_)
           | (refine isD 37 ?_; refine WPl.rdX (ReadR.indexE (i := k) rfl rfl hasA hlt) ?_)
           | (refine isD 38 ?_; refine WPl.rdX (ReadR.loadES (cs := ptX o.pos o.v true o.h) hoc (by omega) rfl hasA) ?_)
           | (refine isD 8 ?_; first | (refine isAl ?_; refine WPl.nw fun g8 => ?_) | (refine isBx ?_; refine WPl.nw fun g8 => ?_))
           | (show WPl _ _ _ _ _ _ _ (⟨_, .store _ (.tmp 8) _, _, _, _, _⟩ :: _) _; refine WPl.stA (new := ptX o.pos o.v true o.h) ?_ (hn := hfo))
           | (refine isC 46 ?_; refine WPl.cV (co) ?_)
           | (refine isC 48 ?_; refine WPl.cV (cp) ?_)
           | (refine isC 57 ?_; refine WPl.cV (cp) ?_)
           | (refine isC 59 ?_; refine WPl.cV (co) ?_)
           | (refine isD 60 ?_; refine WPl.rdX (ReadR.binE rfl rfl BinR.gtr (congrArg Value.bool (decide_eq_false hgt))) ?_)
           | (refine isOp ?_; first | refine WPl.rd ?_ | refine WPl.sk ?_ | refine WPl.rdB ?_)
           | (refine isAl ?_; refine WPl.nw fun g => ?_)
           | (refine isBx ?_; refine WPl.nw fun g => ?_)
           | (refine isSt ?_; first | refine WPl.st1 ?_ | refine WPl.stA ?_ | refine WPl.stEB ?_ | refine WPl.stRB ?_)
           | (show WPl _ _ _ _ _ _ _ (⟨_, .indexAddr _ _ _, _, _, _, _⟩ :: _) _; refine WPl.rdX (ReadR.indexE rfl rfl hasA (by first | assumption | omega)) ?_)
           | (show WPl _ _ _ _ _ _ _ (⟨_, .fieldAddr _ _ _, _, _, _, _⟩ :: _) _; refine WPl.rdX (ReadR.fieldE rfl hasA (by first | assumption | omega)) ?_)
           | (show WPl _ _ _ _ _ _ _ (⟨_, .load _ _, _, _, _, _⟩ :: _) _; first | refine WPl.rdX (ReadR.loadE rfl hasA (by assumption)) ?_ | refine WPl.rdX (ReadR.loadES (by assumption) (by first | assumption | omega) rfl hasA) ?_)
           | (show WPl _ _ _ _ _ _ _ (⟨_, .slice _ _ _ _ _, _, _, _, _⟩ :: _) _; first | refine WPl.rdX (ReadR.sliceH rfl rfl hasA (by omega)) ?_ | refine WPl.rdX (ReadR.sliceL rfl rfl hasA (by omega)) ?_ | refine WPl.rdX (ReadR.sliceLH rfl rfl rfl hasA (by omega) (by omega)) ?_)
           | (refine WPl.spQ (fun hc => ?_) (fun hc => ?_) <;> try first | exact prA | (exfalso; first | omega))
           | fail)
          exact WPq.rnd (k + 1) (hnx (by rw [hbd, hpl, hol, decide_eq_false hgt]; rfl)) (by omega)
      | false =>
        have eo : ptC o = ptX o.pos o.v false o.h := by show ptX _ _ o.last _ = _; rw [hol]
        rw [eo] at co hoc hfo
        repeat' (first
         | refine WPl.nil ?_ | refine WPq.then ?_ | refine WPq.thenR ?_ | refine WPq.thenE ?_ | refine WPq.blockN ?_ | refine WPq.blockR ?_ | refine WPq.blockE ?_ | refine WPq.blockO rfl ?_ | refine WPc.seq ?_ | refine WPc.block ?_ | refine WPc.ret ?_ | refine WPc.exit ?_ | refine WPc.skip ?_ | refine WPc.region ?_
         | (refine isReg 10 ?_; refine WPc.drA [([], []), ([0], [39]), ([0, 1], [39, 40]), ([0, 1, 2], [39, 40, 41]), ([0, 1, 2, 3], [39, 40, 41, 42]), ([0, 1, 2, 3, 4], [39, 40, 41, 42, 43]), ([0, 1, 2, 3, 4, 5], [39, 40, 41, 42, 43, 44, 47]), ([0, 1, 2, 3, 4, 5, 6], [39, 40, 41, 42, 43, 44, 45, 47]), ([0, 1, 2, 3, 4, 5], [39, 40, 41, 42, 43, 44, 45, 46]), ([0, 1, 2, 3, 4, 5, 6, 7, 8], [39, 40, 41, 42, 43, 44, 45, 46, 47]), ([0, 1, 2, 3, 4, 5, 6, 7, 8, 9], [39, 40, 41, 42, 43, 44, 45, 46, 47, 48]), ([0, 1, 2, 3, 4, 5, 6, 7, 8, 9, 10], [39, 40, 41, 42, 43, 44, 45, 46, 47, 48, 49]), ([0, 1, 2, 3, 4, 5, 6, 7, 8, 9, 10, 11], [39, 40, 41, 42, 43, 44, 45, 46, 47, 48, 49, 50]), ([0, 1, 2, 3, 4, 5, 6, 7, 8, 9, 10, 11, 12], [39, 40, 41, 42, 43, 44, 45, 46, 47, 48, 49, 50, 51]), ([0, 1, 2, 3, 4, 5, 6, 7, 8, 9, 10, 11, 12, 13], [39, 40, 41, 42, 43, 44, 45, 46, 47, 48, 49, 50, 51, 52]), ([0, 1, 2, 3, 4, 5, 6, 7, 8, 9, 10, 11, 12, 13, 14], [39, 40, 41, 42, 43, 44, 45, 46, 47, 48, 49, 50, 51, 52, 53]), ([0, 1, 2, 3, 4, 5, 6, 7, 8, 9, 10, 11, 12, 13, 14, 15], [39, 40, 41, 42, 43, 44, 45, 46, 47, 48, 49, 50, 51, 52, 53, 54]), ([0, 1, 2, 3, 4, 5, 6, 7, 8, 9, 10, 11, 12, 13, 14, 15, 16], [39, 40, 41, 42, 43, 44, 45, 46, 47, 48, 49, 50, 51, 52, 53, 54, 55, 58]), ([0, 1, 2, 3, 4, 5, 6, 7, 8, 9, 10, 11, 12, 13, 14, 15, 16, 17], [39, 40, 41, 42, 43, 44, 45, 46, 47, 48, 49, 50, 51, 52, 53, 54, 55, 56, 58]), ([0, 1, 2, 3, 4, 5, 6, 7, 8, 9, 10, 11, 12, 13, 14, 15, 16], [39, 40, 41, 42, 43, 44, 45, 46, 47, 48, 49, 50, 51, 52, 53, 54, 55, 56, 57]), ([0, 1, 2, 3, 4, 5, 6, 7, 8, 9, 10, 11, 12, 13, 14, 15, 16, 17, 18, 19], [39, 40, 41, 42, 43, 44, 45, 46, 47, 48, 49, 50, 51, 52, 53, 54, 55, 56, 57, 58]), ([0, 1, 2, 3, 4, 5, 6, 7, 8, 9, 10, 11, 12, 13, 14, 15, 16, 17, 18, 19, 20], [39, 40, 41, 42, 43, 44, 45, 46, 47, 48, 49, 50, 51, 52, 53, 54, 55, 56, 57, 58, 59]), ([0, 1, 2, 3, 4, 5, 6, 7, 8, 9, 10, 11, 12, 13, 14, 15, 16, 17, 18, 19, 20, 21], [39, 40, 41, 42, 43, 44, 45, 46, 47, 48, 49, 50, 51, 52, 53, 54, 55, 56, 57, 58, 59, 60]), ([0, 1, 2, 3, 4, 5, 6, 7, 8, 9, 10, 11, 12, 13, 14, 15, 16, 17, 18, 19, 20, 21, 22], [39, 40, 41, 42, 43, 44, 45, 46, 47, 48, 49, 50, 51, 52, 53, 54, 55, 56, 57, 58, 59, 60, 61])] [] (Γx := []) ?_; dsimp only [prev0, List.length_nil, List.length_cons])
         | (refine gAny ?_; first | (refine gGd ?_; refine RGl.skp ?_) | (refine gC 46 ?_; refine RGl.vl (fun e hk => OpT.callN (co)) ?_) | (refine gC 48 ?_; refine RGl.vl (fun e hk => OpT.callN (cp)) ?_) | (refine gC 57 ?_; refine RGl.vl (fun e hk => OpT.callN (cp)) ?_) | (refine gC 59 ?_; refine RGl.vl (fun e hk => OpT.callN (co)) ?_) | (refine gD 36 ?_; refine RGl.rdX (fun e hk => by (try dsimp only [bndR, ensR, oksR, fcutR, List.append_nil, List.nil_append, List.cons_append, List.append_assoc] at hk ⊢); exact ReadR.binE rfl rfl BinR.lss (congrArg Value.bool (decide_eq_true hlt'))) ?_) | (refine gD 37 ?_; refine RGl.rdX (fun e hk => by (try dsimp only [bndR, ensR, oksR, fcutR, List.append_nil, List.nil_append, List.cons_append, List.append_assoc] at hk ⊢); exact ReadR.indexE (i := k) rfl rfl hasA hlt) ?_) | (refine gD 38 ?_; refine RGl.rdX (fun e hk => by (try dsimp only [bndR, ensR, oksR, fcutR, List.append_nil, List.nil_append, List.cons_append, List.append_assoc] at hk ⊢); exact ReadR.loadES (cs := ptX o.pos o.v false o.h) hoc (by omega) rfl hasA) ?_) | (refine gOp ?_; first | refine RGl.rdA ?_ | refine RGl.rdX (fun e hk => by (try dsimp only [bndR, ensR, oksR, fcutR, List.append_nil, List.nil_append, List.cons_append, List.append_assoc] at hk ⊢); exact readB) ?_) | (refine RGl.fin (fun e hk => ?_); (try dsimp only [bndA, ensAR, oksA, List.append_nil, List.nil_append, List.cons_append, List.append_assoc] at hk ⊢); (repeat (obtain ⟨hk1, hk⟩ := hk))) | fail)
         | (refine isCond ?_; first | refine WPc.cT ?_ | refine WPc.cF ?_ | (refine WPc.cQ (fun hc => ?_) (fun hc => ?_) <;> try first | exact prA | (exfalso; first | omega)))
         | (refine isD 36 ?_; refine WPl.rdX (ReadR.binE rfl rfl BinR.lss (congrArg Value.bool (decide_eq_true hlt'))) ?_)
         | (refine isD 37 ?_; refine WPl.rdX (ReadR.indexE (i := k) rfl rfl hasA hlt) ?_)
         | (refine isD 38 ?_; refine WPl.rdX (ReadR.loadES (cs := ptX o.pos o.v false o.h) hoc (by omega) rfl hasA) ?_)
         | (refine isD 8 ?_; first | (refine isAl ?_; refine WPl.nw fun g8 => ?_) | (refine isBx ?_; refine WPl.nw fun g8 => ?_))
         | (show WPl _ _ _ _ _ _ _ (⟨_, .store _ (.tmp 8) _, _, _, _, _⟩ :: _) _; refine WPl.stA (new := ptX o.pos o.v false o.h) ?_ (hn := hfo))
         | (refine isC 46 ?_; refine WPl.cV (co) ?_)
         | (refine isC 48 ?_; refine WPl.cV (cp) ?_)
         | (refine isC 57 ?_; refine WPl.cV (cp) ?_)
         | (refine isC 59 ?_; refine WPl.cV (co) ?_)
         | (refine isOp ?_; first | refine WPl.rd ?_ | refine WPl.sk ?_ | refine WPl.rdB ?_)
         | (refine isAl ?_; refine WPl.nw fun g => ?_)
         | (refine isBx ?_; refine WPl.nw fun g => ?_)
         | (refine isSt ?_; first | refine WPl.st1 ?_ | refine WPl.stA ?_ | refine WPl.stEB ?_ | refine WPl.stRB ?_)
         | (show WPl _ _ _ _ _ _ _ (⟨_, .indexAddr _ _ _, _, _, _, _⟩ :: _) _; refine WPl.rdX (ReadR.indexE rfl rfl hasA (by first | assumption | omega)) ?_)
         | (show WPl _ _ _ _ _ _ _ (⟨_, .fieldAddr _ _ _, _, _, _, _⟩ :: _) _; refine WPl.rdX (ReadR.fieldE rfl hasA (by first | assumption | omega)) ?_)
         | (show WPl _ _ _ _ _ _ _ (⟨_, .load _ _, _, _, _, _⟩ :: _) _; first | refine WPl.rdX (ReadR.loadE rfl hasA (by assumption)) ?_ | refine WPl.rdX (ReadR.loadES (by assumption) (by first | assumption | omega) rfl hasA) ?_)
         | (show WPl _ _ _ _ _ _ _ (⟨_, .slice _ _ _ _ _, _, _, _, _⟩ :: _) _; first | refine WPl.rdX (ReadR.sliceH rfl rfl hasA (by omega)) ?_ | refine WPl.rdX (ReadR.sliceL rfl rfl hasA (by omega)) ?_ | refine WPl.rdX (ReadR.sliceLH rfl rfl rfl hasA (by omega) (by omega)) ?_)
         | (refine WPl.spQ (fun hc => ?_) (fun hc => ?_) <;> try first | exact prA | (exfalso; first | omega))
         | fail)
        exact WPq.rnd (k + 1) (hnx (by rw [hbd, hpl, hol]; rfl)) (by omega)
  have hlt' : ¬ (k : Int) < (x.ps.length : Int) := by omega
  have hno2 : x.ps.any (badB p) = false := any_no fun j o hj hq => hno j o (by omega) hq
  rw [show againstP x.ps p = 0 by unfold againstP; rw [if_neg (by rw [hno1]; decide), if_neg (by rw [hno2]; decide)]]
  repeat' (first
   | refine WPl.nil ?_ | refine WPq.then ?_ | refine WPq.thenR ?_ | refine WPq.thenE ?_ | refine WPq.blockN ?_ | refine WPq.blockR ?_ | refine WPq.blockE ?_ | refine WPq.blockO rfl ?_ | refine WPc.seq ?_ | refine WPc.block ?_ | refine WPc.ret ?_ | refine WPc.exit ?_ | refine WPc.skip ?_ | refine WPc.region ?_
   | (refine isCond ?_; first | refine WPc.cT ?_ | refine WPc.cF ?_ | (refine WPc.cQ (fun hc => ?_) (fun hc => ?_) <;> try first | exact prA | (exfalso; first | omega)))
   | (refine isD 36 ?_; refine WPl.rdX (ReadR.binE rfl rfl BinR.lss (congrArg Value.bool (decide_eq_false hlt'))) ?_)
   | (refine isOp ?_; first | refine WPl.rd ?_ | refine WPl.sk ?_ | refine WPl.rdB ?_)
   | (refine isAl ?_; refine WPl.nw fun g => ?_)
   | (refine isBx ?_; refine WPl.nw fun g => ?_)
   | (refine isSt ?_; first | refine WPl.st1 ?_ | refine WPl.stA ?_ | refine WPl.stEB ?_ | refine WPl.stRB ?_)
   | (show WPl _ _ _ _ _ _ _ (⟨_, .indexAddr _ _ _, _, _, _, _⟩ :: _) _; refine WPl.rdX (ReadR.indexE rfl rfl hasA (by first | assumption | omega)) ?_)
   | (show WPl _ _ _ _ _ _ _ (⟨_, .fieldAddr _ _ _, _, _, _, _⟩ :: _) _; refine WPl.rdX (ReadR.fieldE rfl hasA (by first | assumption | omega)) ?_)
   | (show WPl _ _ _ _ _ _ _ (⟨_, .load _ _, _, _, _, _⟩ :: _) _; first | refine WPl.rdX (ReadR.loadE rfl hasA (by assumption)) ?_ | refine WPl.rdX (ReadR.loadES (by assumption) (by first | assumption | omega) rfl hasA) ?_)
   | (show WPl _ _ _ _ _ _ _ (⟨_, .slice _ _ _ _ _, _, _, _, _⟩ :: _) _; first | refine WPl.rdX (ReadR.sliceH rfl rfl hasA (by omega)) ?_ | refine WPl.rdX (ReadR.sliceL rfl rfl hasA (by omega)) ?_ | refine WPl.rdX (ReadR.sliceLH rfl rfl rfl hasA (by omega) (by omega)) ?_)
   | (refine WPl.spQ (fun hc => ?_) (fun hc => ?_) <;> try first | exact prA | (exfalso; first | omega))
   | fail)
  exact WPq.dV
end Go.Proofs.Ytmdihpanaljkfaa
/- Sorted by Go's library: slices.SortFunc at structs, slices.Sort at ints, in separation's words. -/
namespace Go.Proofs.Ytmdihpanaljkfaa
open Go.RowKit Go.Sort Go.Lib Go.Shelf
set_option linter.unusedSimpArgs false
set_option linter.unusedVariables false
set_option linter.unusedSectionVars false

theorem grown_of_mod {T : Nat → Prop} {w w' : World} (hT : ∀ g, ¬ T g) (h : Mod T w w') : ∃ q os, w' = Sort.grow (w.drewN q) os := by
  refine ⟨w'.drawn - w.drawn, w'.heap.extract w.heap.size w'.heap.size, ?_⟩
  have h1 : w'.heap = w.heap ++ w'.heap.extract w.heap.size w'.heap.size := by
    apply Array.ext_getElem?
    intro i
    by_cases hi : i < w.heap.size
    · rw [Array.getElem?_append_left hi]
      exact h.block i hi (hT i)
    · rw [Array.getElem?_append_right (by omega), Array.getElem?_extract]
      split
      · congr 1; omega
      · rw [Array.getElem?_eq_none (by omega)]
  have h2 := h.drawn
  have h3 := h.os
  have h4 := h.tape
  have h5 := h.output
  unfold Sort.grow World.drewN
  cases w with
  | mk a1 a2 a3 a4 a5 =>
    cases w' with
    | mk b1 b2 b3 b4 b5 =>
      simp only at h1 h2 h3 h4 h5 ⊢
      subst h3 h4 h5
      simp only [World.mk.injEq, and_self, and_true, true_and]
      exact ⟨h1, by omega⟩

section
variable {α : Type} [Inhabited α] {enc : α → List Value} {k : Nat}
theorem flen (hk : ∀ x, (enc x).length = k) (l : List α) : (l.map enc).flatten.length = l.length * k := by
  induction l with
  | nil => simp
  | cons a l ih => rw [List.map_cons, List.flatten_cons, List.length_append, ih, hk, List.length_cons, Nat.succ_mul, Nat.add_comm]
theorem flat_get (hk : ∀ x, (enc x).length = k) : ∀ (l : List α) (t : Nat), t < l.length * k → (l.map enc).flatten[t]? = (enc l[t / k]!)[t % k]?
  | [], t, h => by simp at h
  | a :: l, t, h => by
    have k0 : 0 < k := by rcases Nat.eq_zero_or_pos k with h0 | h0; · subst h0; simp at h
                          · exact h0
    rw [List.map_cons, List.flatten_cons]
    by_cases ht : t < k
    · rw [List.getElem?_append_left (by rw [hk]; exact ht), Nat.div_eq_of_lt ht, Nat.mod_eq_of_lt ht]; rfl
    · obtain ⟨s, rfl⟩ : ∃ s, t = s + k := ⟨t - k, by omega⟩
      rw [List.getElem?_append_right (by rw [hk]; omega), hk, Nat.add_sub_cancel, flat_get hk l s (by rw [List.length_cons, Nat.succ_mul] at h; omega), Nat.add_div_right _ k0, Nat.add_mod_right]
      rfl
theorem flatK_eq (hk : ∀ x, (enc x).length = k) (l : List α) : Go.Sort.flatK enc k l.toArray = (l.map enc).flatten.toArray := by
  have hl : (l.map enc).flatten.length = l.length * k := flen hk l
  apply ext_get!
  · rw [size_flatK]; simp only [List.size_toArray]; exact hl.symm
  · intro t ht
    rw [size_flatK] at ht
    simp only [List.size_toArray] at ht
    rw [get_flatK enc k _ t (by simpa using ht)]
    have h1 := flat_get hk l t ht
    have h2 : (l.map enc).flatten.toArray[t]! = (l.map enc).flatten[t]! := by simp
    have k0 : 0 < k := by rcases Nat.eq_zero_or_pos k with h0 | h0; · subst h0; simp at ht
                          · exact h0
    have hm : t % k < (enc l[t / k]!).length := by rw [hk]; exact Nat.mod_lt _ k0
    rw [h2, show l.toArray[t / k]! = l[t / k]! by simp]
    generalize enc l[t / k]! = A at h1
    generalize (l.map enc).flatten = B at h1
    rw [List.getElem!_eq_getElem?_getD, List.getElem!_eq_getElem?_getD, h1]

/-- How a row of one's own lies, as the sort's laws ask it. -/
theorem row_holds {w : World} {g k : Nat} {cur : Array Value} {T : TypeId} {xs : List Value} (hb : w.heap[g]? = some (.cells cur T (0, 0))) (ht : cur.toList.take xs.length = xs) : Sort.Holds id w g 0 xs.toArray := by
  intro j hj
  have hj' : j < xs.length := by simpa using hj
  refine ⟨?_, by simp [World.frozen?, hb]⟩
  have h1 : (cur.toList.take xs.length)[j]? = xs[j]? := by rw [ht]
  rw [List.getElem?_take_of_lt hj'] at h1
  simp only [World.cell?, hb, Nat.zero_add]
  simp only [Option.isSome_none, Bool.false_eq_true, if_false]
  rw [← Array.getElem?_toList, h1]
  simp [hj']
theorem row_put {w : World} {g n : Nat} {os : Array Obj} {cur : Array Value} {T : TypeId} {k cap m : Nat} {ys : List Value} (hb : w.heap[g]? = some (.cells cur T (0, 0))) (h1 : m ≤ cap) (h2 : cap ≤ maxLen) (h3 : cur.size = cap * k) (hl : ys.length = m * k) (Q : Nat → Prop) (hQ : Q g) :
    (rowN T k (.slice (some ⟨g, 0, none⟩) m cap) m ys).holds (Sort.grow (putRow id (Sort.ahead w n) g 0 ys.toArray) os) ∧ Mod Q w (Sort.grow (putRow id (Sort.ahead w n) g 0 ys.toArray) os) := by
  have hg : g < w.heap.size := (Array.getElem?_eq_some_iff.1 hb).1
  have hle : m * k ≤ cap * k := Nat.mul_le_mul_right k h1
  constructor
  · refine ⟨hl, .inr ⟨g, cap, putCells id 0 ys.toArray cur, rfl, Nat.zero_le _, ?_, h1, h2, by simp [putCells, h3], ?_⟩⟩
    · rw [heap_grow_old _ _ (by simpa using hg)]
      simp [putRow, mapBlock, Sort.ahead, Array.getElem?_modify, hb, onCells]
    · apply List.ext_getElem?
      intro j
      by_cases hj : j < m * k
      · rw [List.getElem?_take_of_lt hj, Array.getElem?_toList]
        simp [putCells, hl, hj, show j < cur.size by omega, show j < ys.length by omega]
      · rw [List.getElem?_take_eq_none (by omega), List.getElem?_eq_none (by omega)]
  · refine ⟨rfl, rfl, rfl, by simp, Nat.le_add_right _ _, fun j hj hn => ?_⟩
    rw [heap_grow_old _ _ (by simpa using hj)]
    have : g ≠ j := fun e => hn (e ▸ hQ)
    simp [putRow, mapBlock, Sort.ahead, Array.getElem?_modify, this]
end
section
variable {P : Program} {ρ : Ren} {α : Type} [Inhabited α]
theorem enters_isCode {g : FuncId} (hc : isCode P g = true) (args : Array Value) (w : World) : (callFunc g args).run P w = .ok (.enter g args) w := by
  unfold isCode at hc
  cases hf : P.funcs[g]? with
  | none => rw [hf] at hc; cases hc
  | some fn =>
    rw [hf] at hc
    simp only [Bool.and_eq_true, decide_eq_true_eq] at hc
    obtain ⟨h1, h2⟩ := hc
    obtain ⟨b, hb⟩ := Option.isSome_iff_exists.1 h2
    simp [callFunc, Sem.run_bind, hf, h1, hb, go_sem]
theorem not_own {g : Nat} : ¬ ownFp [] g := by rintro ⟨A, hA, _⟩; cases hA
def intsV (l : List Int) : List Value := l.map (Value.int .i64)
end
end Go.Proofs.Ytmdihpanaljkfaa
/- Orders by which lists are sorted; bytes compared. -/
namespace Go.Proofs.Ytmdihpanaljkfaa
open Go.RowKit Go.Sort Go.Lib
set_option linter.unusedSimpArgs false
set_option linter.unusedVariables false
/-- A comparison: total, and it leads on. -/
structure TC {α : Type} (f : α → α → Int) : Prop where
  flip : ∀ x y, f x y < 0 ↔ 0 < f y x
  trans : ∀ x y z, f x y ≤ 0 → f y z ≤ 0 → f x z ≤ 0
section
variable {α β : Type} {f g : α → α → Int}
theorem TC.swo (h : TC f) : SWO (ltOf f) where
  irrefl x := by
    have := h.flip x x
    simp only [ltOf, decide_eq_false_iff_not]; omega
  trans x y z h1 h2 := by
    simp only [ltOf, decide_eq_true_eq] at *
    have a1 := h.trans x y z (by omega) (by omega)
    rcases Int.lt_or_le (f x z) 0 with h3 | h3
    · exact h3
    · have f1 := h.flip y z
      have f2 := h.flip z x
      have f3 := h.flip x z
      have := h.trans z x y (by omega) (by omega)
      omega
  ntrans x y z h1 h2 := by
    simp only [ltOf, decide_eq_false_iff_not] at *
    have f1 := h.flip x y
    have f2 := h.flip y x
    have f3 := h.flip y z
    have f4 := h.flip z y
    have f5 := h.flip x z
    have f6 := h.flip z x
    have := h.trans z y x (by omega) (by omega)
    omega
theorem TC.pull (h : TC f) (k : β → α) : TC (fun x y => f (k x) (k y)) := ⟨fun x y => h.flip _ _, fun x y z => h.trans _ _ _⟩
def lexC (f g : α → α → Int) (x y : α) : Int := if f x y ≠ 0 then f x y else g x y
theorem TC.lex (h : TC f) (k : TC g) : TC (lexC f g) := by
  constructor
  · intro x y
    have a1 := h.flip x y
    have a2 := h.flip y x
    have b1 := k.flip x y
    unfold lexC
    split <;> split <;> omega
  · intro x y z
    have a1 := h.trans x y z
    have a2 := h.trans z x y
    have a3 := h.trans y z x
    have f1 := h.flip x y
    have f2 := h.flip y x
    have f3 := h.flip y z
    have f4 := h.flip z y
    have f5 := h.flip x z
    have f6 := h.flip z x
    have b1 := k.trans x y z
    unfold lexC
    split <;> split <;> split <;> omega
theorem TC.int : TC compareInt where
  flip x y := by unfold compareInt; repeat' split
                 all_goals omega
  trans x y z := by unfold compareInt; repeat' split
                    all_goals omega
def boolC (a b : Bool) : Int := if a = b then 0 else if b then -1 else 1
/-- Addresses. -/
def adrC : Adr → Adr → Int := lexC (fun a b => boolC a.six b.six) (fun a b => compareBytes a.b b.b)
def adrLt (a b : Adr) : Bool := if a.six ≠ b.six then b.six else decide (compareBytes a.b b.b < 0)
end
end Go.Proofs.Ytmdihpanaljkfaa
/- The contracts of Go library functions, laid at this program (written by a tool). -/
namespace Go.Proofs
open Go.Shelf
def Try.sortF47_ren : Go.Shelf.Ren := ⟨fun | 6 => 47 | 15 => 55 | 14 => 54 | 28 => 67 | 29 => 68 | 20 => 59 | 21 => 60 | 22 => 61 | 23 => 62 | 24 => 63 | 25 => 64 | 26 => 65 | 27 => 66 | 46 => 69 | 47 => 70 | 48 => 71 | 49 => 72 | 50 => 73 | 57 => 74 | n => n, fun | 22 => 75 | 24 => 55 | 25 => 97 | 3 => 3 | 39 => 84 | 0 => 0 | 53 => 111 | 55 => 38 | 4 => 4 | 46 => 104 | 45 => 103 | 50 => 108 | 5 => 5 | 9 => 9 | 66 => 113 | 70 => 117 | 76 => 119 | 77 => 120 | n => n, fun | n => n⟩
theorem Try.sortF47 : Go.Proofs.SlLaysF0.n6 Try.prog Try.sortF47_ren := {
  mixed := by kernel_rfl
  f6 := ⟨Try.f47.name, by decide, Try.func47.trans (congrArg some (by kernel_rfl))⟩
  f14 := ⟨Try.f54.name, by decide, Try.func54.trans (congrArg some (by kernel_rfl))⟩
  f15 := Try.func55.trans (congrArg some (by kernel_rfl))
  f20 := ⟨Try.f59.name, by decide, Try.func59.trans (congrArg some (by kernel_rfl))⟩
  f21 := ⟨Try.f60.name, by decide, Try.func60.trans (congrArg some (by kernel_rfl))⟩
  f22 := ⟨Try.f61.name, by decide, Try.func61.trans (congrArg some (by kernel_rfl))⟩
  f23 := ⟨Try.f62.name, by decide, Try.func62.trans (congrArg some (by kernel_rfl))⟩
  f24 := ⟨Try.f63.name, by decide, Try.func63.trans (congrArg some (by kernel_rfl))⟩
  f25 := ⟨Try.f64.name, by decide, Try.func64.trans (congrArg some (by kernel_rfl))⟩
  f26 := ⟨Try.f65.name, by decide, Try.func65.trans (congrArg some (by kernel_rfl))⟩
  f27 := ⟨Try.f66.name, by decide, Try.func66.trans (congrArg some (by kernel_rfl))⟩
  f28 := Try.func67.trans (congrArg some (by kernel_rfl))
  f29 := Try.func68.trans (congrArg some (by kernel_rfl))
  f46 := ⟨Try.f69.name, by decide, Try.func69.trans (congrArg some (by kernel_rfl))⟩
  f47 := Try.func70.trans (congrArg some (by kernel_rfl))
  f48 := Try.func71.trans (congrArg some (by kernel_rfl))
  f49 := ⟨Try.f72.name, by decide, Try.func72.trans (congrArg some (by kernel_rfl))⟩
  f50 := ⟨Try.f73.name, by decide, Try.func73.trans (congrArg some (by kernel_rfl))⟩
  f57 := ⟨Try.f74.name, by decide, Try.func74.trans (congrArg some (by kernel_rfl))⟩
  t0 := Try.underlying0
  a0 := Try.isAgg0
  z0 := Try.sizeOf0
  v0 := Try.zeroValue0
  t3 := Try.underlying3
  a3 := Try.isAgg3
  z3 := Try.sizeOf3
  v3 := Try.zeroValue3
  t4 := Try.underlying4
  a4 := Try.isAgg4
  z4 := Try.sizeOf4
  v4 := Try.zeroValue4
  t5 := Try.underlying5
  a5 := Try.isAgg5
  z5 := Try.sizeOf5
  v5 := Try.zeroValue5
  t9 := Try.underlying9
  a9 := Try.isAgg9
  z9 := Try.sizeOf9
  v9 := Try.zeroValue9
  t22 := Try.underlying75
  a22 := Try.isAgg75
  z22 := Try.sizeOf75
  v22 := Try.zeroValue75
  t25 := Try.underlying97
  a25 := Try.isAgg97
  z25 := Try.sizeOf97
  v25 := Try.zeroValue97
  t39 := Try.underlying84
  a39 := Try.isAgg84
  z39 := Try.sizeOf84
  v39 := Try.zeroValue84
  t45 := Try.underlying103
  a45 := Try.isAgg103
  z45 := Try.sizeOf103
  v45 := Try.zeroValue103
  t46 := Try.underlying104
  a46 := Try.isAgg104
  z46 := Try.sizeOf104
  v46 := Try.zeroValue104
  t50 := Try.underlying108
  a50 := Try.isAgg108
  z50 := Try.sizeOf108
  v50 := Try.zeroValue108
  t53 := Try.underlying111
  a53 := Try.isAgg111
  z53 := Try.sizeOf111
  v53 := Try.zeroValue111
  t55 := Try.underlying38
  a55 := Try.isAgg38
  z55 := Try.sizeOf38
  v55 := Try.zeroValue38
  t66 := Try.underlying113
  a66 := Try.isAgg113
  z66 := Try.sizeOf113
  v66 := Try.zeroValue113
  t70 := Try.underlying117
  a70 := Try.isAgg117
  z70 := Try.sizeOf117
  v70 := Try.zeroValue117
  t76 := Try.underlying119
  a76 := Try.isAgg119
  z76 := Try.sizeOf119
  v76 := Try.zeroValue119
  t77 := Try.underlying120
  a77 := Try.isAgg120
  z77 := Try.sizeOf120
  v77 := Try.zeroValue120 }
def Try.bitsLen_ren : Go.Shelf.Ren := ⟨fun | 125 => 55 | 128 => 67 | 129 => 68 | n => n, fun | 46 => 84 | 3 => 3 | 51 => 111 | 53 => 38 | 4 => 4 | 5 => 5 | 9 => 9 | n => n, fun | n => n⟩
end Go.Proofs
/- slices.Sort at ints, laid at this program. -/
namespace Go.Proofs.Ytmdihpanaljkfaa
open Go.RowKit
set_option linter.unusedSimpArgs false
set_option linter.unusedVariables false
set_option maxRecDepth 20000
set_option maxHeartbeats 4000000
attribute [local irreducible] WPc WPl WPq ReadR OpT BinR HasS bx rdN rowN Take Takes Prov Triple ResF BuildP Done ag Int.decLt Int.decLe Int.instDecidableEq
end Go.Proofs.Ytmdihpanaljkfaa
/- Layer 38 (topk): how clients are ordered: contracts. -/
namespace Go.Proofs.Ytmdihpanaljkfaa
open Go.RowKit
set_option linter.unusedSimpArgs false
set_option linter.unusedVariables false
set_option maxRecDepth 20000
set_option maxHeartbeats 4000000
attribute [local irreducible] WPc WPl WPq ReadR OpT BinR HasS bx rdN rowN Take Takes Prov Triple ResF BuildP Done ag Int.decLt Int.decLe Int.instDecidableEq
open Go.Lib (compareInt compareBytes)
theorem nanI_t (a : Int) : Triple Try.prog 56 #[.int .i64 a] [] (RVal (.bool false)) := by
  refine Triple.enter Try.func56 rfl Try.ntmps56 rfl (fun W => ?_)
  dsimp only [argsF, Nat.reduceAdd]
  repeat' (first
   | refine WPl.nil ?_ | refine WPq.then ?_ | refine WPq.thenR ?_ | refine WPq.thenE ?_ | refine WPq.blockN ?_ | refine WPq.blockR ?_ | refine WPq.blockE ?_ | refine WPq.blockO rfl ?_ | refine WPc.seq ?_ | refine WPc.block ?_ | refine WPc.ret ?_ | refine WPc.exit ?_ | refine WPc.skip ?_ | refine WPc.region ?_
   | (refine isCond ?_; first | refine WPc.cT ?_ | refine WPc.cF ?_ | (refine WPc.cQ (fun hc => ?_) (fun hc => ?_) <;> try exact prA))
   | (refine isOp ?_; first | refine WPl.rd ?_ | refine WPl.sk ?_ | refine WPl.rdB ?_)
   | (show WPl _ _ _ _ _ _ _ (⟨_, .indexAddr _ _ _, _, _, _, _⟩ :: _) _; refine WPl.rdX (ReadR.indexE rfl rfl hasA (by first | assumption | omega)) ?_)
   | (show WPl _ _ _ _ _ _ _ (⟨_, .fieldAddr _ _ _, _, _, _, _⟩ :: _) _; refine WPl.rdX (ReadR.fieldE rfl hasA (by first | assumption | omega)) ?_)
   | (show WPl _ _ _ _ _ _ _ (⟨_, .load _ _, _, _, _, _⟩ :: _) _; first | refine WPl.rdX (ReadR.loadE rfl hasA (by assumption)) ?_ | refine WPl.rdX (ReadR.loadES (by assumption) (by first | assumption | omega) rfl hasA) ?_)
   | (show WPl _ _ _ _ _ _ _ (⟨_, .slice _ _ _ _ _, _, _, _, _⟩ :: _) _; first | refine WPl.rdX (ReadR.sliceH rfl rfl hasA (by omega)) ?_ | refine WPl.rdX (ReadR.sliceL rfl rfl hasA (by omega)) ?_ | refine WPl.rdX (ReadR.sliceLH rfl rfl rfl hasA (by omega) (by omega)) ?_)
   | (refine WPl.spQ (fun hc => ?_) (fun hc => ?_) <;> try exact prA)
   | fail)
  exact WPq.dV (hc := by simp [resV])
theorem cmpI_t (a b : Int) : Triple Try.prog 50 #[.int .i64 a, .int .i64 b] [] (RVal (.int .i64 (compareInt a b))) := by
  have c1 := nanI_t a
  have c2 := nanI_t b
  refine Triple.enter Try.func50 rfl Try.ntmps50 rfl (fun W => ?_)
  dsimp only [argsF, Nat.reduceAdd]
  repeat' (first
   | refine WPl.nil ?_ | refine WPq.then ?_ | refine WPq.thenR ?_ | refine WPq.thenE ?_ | refine WPq.blockN ?_ | refine WPq.blockR ?_ | refine WPq.blockE ?_ | refine WPq.blockO rfl ?_ | refine WPc.seq ?_ | refine WPc.block ?_ | refine WPc.ret ?_ | refine WPc.exit ?_ | refine WPc.skip ?_ | refine WPc.region ?_
   | (refine isCond ?_; first | refine WPc.cT ?_ | refine WPc.cF ?_ | (refine WPc.cQ (fun hc => ?_) (fun hc => ?_) <;> try exact prA))
   | (refine isC 8 ?_; refine WPl.cV (c1) ?_)
   | (refine isC 10 ?_; refine WPl.cV (c2) ?_)
   | (refine isOp ?_; first | refine WPl.rd ?_ | refine WPl.sk ?_ | refine WPl.rdB ?_)
   | (show WPl _ _ _ _ _ _ _ (⟨_, .indexAddr _ _ _, _, _, _, _⟩ :: _) _; refine WPl.rdX (ReadR.indexE rfl rfl hasA (by first | assumption | omega)) ?_)
   | (show WPl _ _ _ _ _ _ _ (⟨_, .fieldAddr _ _ _, _, _, _, _⟩ :: _) _; refine WPl.rdX (ReadR.fieldE rfl hasA (by first | assumption | omega)) ?_)
   | (show WPl _ _ _ _ _ _ _ (⟨_, .load _ _, _, _, _, _⟩ :: _) _; first | refine WPl.rdX (ReadR.loadE rfl hasA (by assumption)) ?_ | refine WPl.rdX (ReadR.loadES (by assumption) (by first | assumption | omega) rfl hasA) ?_)
   | (show WPl _ _ _ _ _ _ _ (⟨_, .slice _ _ _ _ _, _, _, _, _⟩ :: _) _; first | refine WPl.rdX (ReadR.sliceH rfl rfl hasA (by omega)) ?_ | refine WPl.rdX (ReadR.sliceL rfl rfl hasA (by omega)) ?_ | refine WPl.rdX (ReadR.sliceLH rfl rfl rfl hasA (by omega) (by omega)) ?_)
   | (refine WPl.spQ (fun hc => ?_) (fun hc => ?_) <;> try exact prA)
   | fail)
  all_goals exact WPq.dV (hc := by unfold compareInt; (repeat' split) <;> first | rfl | (exfalso; omega))
theorem or2_t (v : Value) (a b : Int) : Triple Try.prog 49 #[v] [rdN v 2 [.int .i64 a, .int .i64 b]] (RVal (.int .i64 (if a ≠ 0 then a else b))) := by
  have h0 : ([.int .i64 a, .int .i64 b] : List Value)[0]? = some (Value.int .i64 a) := rfl
  have h1 : ([.int .i64 a, .int .i64 b] : List Value)[1]? = some (Value.int .i64 b) := rfl
  refine Triple.enter Try.func49 rfl Try.ntmps49 rfl (fun W => ?_)
  dsimp only [argsF, Nat.reduceAdd]
  repeat' (first
   | refine WPl.nil ?_ | refine WPq.then ?_ | refine WPq.thenR ?_ | refine WPq.thenE ?_ | refine WPq.blockN ?_ | refine WPq.blockR ?_ | refine WPq.blockE ?_ | refine WPq.blockO rfl ?_ | refine WPc.seq ?_ | refine WPc.block ?_ | refine WPc.ret ?_ | refine WPc.exit ?_ | refine WPc.skip ?_ | refine WPc.region ?_
   | (refine isCond ?_; first | refine WPc.cT ?_ | refine WPc.cF ?_ | (refine WPc.cQ (fun hc => ?_) (fun hc => ?_) <;> try exact prA))
   | (refine isOp ?_; first | refine WPl.rd ?_ | refine WPl.sk ?_ | refine WPl.rdB ?_)
   | (show WPl _ _ _ _ _ _ _ (⟨_, .indexAddr _ _ _, _, _, _, _⟩ :: _) _; refine WPl.rdX (ReadR.indexE rfl rfl hasA (by first | assumption | omega)) ?_)
   | (show WPl _ _ _ _ _ _ _ (⟨_, .fieldAddr _ _ _, _, _, _, _⟩ :: _) _; refine WPl.rdX (ReadR.fieldE rfl hasA (by first | assumption | omega)) ?_)
   | (show WPl _ _ _ _ _ _ _ (⟨_, .load _ _, _, _, _, _⟩ :: _) _; first | refine WPl.rdX (ReadR.loadE rfl hasA (by assumption)) ?_ | refine WPl.rdX (ReadR.loadES (by assumption) (by first | assumption | omega) rfl hasA) ?_)
   | (show WPl _ _ _ _ _ _ _ (⟨_, .slice _ _ _ _ _, _, _, _, _⟩ :: _) _; first | refine WPl.rdX (ReadR.sliceH rfl rfl hasA (by omega)) ?_ | refine WPl.rdX (ReadR.sliceL rfl rfl hasA (by omega)) ?_ | refine WPl.rdX (ReadR.sliceLH rfl rfl rfl hasA (by omega) (by omega)) ?_)
   | (refine WPl.spQ (fun hc => ?_) (fun hc => ?_) <;> try exact prA)
   | fail)
  first | refine WPc.loop (σ := Nat) (fun i => i ≤ 2 ∧ (0 < i → a = 0) ∧ (1 < i → b = 0)) (fun i => [rdN v 2 [.int .i64 a, .int .i64 b]]) (fun i => [(3, .int .i64 0), (6, v), (7, .int .i64 2), (8, .int .i64 i)]) (fun i => 2 - i) (0) ?_ takesA frsA (fun st km hx hk => ?_)
  · exact ⟨by omega, by omega, by omega⟩
  obtain ⟨q1, q2, q3⟩ := hx
  by_cases hi0 : st = 0
  · subst hi0
    by_cases ha : a = 0
    · skip
      repeat' (first
       | refine WPl.nil ?_ | refine WPq.then ?_ | refine WPq.thenR ?_ | refine WPq.thenE ?_ | refine WPq.blockN ?_ | refine WPq.blockR ?_ | refine WPq.blockE ?_ | refine WPq.blockO rfl ?_ | refine WPc.seq ?_ | refine WPc.block ?_ | refine WPc.ret ?_ | refine WPc.exit ?_ | refine WPc.skip ?_ | refine WPc.region ?_
       | (refine isCond ?_; first | refine WPc.cT ?_ | refine WPc.cF ?_ | (refine WPc.cQ (fun hc => ?_) (fun hc => ?_) <;> try exact prA))
       | (refine isD 10 ?_; refine WPl.rdX (ReadR.indexE (i := 0) rfl rfl hasA (by omega)) ?_)
       | (refine isD 11 ?_; refine WPl.rdX (ReadR.loadE rfl hasA h0) ?_)
       | (refine isOp ?_; first | refine WPl.rd ?_ | refine WPl.sk ?_ | refine WPl.rdB ?_)
       | (show WPl _ _ _ _ _ _ _ (⟨_, .indexAddr _ _ _, _, _, _, _⟩ :: _) _; refine WPl.rdX (ReadR.indexE rfl rfl hasA (by first | assumption | omega)) ?_)
       | (show WPl _ _ _ _ _ _ _ (⟨_, .fieldAddr _ _ _, _, _, _, _⟩ :: _) _; refine WPl.rdX (ReadR.fieldE rfl hasA (by first | assumption | omega)) ?_)
       | (show WPl _ _ _ _ _ _ _ (⟨_, .load _ _, _, _, _, _⟩ :: _) _; first | refine WPl.rdX (ReadR.loadE rfl hasA (by assumption)) ?_ | refine WPl.rdX (ReadR.loadES (by assumption) (by first | assumption | omega) rfl hasA) ?_)
       | (show WPl _ _ _ _ _ _ _ (⟨_, .slice _ _ _ _ _, _, _, _, _⟩ :: _) _; first | refine WPl.rdX (ReadR.sliceH rfl rfl hasA (by omega)) ?_ | refine WPl.rdX (ReadR.sliceL rfl rfl hasA (by omega)) ?_ | refine WPl.rdX (ReadR.sliceLH rfl rfl rfl hasA (by omega) (by omega)) ?_)
       | (refine WPl.spQ (fun hc => ?_) (fun hc => ?_) <;> try exact prA)
       | fail)
      all_goals first | exact WPq.rnd 1 ⟨by omega, fun _ => ha, by omega⟩ (by omega) | exact absurd ha (by assumption)
    · skip
      repeat' (first
       | refine WPl.nil ?_ | refine WPq.then ?_ | refine WPq.thenR ?_ | refine WPq.thenE ?_ | refine WPq.blockN ?_ | refine WPq.blockR ?_ | refine WPq.blockE ?_ | refine WPq.blockO rfl ?_ | refine WPc.seq ?_ | refine WPc.block ?_ | refine WPc.ret ?_ | refine WPc.exit ?_ | refine WPc.skip ?_ | refine WPc.region ?_
       | (refine isCond ?_; first | refine WPc.cT ?_ | refine WPc.cF ?_ | (refine WPc.cQ (fun hc => ?_) (fun hc => ?_) <;> try exact prA))
       | (refine isD 10 ?_; refine WPl.rdX (ReadR.indexE (i := 0) rfl rfl hasA (by omega)) ?_)
       | (refine isD 11 ?_; refine WPl.rdX (ReadR.loadE rfl hasA h0) ?_)
       | (refine isOp ?_; first | refine WPl.rd ?_ | refine WPl.sk ?_ | refine WPl.rdB ?_)
       | (show WPl _ _ _ _ _ _ _ (⟨_, .indexAddr _ _ _, _, _, _, _⟩ :: _) _; refine WPl.rdX (ReadR.indexE rfl rfl hasA (by first | assumption | omega)) ?_)
       | (show WPl _ _ _ _ _ _ _ (⟨_, .fieldAddr _ _ _, _, _, _, _⟩ :: _) _; refine WPl.rdX (ReadR.fieldE rfl hasA (by first | assumption | omega)) ?_)
       | (show WPl _ _ _ _ _ _ _ (⟨_, .load _ _, _, _, _, _⟩ :: _) _; first | refine WPl.rdX (ReadR.loadE rfl hasA (by assumption)) ?_ | refine WPl.rdX (ReadR.loadES (by assumption) (by first | assumption | omega) rfl hasA) ?_)
       | (show WPl _ _ _ _ _ _ _ (⟨_, .slice _ _ _ _ _, _, _, _, _⟩ :: _) _; first | refine WPl.rdX (ReadR.sliceH rfl rfl hasA (by omega)) ?_ | refine WPl.rdX (ReadR.sliceL rfl rfl hasA (by omega)) ?_ | refine WPl.rdX (ReadR.sliceLH rfl rfl rfl hasA (by omega) (by omega)) ?_)
       | (refine WPl.spQ (fun hc => ?_) (fun hc => ?_) <;> try exact prA)
       | fail)
      all_goals first | exact absurd (by assumption) ha | exact WPq.dV (hc := by rw [if_pos ha]; rfl)
  · have ha := q2 (by omega)
    by_cases hi1 : st = 1
    · subst hi1
      by_cases hb : b = 0
      · skip
        repeat' (first
         | refine WPl.nil ?_ | refine WPq.then ?_ | refine WPq.thenR ?_ | refine WPq.thenE ?_ | refine WPq.blockN ?_ | refine WPq.blockR ?_ | refine WPq.blockE ?_ | refine WPq.blockO rfl ?_ | refine WPc.seq ?_ | refine WPc.block ?_ | refine WPc.ret ?_ | refine WPc.exit ?_ | refine WPc.skip ?_ | refine WPc.region ?_
         | (refine isCond ?_; first | refine WPc.cT ?_ | refine WPc.cF ?_ | (refine WPc.cQ (fun hc => ?_) (fun hc => ?_) <;> try exact prA))
         | (refine isD 10 ?_; refine WPl.rdX (ReadR.indexE (i := 1) rfl rfl hasA (by omega)) ?_)
         | (refine isD 11 ?_; refine WPl.rdX (ReadR.loadE rfl hasA h1) ?_)
         | (refine isOp ?_; first | refine WPl.rd ?_ | refine WPl.sk ?_ | refine WPl.rdB ?_)
         | (show WPl _ _ _ _ _ _ _ (⟨_, .indexAddr _ _ _, _, _, _, _⟩ :: _) _; refine WPl.rdX (ReadR.indexE rfl rfl hasA (by first | assumption | omega)) ?_)
         | (show WPl _ _ _ _ _ _ _ (⟨_, .fieldAddr _ _ _, _, _, _, _⟩ :: _) _; refine WPl.rdX (ReadR.fieldE rfl hasA (by first | assumption | omega)) ?_)
         | (show WPl _ _ _ _ _ _ _ (⟨_, .load _ _, _, _, _, _⟩ :: _) _; first | refine WPl.rdX (ReadR.loadE rfl hasA (by assumption)) ?_ | refine WPl.rdX (ReadR.loadES (by assumption) (by first | assumption | omega) rfl hasA) ?_)
         | (show WPl _ _ _ _ _ _ _ (⟨_, .slice _ _ _ _ _, _, _, _, _⟩ :: _) _; first | refine WPl.rdX (ReadR.sliceH rfl rfl hasA (by omega)) ?_ | refine WPl.rdX (ReadR.sliceL rfl rfl hasA (by omega)) ?_ | refine WPl.rdX (ReadR.sliceLH rfl rfl rfl hasA (by omega) (by omega)) ?_)
         | (refine WPl.spQ (fun hc => ?_) (fun hc => ?_) <;> try exact prA)
         | fail)
        all_goals first | exact WPq.rnd 2 ⟨by omega, fun _ => ha, fun _ => hb⟩ (by omega) | exact absurd hb (by assumption)
      · skip
        repeat' (first
         | refine WPl.nil ?_ | refine WPq.then ?_ | refine WPq.thenR ?_ | refine WPq.thenE ?_ | refine WPq.blockN ?_ | refine WPq.blockR ?_ | refine WPq.blockE ?_ | refine WPq.blockO rfl ?_ | refine WPc.seq ?_ | refine WPc.block ?_ | refine WPc.ret ?_ | refine WPc.exit ?_ | refine WPc.skip ?_ | refine WPc.region ?_
         | (refine isCond ?_; first | refine WPc.cT ?_ | refine WPc.cF ?_ | (refine WPc.cQ (fun hc => ?_) (fun hc => ?_) <;> try exact prA))
         | (refine isD 10 ?_; refine WPl.rdX (ReadR.indexE (i := 1) rfl rfl hasA (by omega)) ?_)
         | (refine isD 11 ?_; refine WPl.rdX (ReadR.loadE rfl hasA h1) ?_)
         | (refine isOp ?_; first | refine WPl.rd ?_ | refine WPl.sk ?_ | refine WPl.rdB ?_)
         | (show WPl _ _ _ _ _ _ _ (⟨_, .indexAddr _ _ _, _, _, _, _⟩ :: _) _; refine WPl.rdX (ReadR.indexE rfl rfl hasA (by first | assumption | omega)) ?_)
         | (show WPl _ _ _ _ _ _ _ (⟨_, .fieldAddr _ _ _, _, _, _, _⟩ :: _) _; refine WPl.rdX (ReadR.fieldE rfl hasA (by first | assumption | omega)) ?_)
         | (show WPl _ _ _ _ _ _ _ (⟨_, .load _ _, _, _, _, _⟩ :: _) _; first | refine WPl.rdX (ReadR.loadE rfl hasA (by assumption)) ?_ | refine WPl.rdX (ReadR.loadES (by assumption) (by first | assumption | omega) rfl hasA) ?_)
         | (show WPl _ _ _ _ _ _ _ (⟨_, .slice _ _ _ _ _, _, _, _, _⟩ :: _) _; first | refine WPl.rdX (ReadR.sliceH rfl rfl hasA (by omega)) ?_ | refine WPl.rdX (ReadR.sliceL rfl rfl hasA (by omega)) ?_ | refine WPl.rdX (ReadR.sliceLH rfl rfl rfl hasA (by omega) (by omega)) ?_)
         | (refine WPl.spQ (fun hc => ?_) (fun hc => ?_) <;> try exact prA)
         | fail)
        all_goals first | exact absurd (by assumption) hb | exact WPq.dV (hc := by rw [if_neg (by simp [ha])]; rfl)
    · have hb := q3 (by omega)
      have hi2 : st = 2 := by omega
      subst hi2
      repeat' (first
       | refine WPl.nil ?_ | refine WPq.then ?_ | refine WPq.thenR ?_ | refine WPq.thenE ?_ | refine WPq.blockN ?_ | refine WPq.blockR ?_ | refine WPq.blockE ?_ | refine WPq.blockO rfl ?_ | refine WPc.seq ?_ | refine WPc.block ?_ | refine WPc.ret ?_ | refine WPc.exit ?_ | refine WPc.skip ?_ | refine WPc.region ?_
       | (refine isCond ?_; first | refine WPc.cT ?_ | refine WPc.cF ?_ | (refine WPc.cQ (fun hc => ?_) (fun hc => ?_) <;> try exact prA))
       | (refine isOp ?_; first | refine WPl.rd ?_ | refine WPl.sk ?_ | refine WPl.rdB ?_)
       | (show WPl _ _ _ _ _ _ _ (⟨_, .indexAddr _ _ _, _, _, _, _⟩ :: _) _; refine WPl.rdX (ReadR.indexE rfl rfl hasA (by first | assumption | omega)) ?_)
       | (show WPl _ _ _ _ _ _ _ (⟨_, .fieldAddr _ _ _, _, _, _, _⟩ :: _) _; refine WPl.rdX (ReadR.fieldE rfl hasA (by first | assumption | omega)) ?_)
       | (show WPl _ _ _ _ _ _ _ (⟨_, .load _ _, _, _, _, _⟩ :: _) _; first | refine WPl.rdX (ReadR.loadE rfl hasA (by assumption)) ?_ | refine WPl.rdX (ReadR.loadES (by assumption) (by first | assumption | omega) rfl hasA) ?_)
       | (show WPl _ _ _ _ _ _ _ (⟨_, .slice _ _ _ _ _, _, _, _, _⟩ :: _) _; first | refine WPl.rdX (ReadR.sliceH rfl rfl hasA (by omega)) ?_ | refine WPl.rdX (ReadR.sliceL rfl rfl hasA (by omega)) ?_ | refine WPl.rdX (ReadR.sliceLH rfl rfl rfl hasA (by omega) (by omega)) ?_)
       | (refine WPl.spQ (fun hc => ?_) (fun hc => ?_) <;> try exact prA)
       | fail)
      all_goals first | exact WPq.dV (hc := by rw [if_neg (by simp [ha]), hb]; rfl) | (exfalso; omega)
end Go.Proofs.Ytmdihpanaljkfaa
/- Sorted by Go's library at structs: which of equals comes first is left open. -/
namespace Go.Proofs.Ytmdihpanaljkfaa
open Go.RowKit Go.Sort Go.Lib Go.Shelf
set_option linter.unusedSimpArgs false
set_option linter.unusedVariables false
section
variable {P : Program} {ρ : Ren} {α : Type} [Inhabited α]
theorem perm_of_in {d d' : Array α} (h : PermIn 0 d.size d d') : d'.toList.Perm d.toList := by
  obtain ⟨h1, _, h3⟩ := h
  have e1 : d'.extract 0 d.size = d' := by rw [← h1]; exact Array.extract_size
  have e2 : d.extract 0 d.size = d := Array.extract_size
  rw [e1, e2] at h3
  exact h3
theorem pair_of_in {lt : α → α → Bool} {d : Array α} (h : SortedIn lt 0 d.size d) : d.toList.Pairwise (fun a b => lt b a = false) := by
  rw [List.pairwise_iff_getElem]
  intro i j hi hj hij
  have hi' : i < d.size := by simpa using hi
  have hj' : j < d.size := by simpa using hj
  have := h i j (Nat.zero_le _) hij hj'
  rwa [getElem!_pos d i hi', getElem!_pos d j hj'] at this
def RSortP (T : TypeId) (k : Nat) (enc : α → List Value) (cf : α → α → Int) (v : Value) (l : List α) : Value → List Asn → Prop := fun r Γ => ∃ l' : List α, r = .tuple #[] ∧ Γ = [rowN T k v l'.length (l'.map enc).flatten] ∧ l'.Perm l ∧ l'.Pairwise (fun a b => ltOf cf b a = false)
theorem sortP_t (L : SlLaysF0.n6 P ρ) {k : Nat} (aE : ∀ w, (isAgg (ρ.t 24)).run P w = .ok true w) (zE : ∀ w, (Go.sizeOf (ρ.t 24)).run P w = .ok k w) (enc : α → List Value) (hk : ∀ x, (enc x).length = k) (h1 : ∀ x, ∀ v ∈ enc x, v.oneCell' = true) (cf : α → α → Int) (hO : SWO (ltOf cf))
    (g : FuncId) (hc : isCode P g = true) (hcl : ∀ x y, Triple P g #[.agg (enc x).toArray, .agg (enc y).toArray] [] (RVal (.int .i64 (cf x y)))) {T : TypeId} (v : Value) (l : List α) (hl : l.length < 4611686018427387904) :
    Triple P (ρ.f 6) #[v, .func (.func g) #[] #[]] [rowN T k v l.length (l.map enc).flatten] (RSortP T k enc cf v l) := by
  intro w hw ha
  have hrow := hw _ (List.mem_cons_self ..)
  have hlen : (l.map enc).flatten.length = l.length * k := flen hk l
  rcases hrow.2 with ⟨hv, h0⟩ | ⟨g0, cap, cur, hv, hB, hb, hnc, hcm, hcs, ht⟩
  · subst hv
    have : l = [] := List.eq_nil_of_length_eq_zero h0
    subst this
    refine (AnyF.slices_SortFunc_none { L with } none 0 _ w).mono ?_
    rintro e w' ⟨rfl, rfl⟩
    exact ⟨_, _, rfl, ⟨[], rfl, rfl, .refl _, .nil⟩, .one (Mod.refl _ _) hrow fun g hg => by cases hg⟩
  · subst hv
    have hblk : g0 < w.heap.size := (Array.getElem?_eq_some_iff.1 hb).1
    have hH : HoldsK enc k w g0 0 l.toArray := by
      unfold HoldsK
      rw [flatK_eq hk]
      exact row_holds (k := k) hb (by rw [hlen]; exact ht)
    have hcmp : CmpLays P g #[] enc k cf g0 0 l.toArray.size w := fun m os dk _ x y => by
      refine (hcl x y _ (fun A hA => by cases hA) .nil).mono ?_
      rintro e w' ⟨v, Γ', rfl, ⟨rfl, rfl⟩, hp⟩
      exact ⟨rfl, grown_of_mod (fun _ => not_own) hp.mod⟩
    have h := AnyQ.slices_SortFunc L k aE zE enc hk h1 cf hO g #[] g0 0 cap l.toArray w (fun args w => enters_isCode hc args w) hcmp hH hblk (by simpa using hl)
    refine Calls.mono (by simpa using h) ?_
    rintro e w' ⟨rfl, d', hp, hs, n, os, rfl⟩
    obtain ⟨l', rfl⟩ : ∃ l' : List α, d' = l'.toArray := ⟨d'.toList, by simp⟩
    have hp0 : PermIn 0 l.toArray.size l.toArray l'.toArray := by simpa using hp
    have hp' : l'.Perm l := by simpa using perm_of_in hp0
    have hsz : l'.toArray.size = l.length := by simpa using hp'.length_eq
    have hs' : l'.Pairwise (fun a b => ltOf cf b a = false) := by
      have := pair_of_in (lt := ltOf cf) (d := l'.toArray) (by rw [hsz]; exact hs)
      simpa using this
    have hll : l'.length = l.length := hp'.length_eq
    have hsl : (l'.map enc).flatten.length = l.length * k := by rw [flen hk, hll]
    have hfin := row_put (n := n) (os := os) (ys := (l'.map enc).flatten) hb hnc hcm hcs hsl (ownFp [rowN T k (.slice (some ⟨g0, 0, none⟩) l.length cap) l.length (l.map enc).flatten]) ⟨_, List.mem_singleton.2 rfl, rfl, rfl⟩
    unfold sortWorldK putRowK
    rw [flatK_eq hk]
    exact ⟨_, _, rfl, ⟨l', rfl, rfl, hp', hs'⟩, .one (by exact hfin.2) (by rw [hll]; exact hfin.1) fun g' hg' => .inr (by cases hg'; exact ⟨_, List.mem_singleton.2 rfl, rfl, rfl⟩)⟩
end
end Go.Proofs.Ytmdihpanaljkfaa
/- Layer 35 (parts): parts in order, and put together: contracts. -/
namespace Go.Proofs.Ytmdihpanaljkfaa
open Go.Lib (compareInt)
set_option linter.unusedVariables false
set_option linter.unusedSimpArgs false
instance : Inhabited Pt := ⟨⟨0, none, 0, [], false, Hd.none⟩⟩
def Pt.wf (p : Pt) : Int := IntKind.i64.wrap ((p.pos : Int) + (p.d.length : Int))
def ptCf : Pt → Pt → Int := lexC (fun x y => compareInt (x.pos : Int) (y.pos : Int)) (fun x y => compareInt x.wf y.wf)
theorem ptCf_tc : TC ptCf := TC.lex (TC.int.pull fun p : Pt => (p.pos : Int)) (TC.int.pull Pt.wf)
def dataP (l : List Pt) : List UInt8 := (l.map (·.d)).flatten
theorem dataP_snoc {l : List Pt} {i : Nat} {p : Pt} (h : l[i]? = some p) : dataP (l.take (i + 1)) = dataP (l.take i) ++ p.d := by
  unfold dataP
  rw [List.take_add_one, h, List.map_append, List.flatten_append]
  simp
theorem dataP_len {l : List Pt} (h : ∀ p ∈ l, p.fin ≤ 100000) : (dataP l).length ≤ l.length * 100000 := by
  induction l with
  | nil => simp [dataP]
  | cons p l ih =>
    have h1 := h p (List.mem_cons_self ..)
    have hfin : p.fin = p.pos + p.d.length := rfl
    have := ih fun q hq => h q (List.mem_cons_of_mem _ hq)
    have e : dataP (p :: l) = p.d ++ dataP l := rfl
    rw [e, List.length_append, List.length_cons]
    omega
def okAt (l : List Pt) (i : Nat) : Bool := match l[i]? with | some p => decide ((p.pos : Int) = ((dataP (l.take i)).length : Int)) | none => true
def wholeB (l : List Pt) : Bool := (List.range l.length).all (okAt l) && l.any (·.last)
theorem whole_no {l : List Pt} {i : Nat} (h : i < l.length) (hb : okAt l i = false) : wholeB l = false := by
  unfold wholeB
  rw [show (List.range l.length).all (okAt l) = false from List.all_eq_false.2 ⟨i, List.mem_range.2 h, by rw [hb]; decide⟩]
  rfl
theorem whole_all {l : List Pt} (h : ∀ j, j < l.length → okAt l j = true) : wholeB l = l.any (·.last) := by
  unfold wholeB
  rw [show (List.range l.length).all (okAt l) = true from List.all_eq_true.2 fun j hj => h j (List.mem_range.1 hj)]
  rfl
theorem any_snoc {l : List Pt} {i : Nat} {p : Pt} (h : l[i]? = some p) : (l.take (i + 1)).any (·.last) = ((l.take i).any (·.last) || p.last) := by
  rw [List.take_add_one, h, List.any_append]
  simp
/-- The bytes of parts, only read. -/
def prd (l : List Pt) : Asn where
  own := false
  fp := fun g => ∃ p ∈ l, (rdN p.v p.d.length (u8s p.d)).fp g
  holds := fun w => ∀ p ∈ l, (rdN p.v p.d.length (u8s p.d)).holds w
  lt := fun w h g hg => by
    obtain ⟨r, hr, hg⟩ := hg
    exact (rdN r.v r.d.length (u8s r.d)).lt w (h r hr) g hg
  loc := fun w w' h hl r hr => (rdN r.v r.d.length (u8s r.d)).loc w w' (h r hr) fun g hg => hl g ⟨r, hr, hg⟩
theorem HasS.prd {Γ : List Asn} {l : List Pt} {p : Pt} (h : Go.Proofs.Ytmdihpanaljkfaa.prd l ∈ Γ) (hp : p ∈ l) : HasS Γ p.v p.d.length (u8s p.d) := fun w hw => hw _ h _ hp
open Go.RowKit
set_option linter.unusedSimpArgs false
set_option linter.unusedVariables false
set_option maxRecDepth 20000
set_option maxHeartbeats 2000000
attribute [local irreducible] WPc WPl WPq ReadR OpT BinR HasS bx rdN rowN Take Takes Prov Triple ResF BuildP Done ag Int.decLt Int.decLe Int.instDecidableEq
instance byteEltN : EltN Try.prog 5 1 := ⟨by kernel_rfl⟩
theorem pendW_t (p : Pt) : Triple Try.prog 33 #[ag (ptC p)] [] (RVal (.int .i64 p.wf)) := by
  have hv1 := p.v1
  have l1 := p.h.src.len
  have l2 := p.h.dst.len
  refine Triple.enter Try.func33 rfl Try.ntmps33 rfl (fun W => ?_)
  dsimp only [argsF, Nat.reduceAdd]
  repeat' (first
   | refine WPl.nil ?_ | refine WPq.then ?_ | refine WPq.thenR ?_ | refine WPq.thenE ?_ | refine WPq.blockN ?_ | refine WPq.blockR ?_ | refine WPq.blockE ?_ | refine WPq.blockO rfl ?_ | refine WPc.seq ?_ | refine WPc.block ?_ | refine WPc.ret ?_ | refine WPc.exit ?_ | refine WPc.skip ?_ | refine WPc.region ?_
   | (refine isCond ?_; first | refine WPc.cT ?_ | refine WPc.cF ?_ | (refine WPc.cQ (fun hc => ?_) (fun hc => ?_) <;> try exact prA))
   | (refine isD 1 ?_; first | (refine isAl ?_; refine WPl.nw fun g1 => ?_) | (refine isBx ?_; refine WPl.nw fun g1 => ?_))
   | (refine isD 7 ?_; refine WPl.rdX (ReadR.lenPt ⟨_, Try.underlying24⟩ rfl) ?_)
   | (refine isD 8 ?_; refine WPl.rdX (ReadR.binE rfl rfl BinR.addW rfl) ?_)
   | (refine isOp ?_; first | refine WPl.rd ?_ | refine WPl.sk ?_ | refine WPl.rdB ?_)
   | (refine isBx ?_; refine WPl.nw fun g => ?_)
   | (show WPl _ _ _ _ _ _ _ (⟨_, .indexAddr _ _ _, _, _, _, _⟩ :: _) _; refine WPl.rdX (ReadR.indexE rfl rfl hasA (by first | assumption | omega)) ?_)
   | (show WPl _ _ _ _ _ _ _ (⟨_, .fieldAddr _ _ _, _, _, _, _⟩ :: _) _; refine WPl.rdX (ReadR.fieldE rfl hasA (by first | assumption | omega)) ?_)
   | (show WPl _ _ _ _ _ _ _ (⟨_, .load _ _, _, _, _, _⟩ :: _) _; first | refine WPl.rdX (ReadR.loadE rfl hasA (by assumption)) ?_ | refine WPl.rdX (ReadR.loadES (by assumption) (by first | assumption | omega) rfl hasA) ?_)
   | (show WPl _ _ _ _ _ _ _ (⟨_, .slice _ _ _ _ _, _, _, _, _⟩ :: _) _; first | refine WPl.rdX (ReadR.sliceH rfl rfl hasA (by omega)) ?_ | refine WPl.rdX (ReadR.sliceL rfl rfl hasA (by omega)) ?_ | refine WPl.rdX (ReadR.sliceLH rfl rfl rfl hasA (by omega) (by omega)) ?_)
   | (refine WPl.spQ (fun hc => ?_) (fun hc => ?_) <;> try exact prA)
   | fail)
  exact WPq.dV
attribute [local irreducible] mp rmp rg rgo mput mget mfind mdel gbag jes pts Pt.v Pt.fin Pt.wf overB badB wholeB okAt dataP prd
theorem pwhole1_t (x y : Pt) : Triple Try.prog 48 #[ag (ptC x), ag (ptC y)] [] (RVal (.int .i64 (ptCf x y))) := by
  have hv1 := x.v1
  have l1 := x.h.src.len
  have l2 := x.h.dst.len
  have hv2 := y.v1
  have m1 := y.h.src.len
  have m2 := y.h.dst.len
  have cx := pendW_t x
  have cy := pendW_t y
  obtain ⟨a, ha⟩ : ∃ a, a = compareInt (x.pos : Int) (y.pos : Int) := ⟨_, rfl⟩
  obtain ⟨b, hb⟩ : ∃ b, b = compareInt x.wf y.wf := ⟨_, rfl⟩
  have c9 := cmpI_t (x.pos : Int) (y.pos : Int)
  have c14 := cmpI_t x.wf y.wf
  rw [← ha] at c9
  rw [← hb] at c14
  have hr : ptCf x y = if a ≠ 0 then a else b := by rw [ha, hb]; rfl
  rw [hr]
  refine Triple.enter Try.func48 rfl Try.ntmps48 rfl (fun W => ?_)
  dsimp only [argsF, Nat.reduceAdd]
  repeat' (first
   | refine WPl.nil ?_ | refine WPq.then ?_ | refine WPq.thenR ?_ | refine WPq.thenE ?_ | refine WPq.blockN ?_ | refine WPq.blockR ?_ | refine WPq.blockE ?_ | refine WPq.blockO rfl ?_ | refine WPc.seq ?_ | refine WPc.block ?_ | refine WPc.ret ?_ | refine WPc.exit ?_ | refine WPc.skip ?_ | refine WPc.region ?_
   | (refine isReg 1 ?_; refine WPc.drA [([], [7, 8, 10, 12]), ([0], [5, 7, 8, 10, 12]), ([], [5, 6, 10, 12]), ([2], [5, 6, 7, 10, 12]), ([0, 1, 2, 3], [5, 6, 7, 8, 10, 12]), ([], [5, 6, 7, 8, 9, 12]), ([0, 1, 2, 3, 4, 5], [5, 6, 7, 8, 9, 10, 12]), ([], [5, 6, 7, 8, 9, 10, 11]), ([0, 1, 2, 3, 4, 5, 6, 7], [5, 6, 7, 8, 9, 10, 11, 12]), ([0, 1, 2, 3, 4, 5, 6, 7, 8], [5, 6, 7, 8, 9, 10, 11, 12, 13]), ([0, 1, 2, 3, 4, 5, 6, 7, 8, 9], [5, 6, 7, 8, 9, 10, 11, 12, 13, 14]), ([0, 1, 2, 3, 4, 5, 6, 7, 8, 9, 10], [5, 6, 7, 8, 9, 10, 11, 12, 13, 14, 15]), ([0, 1, 2, 3, 4, 5, 6, 7, 8, 9, 10, 11], [5, 6, 7, 8, 9, 10, 11, 12, 13, 14, 15, 16])] [] (Γx := []) ?_; dsimp only [prev0, List.length_nil, List.length_cons])
   | (refine gAny ?_; first | (refine gC 9 ?_; refine RGl.vl (fun e hk => OpT.callN (c9)) ?_) | (refine gC 11 ?_; refine RGl.vl (fun e hk => OpT.callN (cx)) ?_) | (refine gC 13 ?_; refine RGl.vl (fun e hk => OpT.callN (cy)) ?_) | (refine gC 14 ?_; refine RGl.vl (fun e hk => OpT.callN (c14)) ?_) | (refine gC 16 ?_; refine RGl.vl (fun e hk => OpT.callN ((or2_t (e 10).1 a b))) ?_) | (refine gOp ?_; first | refine RGl.rdA ?_ | refine RGl.rdX (fun e hk => by (try dsimp only [bndR, ensR, oksR, fcutR, List.append_nil, List.nil_append, List.cons_append, List.append_assoc] at hk ⊢); exact readB) ?_) | (refine gLit ?_; refine RGl.litA ?_) | (refine RGl.fin (fun e hk => ?_); (try dsimp only [bndA, ensAR, oksA, List.append_nil, List.nil_append, List.cons_append, List.append_assoc] at hk ⊢); (repeat (obtain ⟨hk1, hk⟩ := hk))) | fail)
   | (refine isCond ?_; first | refine WPc.cT ?_ | refine WPc.cF ?_ | (refine WPc.cQ (fun hc => ?_) (fun hc => ?_) <;> try exact prA))
   | (refine isD 2 ?_; first | (refine isAl ?_; refine WPl.nw fun g2 => ?_) | (refine isBx ?_; refine WPl.nw fun g2 => ?_))
   | (refine isD 3 ?_; first | (refine isAl ?_; refine WPl.nw fun g3 => ?_) | (refine isBx ?_; refine WPl.nw fun g3 => ?_))
   | (refine isC 9 ?_; refine WPl.cV (c9) ?_)
   | (refine isC 11 ?_; refine WPl.cV (cx) ?_)
   | (refine isC 13 ?_; refine WPl.cV (cy) ?_)
   | (refine isC 14 ?_; refine WPl.cV (c14) ?_)
   | (refine isC 16 ?_; refine WPl.cV ((or2_t (e 10).1 a b)) ?_)
   | (refine isOp ?_; first | refine WPl.rd ?_ | refine WPl.sk ?_ | refine WPl.rdB ?_)
   | (refine isBx ?_; refine WPl.nw fun g => ?_)
   | (show WPl _ _ _ _ _ _ _ (⟨_, .indexAddr _ _ _, _, _, _, _⟩ :: _) _; refine WPl.rdX (ReadR.indexE rfl rfl hasA (by first | assumption | omega)) ?_)
   | (show WPl _ _ _ _ _ _ _ (⟨_, .fieldAddr _ _ _, _, _, _, _⟩ :: _) _; refine WPl.rdX (ReadR.fieldE rfl hasA (by first | assumption | omega)) ?_)
   | (show WPl _ _ _ _ _ _ _ (⟨_, .load _ _, _, _, _, _⟩ :: _) _; first | refine WPl.rdX (ReadR.loadE rfl hasA (by assumption)) ?_ | refine WPl.rdX (ReadR.loadES (by assumption) (by first | assumption | omega) rfl hasA) ?_)
   | (show WPl _ _ _ _ _ _ _ (⟨_, .slice _ _ _ _ _, _, _, _, _⟩ :: _) _; first | refine WPl.rdX (ReadR.sliceH rfl rfl hasA (by omega)) ?_ | refine WPl.rdX (ReadR.sliceL rfl rfl hasA (by omega)) ?_ | refine WPl.rdX (ReadR.sliceLH rfl rfl rfl hasA (by omega) (by omega)) ?_)
   | (refine WPl.spQ (fun hc => ?_) (fun hc => ?_) <;> try exact prA)
   | fail)
  exact WPq.dV
theorem sortPt_t (v : Value) (l : List Pt) (hl : l.length ≤ 100000) :
    Triple Try.prog 47 #[v, .func (.func 48) #[] #[]] [rowN 55 42 v l.length (pts l)] (RSortP 55 42 (fun p => flat (ptC p)) ptCf v l) := by
  with_unfolding_all exact sortP_t Try.sortF47 (fun w => TyI.run_isAgg (P := Try.prog) (T := 55) w) (fun w => TyI.run_sizeOf (P := Try.prog) (T := 55) w) (fun p => flat (ptC p)) ptC_len (fun p v hv => (ptC_ok p).one v hv) ptCf ptCf_tc.swo 48 (by kernel_rfl) (fun x y => by have h := pwhole1_t x y; unfold ag at h; exact h) v l (by omega)
end Go.Proofs.Ytmdihpanaljkfaa
/- Layer 35 (parts): parts put together: contracts. -/
namespace Go.Proofs.Ytmdihpanaljkfaa
set_option linter.unusedVariables false
def RWhole (x : PJ) : Value → List Asn → Prop := fun v Γ => ∃ (ps' : List Pt) (vo : Value), ps'.Perm x.ps ∧ ps'.Pairwise (fun a b => ltOf ptCf b a = false) ∧ vo.oneCell' = true ∧ v = .tuple #[vo, .bool (wholeB ps')] ∧
  Γ = bx x.g 77 (pjC x) :: rowN 55 42 x.vP ps'.length (pts ps') :: (if wholeB ps' = true then [ob vo (dataP ps')] else [])
open Go.RowKit
set_option linter.unusedSimpArgs false
set_option linter.unusedVariables false
set_option maxRecDepth 20000
set_option maxHeartbeats 2000000
attribute [local irreducible] WPc WPl WPq ReadR OpT BinR HasS bx rdN rowN Take Takes Prov Triple ResF BuildP Done ag Int.decLt Int.decLe Int.instDecidableEq
attribute [local irreducible] mp rmp rg rgo mput mget mfind mdel gbag jes pts Pt.v Pt.fin Pt.wf overB badB wholeB okAt dataP prd
theorem pwhole_t (x : PJ) (hx2 : ∀ o ∈ x.ps, o.fin ≤ 100000) (hl : x.ps.length ≤ 10000) : Triple Try.prog 37 #[hJ x.g] ([prd x.ps] ++ [bx x.g 77 (pjC x), rowN 55 42 x.vP x.ps.length (pts x.ps)]) (RWhole x) := by
  have c12 := sortPt_t x.vP x.ps (by omega)
  have e0 : ∀ l : List Pt, rowN 5 1 (.slice none 0 0) 0 [] = rowN 5 1 (.slice none 0 0) (dataP (l.take 0)).length (u8s (dataP (l.take 0))) := fun l => by with_unfolding_all rfl
  show Triple _ _ _ [prd x.ps, bx x.g 77 (pjC x), rowN 55 42 x.vP x.ps.length (pts x.ps)] _
  refine Triple.enter Try.func37 rfl Try.ntmps37 rfl (fun W => ?_)
  dsimp only [argsF, Nat.reduceAdd]
  repeat' (first
   | refine WPl.nil ?_ | refine WPq.then ?_ | refine WPq.thenR ?_ | refine WPq.thenE ?_ | refine WPq.blockN ?_ | refine WPq.blockR ?_ | refine WPq.blockE ?_ | refine WPq.blockO rfl ?_ | refine WPc.seq ?_ | refine WPc.block ?_ | refine WPc.ret ?_ | refine WPc.exit ?_ | refine WPc.skip ?_ | refine WPc.region ?_
   | (refine isCond ?_; first | refine WPc.cT ?_ | refine WPc.cF ?_ | (refine WPc.cQ (fun hc => ?_) (fun hc => ?_) <;> try exact prA))
   | (refine isC 12 ?_; refine WPl.cXs (c12) fun v Γ1 hR => ?_; (obtain ⟨ps', rfl, rfl, hperm, hsort⟩ := hR); (try dsimp only [putF, List.cons_append, List.nil_append]))
   | (refine isOp ?_; first | refine WPl.rd ?_ | refine WPl.sk ?_ | refine WPl.rdB ?_)
   | (refine isAl ?_; refine WPl.nw fun g => ?_)
   | (refine isSt ?_; first | refine WPl.st1 ?_ | refine WPl.stA ?_ | refine WPl.stEB ?_ | refine WPl.stRB ?_)
   | (show WPl _ _ _ _ _ _ _ (⟨_, .indexAddr _ _ _, _, _, _, _⟩ :: _) _; refine WPl.rdX (ReadR.indexE rfl rfl hasA (by first | assumption | omega)) ?_)
   | (show WPl _ _ _ _ _ _ _ (⟨_, .fieldAddr _ _ _, _, _, _, _⟩ :: _) _; refine WPl.rdX (ReadR.fieldE rfl hasA (by first | assumption | omega)) ?_)
   | (show WPl _ _ _ _ _ _ _ (⟨_, .load _ _, _, _, _, _⟩ :: _) _; first | refine WPl.rdX (ReadR.loadE rfl hasA (by assumption)) ?_ | refine WPl.rdX (ReadR.loadES (by assumption) (by first | assumption | omega) rfl hasA) ?_)
   | (show WPl _ _ _ _ _ _ _ (⟨_, .slice _ _ _ _ _, _, _, _, _⟩ :: _) _; first | refine WPl.rdX (ReadR.sliceH rfl rfl hasA (by omega)) ?_ | refine WPl.rdX (ReadR.sliceL rfl rfl hasA (by omega)) ?_ | refine WPl.rdX (ReadR.sliceLH rfl rfl rfl hasA (by omega) (by omega)) ?_)
   | (refine WPl.spQ (fun hc => ?_) (fun hc => ?_) <;> try exact prA)
   | fail)
  have ep : (ps'.map fun p => flat (ptC p)).flatten = pts ps' := by with_unfolding_all rfl
  rw [ep]
  have hL := pts_len (l := ps')
  have hpl : ps'.length ≤ 10000 := by rw [hperm.length_eq]; exact hl
  refine WPc.nilRow 5 ?_
  rw [e0 ps']
  first | refine WPc.loop (σ := Nat × Value) (fun st => st.1 ≤ ps'.length ∧ st.2.oneCell' = true ∧ ∀ j, j < st.1 → okAt ps' j = true) (fun st => [prd x.ps, bx x.g 77 (pjC x), rowN 55 42 x.vP ps'.length (pts ps'), rowN 5 1 st.2 (dataP (ps'.take st.1)).length (u8s (dataP (ps'.take st.1)))]) (fun st => [(0, hJ x.g), (16, x.vP), (17, .int .i64 (ps'.length : Int)), (18, .int .i64 (st.1 : Int)), (4, st.2), (5, .bool ((ps'.take st.1).any (·.last)))]) (fun st => ps'.length - st.1) ((0, .slice none 0 0)) ?_ takesA frsA (fun st km hx hk => ?_)
  · exact ⟨Nat.zero_le _, rfl, fun j hj => absurd hj (Nat.not_lt_zero _)⟩
  obtain ⟨i, vo⟩ := st
  obtain ⟨hi, hvo, hok⟩ := hx
  dsimp only at hi hvo hok hk ⊢
  have hkm : km = ps'.length - i := hk
  clear hk
  have hdl : (dataP (ps'.take i)).length ≤ (ps'.take i).length * 100000 := dataP_len fun p hp => hx2 p (hperm.mem_iff.1 (List.mem_of_mem_take hp))
  rw [List.length_take] at hdl
  have hdl2 : (dataP (ps'.take i)).length ≤ 1000000000 := by
    have : min i ps'.length ≤ 10000 := by omega
    omega
  by_cases hlt : i < ps'.length
  · obtain ⟨p, hp⟩ : ∃ p, ps'[i]? = some p := ⟨_, List.getElem?_eq_getElem hlt⟩
    have hlt' : (i : Int) < (ps'.length : Int) := by omega
    have hpc := pts_at hp
    have hfp := ptC_ok p
    have hv1 := p.v1
    have l1 := p.h.src.len
    have l2 := p.h.dst.len
    have hpm : p ∈ x.ps := hperm.mem_iff.1 (List.mem_of_getElem? hp)
    have hpf := hx2 p hpm
    have hpd : p.d.length ≤ 100000 := by have : p.fin = p.pos + p.d.length := by with_unfolding_all rfl
                                         omega
    have hoki : okAt ps' i = decide ((p.pos : Int) = ((dataP (ps'.take i)).length : Int)) := by with_unfolding_all (unfold okAt; rw [hp])
    cases hb : okAt ps' i with
    | false =>
      have hne : ¬ (p.pos : Int) = ((dataP (ps'.take i)).length : Int) := of_decide_eq_false (hoki.symm.trans hb)
      have hw := whole_no hlt hb
      repeat' (first
       | refine WPl.nil ?_ | refine WPq.then ?_ | refine WPq.thenR ?_ | refine WPq.thenE ?_ | refine WPq.blockN ?_ | refine WPq.blockR ?_ | refine WPq.blockE ?_ | refine WPq.blockO rfl ?_ | refine WPc.seq ?_ | refine WPc.block ?_ | refine WPc.ret ?_ | refine WPc.exit ?_ | refine WPc.skip ?_ | refine WPc.region ?_
       | (refine isCond ?_; first | refine WPc.cT ?_ | refine WPc.cF ?_ | (refine WPc.cQ (fun hc => ?_) (fun hc => ?_) <;> try first | exact prA | (exfalso; first | omega)))
       | (refine isD 19 ?_; refine WPl.rdX (ReadR.binE rfl rfl BinR.lss (congrArg Value.bool (decide_eq_true hlt'))) ?_)
       | (refine isD 20 ?_; refine WPl.rdX (ReadR.indexE (i := i) rfl rfl hasA hlt) ?_)
       | (refine isD 21 ?_; refine WPl.rdX (ReadR.loadES (cs := ptC p) hpc (by omega) rfl hasA) ?_)
       | (refine isD 7 ?_; first | (refine isAl ?_; refine WPl.nw fun g7 => ?_) | (refine isBx ?_; refine WPl.nw fun g7 => ?_))
       | (show WPl _ _ _ _ _ _ _ (⟨_, .store _ (.tmp 7) _, _, _, _, _⟩ :: _) _; refine WPl.stA (new := ptC p) ?_ (hn := hfp))
       | (refine isD 26 ?_; refine WPl.rdX (ReadR.binE rfl rfl BinR.neq (congrArg (fun q => Value.bool (!q)) (decide_eq_false hne))) ?_)
       | (refine isOp ?_; first | refine WPl.rd ?_ | refine WPl.sk ?_ | refine WPl.rdB ?_)
       | (refine isAl ?_; refine WPl.nw fun g => ?_)
       | (refine isSt ?_; first | refine WPl.st1 ?_ | refine WPl.stA ?_ | refine WPl.stEB ?_ | refine WPl.stRB ?_)
       | (show WPl _ _ _ _ _ _ _ (⟨_, .indexAddr _ _ _, _, _, _, _⟩ :: _) _; refine WPl.rdX (ReadR.indexE rfl rfl hasA (by first | assumption | omega)) ?_)
       | (show WPl _ _ _ _ _ _ _ (⟨_, .fieldAddr _ _ _, _, _, _, _⟩ :: _) _; refine WPl.rdX (ReadR.fieldE rfl hasA (by first | assumption | omega)) ?_)
       | (show WPl _ _ _ _ _ _ _ (⟨_, .load _ _, _, _, _, _⟩ :: _) _; first | refine WPl.rdX (ReadR.loadE rfl hasA (by assumption)) ?_ | refine WPl.rdX (ReadR.loadES (by assumption) (by first | assumption | omega) rfl hasA) ?_)
       | (show WPl _ _ _ _ _ _ _ (⟨_, .slice _ _ _ _ _, _, _, _, _⟩ :: _) _; first | refine WPl.rdX (ReadR.sliceH rfl rfl hasA (by omega)) ?_ | refine WPl.rdX (ReadR.sliceL rfl rfl hasA (by omega)) ?_ | refine WPl.rdX (ReadR.sliceLH rfl rfl rfl hasA (by omega) (by omega)) ?_)
       | (refine WPl.spQ (fun hc => ?_) (fun hc => ?_) <;> try first | exact prA | (exfalso; first | omega))
       | fail)
      exact WPq.dX (vs := [.slice none 0 0, .bool false]) [bx x.g 77 (pjC x), rowN 55 42 x.vP ps'.length (pts ps')] ⟨ps', .slice none 0 0, hperm, hsort, rfl, by rw [hw]; rfl, by rw [hw]; rfl⟩
    | true =>
      have heq : (p.pos : Int) = ((dataP (ps'.take i)).length : Int) := of_decide_eq_true (hoki.symm.trans hb)
      have hsn := dataP_snoc hp
      have hap : ∀ v, rowN 5 1 v ((dataP (ps'.take i)).length + p.d.length) (u8s (dataP (ps'.take i)) ++ u8s p.d) = rowN 5 1 v (dataP (ps'.take (i + 1))).length (u8s (dataP (ps'.take (i + 1)))) := fun v => by rw [hsn, u8s_append, List.length_append]
      have hok2 : ∀ j, j < i + 1 → okAt ps' j = true := fun j hj => by
        by_cases e : j = i
        · rw [e]; exact hb
        · exact hok j (by omega)
      have hlas := any_snoc hp
      cases hla : (ps'.take i).any (·.last) with
      | true =>
        rw [hla] at hlas
        have hlas : (ps'.take (i + 1)).any (·.last) = true := hlas
        repeat' (first
         | refine WPl.nil ?_ | refine WPq.then ?_ | refine WPq.thenR ?_ | refine WPq.thenE ?_ | refine WPq.blockN ?_ | refine WPq.blockR ?_ | refine WPq.blockE ?_ | refine WPq.blockO rfl ?_ | refine WPc.seq ?_ | refine WPc.block ?_ | refine WPc.ret ?_ | refine WPc.exit ?_ | refine WPc.skip ?_ | refine WPc.region ?_
         | (refine isCond ?_; first | refine WPc.cT ?_ | refine WPc.cF ?_ | (refine WPc.cQ (fun hc => ?_) (fun hc => ?_) <;> try first | exact prA | (exfalso; first | omega)))
         | (refine isD 19 ?_; refine WPl.rdX (ReadR.binE rfl rfl BinR.lss (congrArg Value.bool (decide_eq_true hlt'))) ?_)
         | (refine isD 20 ?_; refine WPl.rdX (ReadR.indexE (i := i) rfl rfl hasA hlt) ?_)
         | (refine isD 21 ?_; refine WPl.rdX (ReadR.loadES (cs := ptC p) hpc (by omega) rfl hasA) ?_)
         | (refine isD 7 ?_; first | (refine isAl ?_; refine WPl.nw fun g7 => ?_) | (refine isBx ?_; refine WPl.nw fun g7 => ?_))
         | (show WPl _ _ _ _ _ _ _ (⟨_, .store _ (.tmp 7) _, _, _, _, _⟩ :: _) _; refine WPl.stA (new := ptC p) ?_ (hn := hfp))
         | (refine isD 26 ?_; refine WPl.rdX (ReadR.binE rfl rfl BinR.neq (congrArg (fun q => Value.bool (!q)) (decide_eq_true heq))) ?_)
         | (refine isD 30 ?_; refine WPl.appN (m := (dataP (ps'.take i)).length) (m2 := p.d.length) (xs := u8s (dataP (ps'.take i))) (ys := u8s p.d) (by rw [u8s_length, Nat.mul_one]) (fun q hq => by obtain ⟨z, _, rfl⟩ := List.mem_map.1 hq; rfl) (by omega) (fun v30 hv30 => ?_) (h2 := HasS.prd memA hpm); rw [hap])
         | (refine isOp ?_; first | refine WPl.rd ?_ | refine WPl.sk ?_ | refine WPl.rdB ?_)
         | (refine isAl ?_; refine WPl.nw fun g => ?_)
         | (refine isSt ?_; first | refine WPl.st1 ?_ | refine WPl.stA ?_ | refine WPl.stEB ?_ | refine WPl.stRB ?_)
         | (show WPl _ _ _ _ _ _ _ (⟨_, .indexAddr _ _ _, _, _, _, _⟩ :: _) _; refine WPl.rdX (ReadR.indexE rfl rfl hasA (by first | assumption | omega)) ?_)
         | (show WPl _ _ _ _ _ _ _ (⟨_, .fieldAddr _ _ _, _, _, _, _⟩ :: _) _; refine WPl.rdX (ReadR.fieldE rfl hasA (by first | assumption | omega)) ?_)
         | (show WPl _ _ _ _ _ _ _ (⟨_, .load _ _, _, _, _, _⟩ :: _) _; first | refine WPl.rdX (ReadR.loadE rfl hasA (by assumption)) ?_ | refine WPl.rdX (ReadR.loadES (by assumption) (by first | assumption | omega) rfl hasA) ?_)
         | (show WPl _ _ _ _ _ _ _ (⟨_, .slice _ _ _ _ _, _, _, _, _⟩ :: _) _; first | refine WPl.rdX (ReadR.sliceH rfl rfl hasA (by omega)) ?_ | refine WPl.rdX (ReadR.sliceL rfl rfl hasA (by omega)) ?_ | refine WPl.rdX (ReadR.sliceLH rfl rfl rfl hasA (by omega) (by omega)) ?_)
         | (refine WPl.spQ (fun hc => ?_) (fun hc => ?_) <;> try first | exact prA | (exfalso; first | omega))
         | fail)
        exact WPq.rnd (i + 1, v30) ⟨hlt, hv30, hok2⟩ (by dsimp only; omega) (hF := by rw [hlas]; exact frsA)
      | false =>
        rw [hla] at hlas
        have hlas : (ps'.take (i + 1)).any (·.last) = p.last := hlas
        repeat' (first
         | refine WPl.nil ?_ | refine WPq.then ?_ | refine WPq.thenR ?_ | refine WPq.thenE ?_ | refine WPq.blockN ?_ | refine WPq.blockR ?_ | refine WPq.blockE ?_ | refine WPq.blockO rfl ?_ | refine WPc.seq ?_ | refine WPc.block ?_ | refine WPc.ret ?_ | refine WPc.exit ?_ | refine WPc.skip ?_ | refine WPc.region ?_
         | (refine isCond ?_; first | refine WPc.cT ?_ | refine WPc.cF ?_ | (refine WPc.cQ (fun hc => ?_) (fun hc => ?_) <;> try first | exact prA | (exfalso; first | omega)))
         | (refine isD 19 ?_; refine WPl.rdX (ReadR.binE rfl rfl BinR.lss (congrArg Value.bool (decide_eq_true hlt'))) ?_)
         | (refine isD 20 ?_; refine WPl.rdX (ReadR.indexE (i := i) rfl rfl hasA hlt) ?_)
         | (refine isD 21 ?_; refine WPl.rdX (ReadR.loadES (cs := ptC p) hpc (by omega) rfl hasA) ?_)
         | (refine isD 7 ?_; first | (refine isAl ?_; refine WPl.nw fun g7 => ?_) | (refine isBx ?_; refine WPl.nw fun g7 => ?_))
         | (show WPl _ _ _ _ _ _ _ (⟨_, .store _ (.tmp 7) _, _, _, _, _⟩ :: _) _; refine WPl.stA (new := ptC p) ?_ (hn := hfp))
         | (refine isD 26 ?_; refine WPl.rdX (ReadR.binE rfl rfl BinR.neq (congrArg (fun q => Value.bool (!q)) (decide_eq_true heq))) ?_)
         | (refine isD 30 ?_; refine WPl.appN (m := (dataP (ps'.take i)).length) (m2 := p.d.length) (xs := u8s (dataP (ps'.take i))) (ys := u8s p.d) (by rw [u8s_length, Nat.mul_one]) (fun q hq => by obtain ⟨z, _, rfl⟩ := List.mem_map.1 hq; rfl) (by omega) (fun v30 hv30 => ?_) (h2 := HasS.prd memA hpm); rw [hap])
         | (refine isOp ?_; first | refine WPl.rd ?_ | refine WPl.sk ?_ | refine WPl.rdB ?_)
         | (refine isAl ?_; refine WPl.nw fun g => ?_)
         | (refine isSt ?_; first | refine WPl.st1 ?_ | refine WPl.stA ?_ | refine WPl.stEB ?_ | refine WPl.stRB ?_)
         | (show WPl _ _ _ _ _ _ _ (⟨_, .indexAddr _ _ _, _, _, _, _⟩ :: _) _; refine WPl.rdX (ReadR.indexE rfl rfl hasA (by first | assumption | omega)) ?_)
         | (show WPl _ _ _ _ _ _ _ (⟨_, .fieldAddr _ _ _, _, _, _, _⟩ :: _) _; refine WPl.rdX (ReadR.fieldE rfl hasA (by first | assumption | omega)) ?_)
         | (show WPl _ _ _ _ _ _ _ (⟨_, .load _ _, _, _, _, _⟩ :: _) _; first | refine WPl.rdX (ReadR.loadE rfl hasA (by assumption)) ?_ | refine WPl.rdX (ReadR.loadES (by assumption) (by first | assumption | omega) rfl hasA) ?_)
         | (show WPl _ _ _ _ _ _ _ (⟨_, .slice _ _ _ _ _, _, _, _, _⟩ :: _) _; first | refine WPl.rdX (ReadR.sliceH rfl rfl hasA (by omega)) ?_ | refine WPl.rdX (ReadR.sliceL rfl rfl hasA (by omega)) ?_ | refine WPl.rdX (ReadR.sliceLH rfl rfl rfl hasA (by omega) (by omega)) ?_)
         | (refine WPl.spQ (fun hc => ?_) (fun hc => ?_) <;> try first | exact prA | (exfalso; first | omega))
         | fail)
        exact WPq.rnd (i + 1, v30) ⟨hlt, hv30, hok2⟩ (by dsimp only; omega) (hF := by rw [hlas]; exact frsA)
  · have hil : ps'.take i = ps' := List.take_of_length_le (by omega)
    rw [hil]
    have hlt' : ¬ (i : Int) < (ps'.length : Int) := by omega
    have hw := whole_all fun j hj => hok j (by omega)
    rw [← hw]
    repeat' (first
     | refine WPl.nil ?_ | refine WPq.then ?_ | refine WPq.thenR ?_ | refine WPq.thenE ?_ | refine WPq.blockN ?_ | refine WPq.blockR ?_ | refine WPq.blockE ?_ | refine WPq.blockO rfl ?_ | refine WPc.seq ?_ | refine WPc.block ?_ | refine WPc.ret ?_ | refine WPc.exit ?_ | refine WPc.skip ?_ | refine WPc.region ?_
     | (refine isCond ?_; first | refine WPc.cT ?_ | refine WPc.cF ?_ | (refine WPc.cQ (fun hc => ?_) (fun hc => ?_) <;> try first | exact prA | (exfalso; first | omega)))
     | (refine isD 19 ?_; refine WPl.rdX (ReadR.binE rfl rfl BinR.lss (congrArg Value.bool (decide_eq_false hlt'))) ?_)
     | (refine isOp ?_; first | refine WPl.rd ?_ | refine WPl.sk ?_ | refine WPl.rdB ?_)
     | (refine isAl ?_; refine WPl.nw fun g => ?_)
     | (refine isSt ?_; first | refine WPl.st1 ?_ | refine WPl.stA ?_ | refine WPl.stEB ?_ | refine WPl.stRB ?_)
     | (show WPl _ _ _ _ _ _ _ (⟨_, .indexAddr _ _ _, _, _, _, _⟩ :: _) _; refine WPl.rdX (ReadR.indexE rfl rfl hasA (by first | assumption | omega)) ?_)
     | (show WPl _ _ _ _ _ _ _ (⟨_, .fieldAddr _ _ _, _, _, _, _⟩ :: _) _; refine WPl.rdX (ReadR.fieldE rfl hasA (by first | assumption | omega)) ?_)
     | (show WPl _ _ _ _ _ _ _ (⟨_, .load _ _, _, _, _, _⟩ :: _) _; first | refine WPl.rdX (ReadR.loadE rfl hasA (by assumption)) ?_ | refine WPl.rdX (ReadR.loadES (by assumption) (by first | assumption | omega) rfl hasA) ?_)
     | (show WPl _ _ _ _ _ _ _ (⟨_, .slice _ _ _ _ _, _, _, _, _⟩ :: _) _; first | refine WPl.rdX (ReadR.sliceH rfl rfl hasA (by omega)) ?_ | refine WPl.rdX (ReadR.sliceL rfl rfl hasA (by omega)) ?_ | refine WPl.rdX (ReadR.sliceLH rfl rfl rfl hasA (by omega) (by omega)) ?_)
     | (refine WPl.spQ (fun hc => ?_) (fun hc => ?_) <;> try first | exact prA | (exfalso; first | omega))
     | fail)
    cases hwb : wholeB ps' with
    | true => exact WPq.dX (vs := [vo, .bool true]) [bx x.g 77 (pjC x), rowN 55 42 x.vP ps'.length (pts ps'), ob vo (dataP ps')] ⟨ps', vo, hperm, hsort, hvo, by rw [hwb]; rfl, by rw [hwb]; rfl⟩
    | false => exact WPq.dX (vs := [vo, .bool false]) [bx x.g 77 (pjC x), rowN 55 42 x.vP ps'.length (pts ps')] ⟨ps', vo, hperm, hsort, hvo, by rw [hwb]; rfl, by rw [hwb]; rfl⟩
end Go.Proofs.Ytmdihpanaljkfaa
