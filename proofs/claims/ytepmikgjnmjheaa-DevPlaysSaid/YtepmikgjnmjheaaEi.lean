/- Reference of layer 3 (dev): Spoil; lists of numbers compared. -/
import Derived.Test.YtepmikgjnmjheaaEh
namespace Go.Proofs.Ytepmikgjnmjheaa
open Go.RowKit
set_option linter.unusedSimpArgs false
set_option linter.unusedVariables false
set_option maxRecDepth 20000
set_option maxHeartbeats 1000000
attribute [local irreducible] WPc WPl WPq ReadR OpT BinR HasS bx rdN rowN Take Takes Prov Triple ResF BuildP Done ag Int.decLt Int.decLe Int.instDecidableEq
attribute [local irreducible] mp rmp rg rgo bag vrow secs mput mget mfind mdel intsV skeys vault pickG fburn fb1 valsV zAt zB vers crashT intsN
def mapT {α : Type} (f : α → α) (l : List α) (m : Nat) : List α := (l.take m).map f ++ l.drop m
theorem mapT_len {α : Type} {f : α → α} {l : List α} {m : Nat} : (mapT f l m).length = l.length := by
  unfold mapT
  rw [List.length_append, List.length_map, ← List.length_append, List.take_append_drop]
theorem mapT_at {α : Type} {f : α → α} {l : List α} {m : Nat} {s : α} (h : l[m]? = some s) : (mapT f l m)[m]? = some s := by
  have hm : m < l.length := (List.getElem?_eq_some_iff.1 h).1
  unfold mapT
  rw [List.getElem?_append_right (by rw [List.length_map, List.length_take]; omega), List.length_map, List.length_take, Nat.min_eq_left (by omega), Nat.sub_self, List.getElem?_drop]
  exact h
theorem mapT_next {α : Type} {f : α → α} {l : List α} {m : Nat} {s : α} (h : l[m]? = some s) : (mapT f l m).set m (f s) = mapT f l (m + 1) := by
  have hm : m < l.length := (List.getElem?_eq_some_iff.1 h).1
  unfold mapT
  rw [List.set_append_right _ _ (by rw [List.length_map, List.length_take]; omega), List.length_map, List.length_take, Nat.min_eq_left (by omega), Nat.sub_self, List.drop_eq_getElem_cons hm, List.set_cons_zero, List.take_add_one, h, List.map_append, List.append_assoc]
  rfl
theorem mapT_same {α : Type} {f : α → α} {l : List α} {m : Nat} {s : α} (h : l[m]? = some s) (hf : f s = s) : mapT f l m = mapT f l (m + 1) := by
  rw [← mapT_next h, hf]
  have h1 := mapT_at (f := f) h
  apply List.ext_getElem?
  intro i
  rw [List.getElem?_set]
  by_cases hi : m = i
  · subst hi
    rw [if_pos rfl, if_pos (List.getElem?_eq_some_iff.1 h1).1, h1]
  · rw [if_neg hi]
theorem mapT_all {α : Type} {f : α → α} {l : List α} {m : Nat} (h : l.length ≤ m) : mapT f l m = l.map f := by
  unfold mapT
  rw [List.take_of_length_le h, List.drop_eq_nil_of_le h, List.append_nil]
def zv (Z : Zl) : List (Int × Sec) := Z.map fun z => (z.1, z.2.2)
def zx (j : Int) (t : Nat) (b2 : UInt8) (z : Int × Sec) : Int × Sec := if z.1 = j then (z.1, z.2.xor t b2) else z
theorem zx_fst {j : Int} {t : Nat} {b2 : UInt8} {z : Int × Sec} : (zx j t b2 z).1 = z.1 := by unfold zx; split <;> rfl
theorem vers_zv {Z : Zl} {i : Int} : (vers Z i).map (·.2) = ((zv Z).filter fun z => decide (z.1 = i)).map (·.2) := by
  with_unfolding_all
    unfold vers zv
    rw [List.filter_map, List.map_map, List.map_map]; rfl
theorem zAt_zv {Z : Zl} : zAt Z = (zv Z).map (·.1) := by
  with_unfolding_all
    unfold zAt zv
    rw [List.map_map]; rfl
theorem zv_len {Z : Zl} : (zv Z).length = Z.length := by unfold zv; rw [List.length_map]
theorem zv_at {Z : Zl} {i : Nat} {z : Int × (Value × Sec)} (h : Z[i]? = some z) : (zv Z)[i]? = some (z.1, z.2.2) := by unfold zv; rw [List.getElem?_map, h]; rfl
theorem zv_vers {Z Z' : Zl} {j i : Int} {t : Nat} {b2 : UInt8} (h : zv Z' = (zv Z).map (zx j t b2)) : (vers Z' i).map (·.2) = if i = j then ((vers Z i).map (·.2)).map (fun s => s.xor t b2) else (vers Z i).map (·.2) := by
  rw [vers_zv, h, vers_zv, List.filter_map]
  have h1 : ((fun z : Int × Sec => decide (z.1 = i)) ∘ zx j t b2) = fun z => decide (z.1 = i) := by funext z; show decide ((zx j t b2 z).1 = i) = _; rw [zx_fst]
  rw [h1, List.map_map]
  by_cases hij : i = j
  · rw [if_pos hij, List.map_map]
    apply List.map_congr_left
    intro z hz
    rw [List.mem_filter, decide_eq_true_eq] at hz
    show (zx j t b2 z).2 = z.2.xor t b2
    unfold zx
    rw [if_pos (hz.2.trans hij)]
  · rw [if_neg hij]
    apply List.map_congr_left
    intro z hz
    rw [List.mem_filter, decide_eq_true_eq] at hz
    show (zx j t b2 z).2 = z.2
    unfold zx
    rw [if_neg (by rw [hz.2]; exact hij)]
theorem zB_set {Z : Zl} {q : Nat} {i : Int} {v : Value} {s : Sec} : (valsV (zB Z)).set q v = valsV (zB (Z.set q (i, (v, s)))) := by
  with_unfolding_all
    unfold valsV zB
    rw [List.map_set, List.map_set]
theorem zv_set {Z : Zl} {q : Nat} {i : Int} {v : Value} {s : Sec} : zv (Z.set q (i, (v, s))) = (zv Z).set q (i, s) := by
  unfold zv
  rw [List.map_set]
structure SOk (Z0 : Zl) (f : Int × Sec → Int × Sec) (L : List (Value × Sec)) (st : Nat × Zl × List (Value × Sec)) : Prop where
  l : st.1 ≤ Z0.length
  e : zv st.2.1 = mapT f (zv Z0) st.1
  z : ∀ z ∈ st.2.1, z.2 ∈ st.2.2 ∧ z.2.1.oneCell' = true
  r : ∀ x ∈ L, x ∈ st.2.2 ∧ x.1.oneCell' = true
section
variable (gX : Nat) (n k : Nat) (R : RfS)
theorem rspoilNo_t (i a : Int) (b2 : UInt8) (h : RInv n k R) (hn : n ≤ 100000) (hg : sgood R.vw i a = false) :
    Triple Try.prog 52 #[hD gX, .int .i64 i, .int .i64 a, .int .u8 ((b2.toNat : Nat) : Int)] [rbx gX 51 (rdc R.vL R.vA R.vB R.fu R.wr), rdN R.vL R.L.length (valsV R.L)] (RVal (.bool false)) := by
  have hnl := h.nl
  have c12 := rhas_t gX R i (by omega)
  have hvl : R.vw.ls.length = R.L.length := by show (R.L.map _).length = _; rw [List.length_map]
  unfold sgood at hg
  rw [hvl] at hg
  by_cases hh : 0 ≤ i ∧ i < (R.L.length : Int)
  · rw [show (decide (0 ≤ i) && decide (i < (R.L.length : Int))) = true by rw [decide_eq_true hh.1, decide_eq_true hh.2]; rfl] at c12
    have hga : a < 0 ∨ a > 255 := by
      rw [decide_eq_true hh.1, decide_eq_true hh.2, Bool.true_and, Bool.true_and, Bool.and_eq_false_iff, decide_eq_false_iff_not, decide_eq_false_iff_not] at hg
      omega
    by_cases ha : a < 0
    · skip
      refine Triple.enter Try.func52 rfl Try.ntmps52 rfl (fun W => ?_)
      dsimp only [argsF, Nat.reduceAdd]
      repeat' (first
       | refine WPl.nil ?_ | refine WPq.then ?_ | refine WPq.thenR ?_ | refine WPq.thenE ?_ | refine WPq.blockN ?_ | refine WPq.blockR ?_ | refine WPq.blockE ?_ | refine WPq.blockO rfl ?_ | refine WPc.seq ?_ | refine WPc.block ?_ | refine WPc.ret ?_ | refine WPc.exit ?_ | refine WPc.skip ?_ | refine WPc.region ?_
       | (refine isCond ?_; first | refine WPc.cT ?_ | refine WPc.cF ?_ | (refine WPc.cQ (fun hc => ?_) (fun hc => ?_) <;> try exact prA))
       | (refine isC 12 ?_; refine WPl.cV c12 ?_ (hΔ := provsW))
       | (refine isD 16 ?_; refine WPl.rdX (ReadR.binE rfl rfl BinR.lss (congrArg Value.bool (decide_eq_true ha))) ?_)
       | (refine isOp ?_; first | refine WPl.rd ?_ | refine WPl.sk ?_ | refine WPl.rdB ?_)
       | (refine isSt ?_; first | refine WPl.st1 ?_ | refine WPl.stA ?_ | refine WPl.stEB ?_ | refine WPl.stRB ?_)
       | (show WPl _ _ _ _ _ _ _ (⟨_, .indexAddr _ _ _, _, _, _, _⟩ :: _) _; refine WPl.rdX (ReadR.indexE rfl rfl hasA (by first | assumption | omega)) ?_)
       | (show WPl _ _ _ _ _ _ _ (⟨_, .fieldAddr _ _ _, _, _, _, _⟩ :: _) _; refine WPl.rdX (ReadR.fieldE rfl hasA (by first | assumption | omega)) ?_)
       | (show WPl _ _ _ _ _ _ _ (⟨_, .load _ _, _, _, _, _⟩ :: _) _; first | refine WPl.rdX (ReadR.loadE rfl hasA (by assumption)) ?_ | refine WPl.rdX (ReadR.loadES (by assumption) (by first | assumption | omega) rfl hasA) ?_)
       | (show WPl _ _ _ _ _ _ _ (⟨_, .slice _ _ _ _ _, _, _, _, _⟩ :: _) _; first | refine WPl.rdX (ReadR.sliceH rfl rfl hasA (by omega)) ?_ | refine WPl.rdX (ReadR.sliceL rfl rfl hasA (by omega)) ?_ | refine WPl.rdX (ReadR.sliceLH rfl rfl rfl hasA (by omega) (by omega)) ?_)
       | (refine WPl.spQ (fun hc => ?_) (fun hc => ?_) <;> try exact prA)
       | fail)
      exact WPq.dV
    · have ha2 : a > 255 := by omega
      refine Triple.enter Try.func52 rfl Try.ntmps52 rfl (fun W => ?_)
      dsimp only [argsF, Nat.reduceAdd]
      repeat' (first
       | refine WPl.nil ?_ | refine WPq.then ?_ | refine WPq.thenR ?_ | refine WPq.thenE ?_ | refine WPq.blockN ?_ | refine WPq.blockR ?_ | refine WPq.blockE ?_ | refine WPq.blockO rfl ?_ | refine WPc.seq ?_ | refine WPc.block ?_ | refine WPc.ret ?_ | refine WPc.exit ?_ | refine WPc.skip ?_ | refine WPc.region ?_
       | (refine isCond ?_; first | refine WPc.cT ?_ | refine WPc.cF ?_ | (refine WPc.cQ (fun hc => ?_) (fun hc => ?_) <;> try exact prA))
       | (refine isC 12 ?_; refine WPl.cV c12 ?_ (hΔ := provsW))
       | (refine isD 16 ?_; refine WPl.rdX (ReadR.binE rfl rfl BinR.lss (congrArg Value.bool (decide_eq_false ha))) ?_)
       | (refine isD 20 ?_; refine WPl.rdX (ReadR.binE rfl rfl BinR.gtr (congrArg Value.bool (decide_eq_true ha2))) ?_)
       | (refine isOp ?_; first | refine WPl.rd ?_ | refine WPl.sk ?_ | refine WPl.rdB ?_)
       | (refine isSt ?_; first | refine WPl.st1 ?_ | refine WPl.stA ?_ | refine WPl.stEB ?_ | refine WPl.stRB ?_)
       | (show WPl _ _ _ _ _ _ _ (⟨_, .indexAddr _ _ _, _, _, _, _⟩ :: _) _; refine WPl.rdX (ReadR.indexE rfl rfl hasA (by first | assumption | omega)) ?_)
       | (show WPl _ _ _ _ _ _ _ (⟨_, .fieldAddr _ _ _, _, _, _, _⟩ :: _) _; refine WPl.rdX (ReadR.fieldE rfl hasA (by first | assumption | omega)) ?_)
       | (show WPl _ _ _ _ _ _ _ (⟨_, .load _ _, _, _, _, _⟩ :: _) _; first | refine WPl.rdX (ReadR.loadE rfl hasA (by assumption)) ?_ | refine WPl.rdX (ReadR.loadES (by assumption) (by first | assumption | omega) rfl hasA) ?_)
       | (show WPl _ _ _ _ _ _ _ (⟨_, .slice _ _ _ _ _, _, _, _, _⟩ :: _) _; first | refine WPl.rdX (ReadR.sliceH rfl rfl hasA (by omega)) ?_ | refine WPl.rdX (ReadR.sliceL rfl rfl hasA (by omega)) ?_ | refine WPl.rdX (ReadR.sliceLH rfl rfl rfl hasA (by omega) (by omega)) ?_)
       | (refine WPl.spQ (fun hc => ?_) (fun hc => ?_) <;> try exact prA)
       | fail)
      exact WPq.dV
  · rw [show (decide (0 ≤ i) && decide (i < (R.L.length : Int))) = false by rw [Bool.and_eq_false_iff, decide_eq_false_iff_not, decide_eq_false_iff_not]; omega] at c12
    refine Triple.enter Try.func52 rfl Try.ntmps52 rfl (fun W => ?_)
    dsimp only [argsF, Nat.reduceAdd]
    repeat' (first
     | refine WPl.nil ?_ | refine WPq.then ?_ | refine WPq.thenR ?_ | refine WPq.thenE ?_ | refine WPq.blockN ?_ | refine WPq.blockR ?_ | refine WPq.blockE ?_ | refine WPq.blockO rfl ?_ | refine WPc.seq ?_ | refine WPc.block ?_ | refine WPc.ret ?_ | refine WPc.exit ?_ | refine WPc.skip ?_ | refine WPc.region ?_
     | (refine isCond ?_; first | refine WPc.cT ?_ | refine WPc.cF ?_ | (refine WPc.cQ (fun hc => ?_) (fun hc => ?_) <;> try exact prA))
     | (refine isC 12 ?_; refine WPl.cV c12 ?_ (hΔ := provsW))
     | (refine isOp ?_; first | refine WPl.rd ?_ | refine WPl.sk ?_ | refine WPl.rdB ?_)
     | (refine isSt ?_; first | refine WPl.st1 ?_ | refine WPl.stA ?_ | refine WPl.stEB ?_ | refine WPl.stRB ?_)
     | (show WPl _ _ _ _ _ _ _ (⟨_, .indexAddr _ _ _, _, _, _, _⟩ :: _) _; refine WPl.rdX (ReadR.indexE rfl rfl hasA (by first | assumption | omega)) ?_)
     | (show WPl _ _ _ _ _ _ _ (⟨_, .fieldAddr _ _ _, _, _, _, _⟩ :: _) _; refine WPl.rdX (ReadR.fieldE rfl hasA (by first | assumption | omega)) ?_)
     | (show WPl _ _ _ _ _ _ _ (⟨_, .load _ _, _, _, _, _⟩ :: _) _; first | refine WPl.rdX (ReadR.loadE rfl hasA (by assumption)) ?_ | refine WPl.rdX (ReadR.loadES (by assumption) (by first | assumption | omega) rfl hasA) ?_)
     | (show WPl _ _ _ _ _ _ _ (⟨_, .slice _ _ _ _ _, _, _, _, _⟩ :: _) _; first | refine WPl.rdX (ReadR.sliceH rfl rfl hasA (by omega)) ?_ | refine WPl.rdX (ReadR.sliceL rfl rfl hasA (by omega)) ?_ | refine WPl.rdX (ReadR.sliceLH rfl rfl rfl hasA (by omega) (by omega)) ?_)
     | (refine WPl.spQ (fun hc => ?_) (fun hc => ?_) <;> try exact prA)
     | fail)
    exact WPq.dV
theorem rspoil_t (j t : Nat) (b2 : UInt8) (h : RInv n k R) (hn : n ≤ 100000) (hkb : k ≤ 100000) (hj : j < n) (ht : t < 256) :
    Triple Try.prog 52 #[hD gX, .int .i64 (j : Int), .int .i64 (t : Int), .int .u8 ((b2.toNat : Nat) : Int)] (rsA gX R) (RRf gX n k (.bool true) (R.vw.spoil (j : Int) (t : Int) b2).1) := by
  have hnl := h.nl
  have hlz := h.lz
  have hjl : j < R.L.length := by omega
  have c12 := rhas_t gX R (j : Int) (by omega)
  rw [show (decide (0 ≤ (j : Int)) && decide ((j : Int) < (R.L.length : Int))) = true by rw [decide_eq_true (by omega), decide_eq_true (by omega)]; rfl] at c12
  have ha : ¬ (t : Int) < 0 := by omega
  have ha2 : ¬ (t : Int) > 255 := by omega
  obtain ⟨x, hx0⟩ : ∃ x, R.L[j]? = some x := ⟨_, List.getElem?_eq_getElem hjl⟩
  have hxv := valsV_at hx0
  obtain ⟨hin, hone⟩ := h.inL x (List.mem_of_getElem? hx0)
  have hin' : (x.1, x.2) ∈ R.rs := hin
  have hxl := x.2.len
  have c36 := turned_t x.1 x.2.b t b2 (by omega) (by omega)
  have hjv : j < (valsV R.L).length := by rw [valsV_len]; exact hjl
  have hgd : R.vw.ls.getD j (secF 0) = x.2 := by show (R.L.map (·.2)).getD j (secF 0) = _; rw [List.getD_eq_getElem?_getD, List.getElem?_map, hx0]; rfl
  have hsp : (R.vw.spoil (j : Int) (t : Int) b2).1 = ⟨R.fu, (R.L.map (·.2)).set j (x.2.xor t b2), updW R.vw.ws j ((R.vw.ws j).map fun s => s.xor t b2), R.wr⟩ := by
    unfold Dv.spoil
    rw [if_pos (show sgood R.vw (j : Int) (t : Int) = true by
      show (decide (0 ≤ (j : Int)) && decide ((j : Int) < ((R.L.map (·.2)).length : Int)) && decide (0 ≤ (t : Int)) && decide ((t : Int) ≤ 255)) = true
      rw [List.length_map, decide_eq_true (by omega), decide_eq_true (by omega), decide_eq_true (by omega), decide_eq_true (by omega)]; rfl)]
    show Dv.mk R.fu (R.vw.ls.set j ((R.vw.ls.getD j (secF 0)).xor t b2)) _ _ = _
    rw [hgd]; rfl
  rw [hsp]
  refine Triple.enter Try.func52 rfl Try.ntmps52 rfl (fun W => ?_)
  dsimp only [argsF, Nat.reduceAdd]
  repeat' (first
   | refine WPl.nil ?_ | refine WPq.then ?_ | refine WPq.thenR ?_ | refine WPq.thenE ?_ | refine WPq.blockN ?_ | refine WPq.blockR ?_ | refine WPq.blockE ?_ | refine WPq.blockO rfl ?_ | refine WPc.seq ?_ | refine WPc.block ?_ | refine WPc.ret ?_ | refine WPc.exit ?_ | refine WPc.skip ?_ | refine WPc.region ?_
   | (refine isReg 3 ?_; refine WPc.drA [([17], [26, 27, 28, 29, 30, 31, 32, 33, 34, 35, 36]), ([0, 17], [22, 26, 27, 28, 29, 30, 31, 32, 33, 34, 35, 36]), ([0, 1, 17], [22, 23, 26, 27, 28, 29, 30, 31, 32, 33, 34, 35, 36]), ([0, 1, 2, 17], [22, 23, 24, 26, 27, 28, 29, 30, 31, 32, 33, 34, 35, 36]), ([17], [22, 23, 24, 25, 27, 28, 29, 30, 31, 32, 33, 34, 35, 36]), ([17], [22, 23, 24, 25, 26, 31, 34, 35]), ([5, 17], [22, 23, 24, 25, 26, 27, 31, 34, 35]), ([5, 6, 17], [22, 23, 24, 25, 26, 27, 28, 31, 34, 35]), ([5, 6, 7, 17], [22, 23, 24, 25, 26, 27, 28, 29, 31, 34, 35]), ([17], [22, 23, 24, 25, 26, 27, 28, 29, 30, 34, 35]), ([5, 6, 7, 8, 9, 17], [22, 23, 24, 25, 26, 27, 28, 29, 30, 31, 34, 35]), ([5, 6, 7, 8, 9, 10, 17], [22, 23, 24, 25, 26, 27, 28, 29, 30, 31, 32, 34, 35]), ([17], [22, 23, 24, 25, 26, 27, 28, 29, 30, 31, 32, 33, 35]), ([17], [22, 23, 24, 25, 26, 27, 28, 29, 30, 31, 32, 33, 34]), ([5, 6, 7, 8, 9, 10, 11, 12, 13, 17], [22, 23, 24, 25, 26, 27, 28, 29, 30, 31, 32, 33, 34, 35]), ([0, 1, 2, 3, 4, 5, 6, 7, 8, 9, 10, 11, 12, 13, 14, 17], [22, 23, 24, 25, 26, 27, 28, 29, 30, 31, 32, 33, 34, 35, 36]), ([0, 1, 2, 3, 4, 5, 6, 7, 8, 9, 10, 11, 12, 13, 14, 15, 17], [22, 23, 24, 25, 26, 27, 28, 29, 30, 31, 32, 33, 34, 35, 36, 37])] [(17, 16), (17, 0), (17, 1), (17, 2), (17, 3), (17, 4), (17, 5), (17, 6), (17, 7), (17, 8), (17, 9), (17, 10), (17, 11), (17, 12), (17, 13), (17, 14), (17, 15)] (Γx := [rowN 31 1 R.vL R.L.length (valsV R.L)]) ?_; dsimp only [prev0, List.length_nil, List.length_cons])
   | (refine gAny ?_; first | (refine gD 16 ?_; refine RGl.rdX (fun e hk => by (try dsimp only [bndR, ensR, oksR, fcutR, List.append_nil, List.nil_append, List.cons_append, List.append_assoc] at hk ⊢); exact ReadR.binE rfl rfl BinR.lss (congrArg Value.bool (decide_eq_false ha))) ?_) | (refine gD 20 ?_; refine RGl.rdX (fun e hk => by (try dsimp only [bndR, ensR, oksR, fcutR, List.append_nil, List.nil_append, List.cons_append, List.append_assoc] at hk ⊢); exact ReadR.binE rfl rfl BinR.gtr (congrArg Value.bool (decide_eq_false ha2))) ?_) | (refine gD 32 ?_; refine RGl.rdX (fun e hk => by (try dsimp only [bndR, ensR, oksR, fcutR, List.append_nil, List.nil_append, List.cons_append, List.append_assoc] at hk ⊢); exact ReadR.indexE1 (i := j) rfl rfl hasA hjl) ?_) | (refine gD 33 ?_; refine RGl.rdX (fun e hk => by (try dsimp only [bndR, ensR, oksR, fcutR, List.append_nil, List.nil_append, List.cons_append, List.append_assoc] at hk ⊢); exact ReadR.loadE rfl hasA hxv) ?_) | (refine gOp ?_; (refine gC 36 ?_; refine RGl.row (Γ1 := fun _ => []) (fun e hk => OpT.callN c36 (hΔ := by (try dsimp only [bndR, ensR, oksR, fcutR, List.append_nil, List.nil_append, List.cons_append, List.append_assoc] at hk ⊢); exact provsW)) ?_)) | (refine gD 37 ?_; refine RGl.rdX (fun e hk => by (try dsimp only [bndR, ensR, oksR, fcutR, List.append_nil, List.nil_append, List.cons_append, List.append_assoc] at hk ⊢); exact ReadR.indexE1 (i := j) rfl rfl hasA hjl) ?_) | (refine gOp ?_; (refine RGl.turn (fun e hk => by (try dsimp only [bndR, ensR, oksR, fcutR, List.append_nil, List.nil_append, List.cons_append, List.append_assoc] at hk ⊢); exact OpT.storeEN (i := j) rfl rfl takesA (by (repeat (obtain ⟨hk1, hk⟩ := hk)) <;> assumption) hjv) ?_)) | (refine gOp ?_; first | refine RGl.rdA ?_ | refine RGl.rdX (fun e hk => by (try dsimp only [bndR, ensR, oksR, fcutR, List.append_nil, List.nil_append, List.cons_append, List.append_assoc] at hk ⊢); exact readB) ?_) | (refine gSt ?_; refine RGl.stA ?_) | (refine RGl.fin (fun e hk => ?_); (try dsimp only [bndA, ensAR, oksA, List.append_nil, List.nil_append, List.cons_append, List.append_assoc] at hk ⊢); (repeat (obtain ⟨hk1, hk⟩ := hk))) | fail)
   | (refine isCond ?_; first | refine WPc.cT ?_ | refine WPc.cF ?_ | (refine WPc.cQ (fun hc => ?_) (fun hc => ?_) <;> try exact prA))
   | (refine isC 12 ?_; refine WPl.cV c12 ?_ (hΔ := provsW))
   | (refine isD 16 ?_; refine WPl.rdX (ReadR.binE rfl rfl BinR.lss (congrArg Value.bool (decide_eq_false ha))) ?_)
   | (refine isD 20 ?_; refine WPl.rdX (ReadR.binE rfl rfl BinR.gtr (congrArg Value.bool (decide_eq_false ha2))) ?_)
   | (refine isD 32 ?_; refine WPl.rdX (ReadR.indexE1 (i := j) rfl rfl hasA hjl) ?_)
   | (refine isD 33 ?_; refine WPl.rdX (ReadR.loadE rfl hasA hxv) ?_)
   | (refine isD 37 ?_; refine WPl.rdX (ReadR.indexE1 (i := j) rfl rfl hasA hjl) ?_)
   | (refine isOp ?_; first | refine WPl.rd ?_ | refine WPl.sk ?_ | refine WPl.rdB ?_)
   | (refine isSt ?_; first | refine WPl.st1 ?_ | refine WPl.stA ?_ | refine WPl.stEB ?_ | refine WPl.stRB ?_)
   | (show WPl _ _ _ _ _ _ _ (⟨_, .indexAddr _ _ _, _, _, _, _⟩ :: _) _; refine WPl.rdX (ReadR.indexE rfl rfl hasA (by first | assumption | omega)) ?_)
   | (show WPl _ _ _ _ _ _ _ (⟨_, .fieldAddr _ _ _, _, _, _, _⟩ :: _) _; refine WPl.rdX (ReadR.fieldE rfl hasA (by first | assumption | omega)) ?_)
   | (show WPl _ _ _ _ _ _ _ (⟨_, .load _ _, _, _, _, _⟩ :: _) _; first | refine WPl.rdX (ReadR.loadE rfl hasA (by assumption)) ?_ | refine WPl.rdX (ReadR.loadES (by assumption) (by first | assumption | omega) rfl hasA) ?_)
   | (show WPl _ _ _ _ _ _ _ (⟨_, .slice _ _ _ _ _, _, _, _, _⟩ :: _) _; first | refine WPl.rdX (ReadR.sliceH rfl rfl hasA (by omega)) ?_ | refine WPl.rdX (ReadR.sliceL rfl rfl hasA (by omega)) ?_ | refine WPl.rdX (ReadR.sliceLH rfl rfl rfl hasA (by omega) (by omega)) ?_)
   | (refine WPl.spQ (fun hc => ?_) (fun hc => ?_) <;> try exact prA)
   | fail)
  dsimp only [Nat.reduceAdd] at *
  have h14 : (e 14).1.oneCell' = true := by assumption
  obtain ⟨v36, hv36⟩ : ∃ v36, v36 = (e 14).1 := ⟨_, rfl⟩
  rw [← hv36] at h14 ⊢
  refine WPc.vaultIn (A := ob v36 (x.2.xor t b2).b) (v := v36) (s := x.2.xor t b2) .ob ?_
  rw [show (valsV R.L).set j v36 = valsV (R.L.set j (v36, x.2.xor t b2)) from valsV_set (x := (v36, x.2.xor t b2))]
  obtain ⟨L', hL'⟩ : ∃ L', L' = R.L.set j (v36, x.2.xor t b2) := ⟨_, rfl⟩
  have hLm : ∀ y ∈ L', y ∈ (v36, x.2.xor t b2) :: R.rs ∧ y.1.oneCell' = true := fun y hy => by
    rw [hL'] at hy
    rcases List.mem_or_eq_of_mem_set hy with hy | hy
    · exact ⟨List.mem_cons_of_mem _ (h.inL y hy).1, (h.inL y hy).2⟩
    · rw [hy]; exact ⟨List.mem_cons_self .., h14⟩
  have hLl : L'.length = n := by rw [hL', List.length_set]; exact hnl
  have hLs : L'.map (·.2) = (R.L.map (·.2)).set j (x.2.xor t b2) := by rw [hL', List.map_set]
  rw [← hL']
  clear hL'
  first | refine WPc.loop (σ := Nat × Zl × List (Value × Sec)) (fun st => SOk R.Z (zx (j : Int) t b2) L' st) (fun st => [rowN 31 1 R.vL R.L.length (valsV L'), bx gX 51 (rdc R.vL R.vA R.vB R.fu R.wr), rowN 3 1 R.vA R.Z.length (intsV (zAt R.Z)), rowN 31 1 R.vB R.Z.length (valsV (zB st.2.1)), vault st.2.2]) (fun st => [(0, hD gX), (1, .int .i64 (j : Int)), (2, .int .i64 (t : Int)), (3, .int .u8 ((b2.toNat : Nat) : Int)), (9, .int .i64 (st.1 : Int))]) (fun st => R.Z.length - st.1) ((0, R.Z, (v36, x.2.xor t b2) :: R.rs)) ?_ takesA frsA (fun st km hx hk => ?_)
  · exact ⟨Nat.zero_le _, rfl, fun z hz => ⟨List.mem_cons_of_mem _ (h.inZ z hz).1, (h.inZ z hz).2⟩, hLm⟩
  obtain ⟨q, Z, rs⟩ := st
  obtain ⟨hl, he, hzz, hrr⟩ := hx
  dsimp only at hl he hzz hrr hk ⊢
  have hkm : km = R.Z.length - q := hk
  clear hk
  have hZl : Z.length = R.Z.length := by rw [← zv_len, he, mapT_len, zv_len]
  by_cases hlt : q < R.Z.length
  · obtain ⟨z0, hz0⟩ : ∃ z0, R.Z[q]? = some z0 := ⟨_, List.getElem?_eq_getElem hlt⟩
    obtain ⟨z, hz⟩ : ∃ z, Z[q]? = some z := ⟨_, List.getElem?_eq_getElem (by omega)⟩
    have hz1 := zv_at hz
    rw [he, mapT_at (zv_at hz0)] at hz1
    have hz2 : (z.1, z.2.2) = (z0.1, z0.2.2) := (Option.some.inj hz1).symm
    have ha1 : (intsV (zAt R.Z))[q]? = some (.int .i64 z0.1) := intsV_at (by with_unfolding_all (unfold zAt; rw [List.getElem?_map, hz0]; rfl))
    have hbv : (valsV (zB Z))[q]? = some z.2.1 := valsV_at (by with_unfolding_all (unfold zB; rw [List.getElem?_map, hz]; rfl))
    by_cases hij : z0.1 = (j : Int)
    · obtain ⟨hin2, hone2⟩ := hzz z (List.mem_of_getElem? hz)
      have hin2' : (z.2.1, z.2.2) ∈ rs := hin2
      have hzl := z.2.2.len
      have c70 := turned_t z.2.1 z.2.2.b t b2 (by omega) (by omega)
      have hqv : q < (valsV (zB Z)).length := (List.getElem?_eq_some_iff.1 hbv).1
      repeat' (first
       | refine WPl.nil ?_ | refine WPq.then ?_ | refine WPq.thenR ?_ | refine WPq.thenE ?_ | refine WPq.blockN ?_ | refine WPq.blockR ?_ | refine WPq.blockE ?_ | refine WPq.blockO rfl ?_ | refine WPc.seq ?_ | refine WPc.block ?_ | refine WPc.ret ?_ | refine WPc.exit ?_ | refine WPc.skip ?_ | refine WPc.region ?_
       | (refine isReg 8 ?_; refine WPc.drA [([17], [60, 61, 62, 63, 64, 65, 66, 67, 68, 69, 70]), ([0, 17], [56, 60, 61, 62, 63, 64, 65, 66, 67, 68, 69, 70]), ([0, 1, 17], [56, 57, 60, 61, 62, 63, 64, 65, 66, 67, 68, 69, 70]), ([0, 1, 2, 17], [56, 57, 58, 60, 61, 62, 63, 64, 65, 66, 67, 68, 69, 70]), ([17], [56, 57, 58, 59, 61, 62, 63, 64, 65, 66, 67, 68, 69, 70]), ([17], [56, 57, 58, 59, 60, 65, 68, 69]), ([5, 17], [56, 57, 58, 59, 60, 61, 65, 68, 69]), ([5, 6, 17], [56, 57, 58, 59, 60, 61, 62, 65, 68, 69]), ([5, 6, 7, 17], [56, 57, 58, 59, 60, 61, 62, 63, 65, 68, 69]), ([17], [56, 57, 58, 59, 60, 61, 62, 63, 64, 68, 69]), ([5, 6, 7, 8, 9, 17], [56, 57, 58, 59, 60, 61, 62, 63, 64, 65, 68, 69]), ([5, 6, 7, 8, 9, 10, 17], [56, 57, 58, 59, 60, 61, 62, 63, 64, 65, 66, 68, 69]), ([17], [56, 57, 58, 59, 60, 61, 62, 63, 64, 65, 66, 67, 69]), ([17], [56, 57, 58, 59, 60, 61, 62, 63, 64, 65, 66, 67, 68]), ([5, 6, 7, 8, 9, 10, 11, 12, 13, 17], [56, 57, 58, 59, 60, 61, 62, 63, 64, 65, 66, 67, 68, 69]), ([0, 1, 2, 3, 4, 5, 6, 7, 8, 9, 10, 11, 12, 13, 14, 17], [56, 57, 58, 59, 60, 61, 62, 63, 64, 65, 66, 67, 68, 69, 70]), ([0, 1, 2, 3, 4, 5, 6, 7, 8, 9, 10, 11, 12, 13, 14, 15, 17], [56, 57, 58, 59, 60, 61, 62, 63, 64, 65, 66, 67, 68, 69, 70, 71])] [(17, 16), (17, 0), (17, 1), (17, 2), (17, 3), (17, 4), (17, 5), (17, 6), (17, 7), (17, 8), (17, 9), (17, 10), (17, 11), (17, 12), (17, 13), (17, 14), (17, 15)] (Γx := [rowN 31 1 R.vB R.Z.length (valsV (zB Z))]) ?_; dsimp only [prev0, List.length_nil, List.length_cons])
       | (refine gAny ?_; first | (refine gD 52 ?_; refine RGl.rdX (fun e hk => by (try dsimp only [bndR, ensR, oksR, fcutR, List.append_nil, List.nil_append, List.cons_append, List.append_assoc] at hk ⊢); exact ReadR.indexE1 (i := q) rfl rfl hasA hlt) ?_) | (refine gD 53 ?_; refine RGl.rdX (fun e hk => by (try dsimp only [bndR, ensR, oksR, fcutR, List.append_nil, List.nil_append, List.cons_append, List.append_assoc] at hk ⊢); exact ReadR.loadE rfl hasA ha1) ?_) | (refine gD 55 ?_; refine RGl.rdX (fun e hk => by (try dsimp only [bndR, ensR, oksR, fcutR, List.append_nil, List.nil_append, List.cons_append, List.append_assoc] at hk ⊢); exact ReadR.binE rfl rfl BinR.eql (congrArg Value.bool (decide_eq_true hij))) ?_) | (refine gD 66 ?_; refine RGl.rdX (fun e hk => by (try dsimp only [bndR, ensR, oksR, fcutR, List.append_nil, List.nil_append, List.cons_append, List.append_assoc] at hk ⊢); exact ReadR.indexE1 (i := q) rfl rfl hasA hlt) ?_) | (refine gD 67 ?_; refine RGl.rdX (fun e hk => by (try dsimp only [bndR, ensR, oksR, fcutR, List.append_nil, List.nil_append, List.cons_append, List.append_assoc] at hk ⊢); exact ReadR.loadE rfl hasA hbv) ?_) | (refine gOp ?_; (refine gC 70 ?_; refine RGl.row (Γ1 := fun _ => []) (fun e hk => OpT.callN c70 (hΔ := by (try dsimp only [bndR, ensR, oksR, fcutR, List.append_nil, List.nil_append, List.cons_append, List.append_assoc] at hk ⊢); exact provsW)) ?_)) | (refine gD 71 ?_; refine RGl.rdX (fun e hk => by (try dsimp only [bndR, ensR, oksR, fcutR, List.append_nil, List.nil_append, List.cons_append, List.append_assoc] at hk ⊢); exact ReadR.indexE1 (i := q) rfl rfl hasA hlt) ?_) | (refine gOp ?_; (refine RGl.turn (fun e hk => by (try dsimp only [bndR, ensR, oksR, fcutR, List.append_nil, List.nil_append, List.cons_append, List.append_assoc] at hk ⊢); exact OpT.storeEN (i := q) rfl rfl takesA (by (repeat (obtain ⟨hk1, hk⟩ := hk)) <;> assumption) hqv) ?_)) | (refine gOp ?_; first | refine RGl.rdA ?_ | refine RGl.rdX (fun e hk => by (try dsimp only [bndR, ensR, oksR, fcutR, List.append_nil, List.nil_append, List.cons_append, List.append_assoc] at hk ⊢); exact readB) ?_) | (refine gSt ?_; refine RGl.stA ?_) | (refine RGl.fin (fun e hk => ?_); (try dsimp only [bndA, ensAR, oksA, List.append_nil, List.nil_append, List.cons_append, List.append_assoc] at hk ⊢); (repeat (obtain ⟨hk1, hk⟩ := hk))) | fail)
       | (refine isCond ?_; first | refine WPc.cT ?_ | refine WPc.cF ?_ | (refine WPc.cQ (fun hc => ?_) (fun hc => ?_) <;> try first | exact prA | (exfalso; first | omega)))
       | (refine isD 52 ?_; refine WPl.rdX (ReadR.indexE1 (i := q) rfl rfl hasA hlt) ?_)
       | (refine isD 53 ?_; refine WPl.rdX (ReadR.loadE rfl hasA ha1) ?_)
       | (refine isD 55 ?_; refine WPl.rdX (ReadR.binE rfl rfl BinR.eql (congrArg Value.bool (decide_eq_true hij))) ?_)
       | (refine isD 66 ?_; refine WPl.rdX (ReadR.indexE1 (i := q) rfl rfl hasA hlt) ?_)
       | (refine isD 67 ?_; refine WPl.rdX (ReadR.loadE rfl hasA hbv) ?_)
       | (refine isD 71 ?_; refine WPl.rdX (ReadR.indexE1 (i := q) rfl rfl hasA hlt) ?_)
       | (refine isOp ?_; first | refine WPl.rd ?_ | refine WPl.sk ?_ | refine WPl.rdB ?_)
       | (refine isSt ?_; first | refine WPl.st1 ?_ | refine WPl.stA ?_ | refine WPl.stEB ?_ | refine WPl.stRB ?_)
       | (show WPl _ _ _ _ _ _ _ (⟨_, .indexAddr _ _ _, _, _, _, _⟩ :: _) _; refine WPl.rdX (ReadR.indexE rfl rfl hasA (by first | assumption | omega)) ?_)
       | (show WPl _ _ _ _ _ _ _ (⟨_, .fieldAddr _ _ _, _, _, _, _⟩ :: _) _; refine WPl.rdX (ReadR.fieldE rfl hasA (by first | assumption | omega)) ?_)
       | (show WPl _ _ _ _ _ _ _ (⟨_, .load _ _, _, _, _, _⟩ :: _) _; first | refine WPl.rdX (ReadR.loadE rfl hasA (by assumption)) ?_ | refine WPl.rdX (ReadR.loadES (by assumption) (by first | assumption | omega) rfl hasA) ?_)
       | (show WPl _ _ _ _ _ _ _ (⟨_, .slice _ _ _ _ _, _, _, _, _⟩ :: _) _; first | refine WPl.rdX (ReadR.sliceH rfl rfl hasA (by omega)) ?_ | refine WPl.rdX (ReadR.sliceL rfl rfl hasA (by omega)) ?_ | refine WPl.rdX (ReadR.sliceLH rfl rfl rfl hasA (by omega) (by omega)) ?_)
       | (refine WPl.spQ (fun hc => ?_) (fun hc => ?_) <;> try first | exact prA | (exfalso; first | omega))
       | fail)
      dsimp only [Nat.reduceAdd] at *
      have h70 : (e 14).1.oneCell' = true := by assumption
      obtain ⟨v70, hv70⟩ : ∃ v70, v70 = (e 14).1 := ⟨_, rfl⟩
      rw [← hv70] at h70 ⊢
      refine WPq.vaultIn (A := ob v70 (z.2.2.xor t b2).b) (v := v70) (s := z.2.2.xor t b2) .ob ?_
      rw [zB_set (i := z.1) (s := z.2.2.xor t b2)]
      have he' : zv (Z.set q (z.1, (v70, z.2.2.xor t b2))) = mapT (zx (j : Int) t b2) (zv R.Z) (q + 1) := by
        rw [zv_set, he, ← mapT_next (zv_at hz0)]
        congr 1
        unfold zx
        rw [if_pos hij, ← (Prod.mk.inj hz2).1, ← (Prod.mk.inj hz2).2]
      refine WPq.rnd (q + 1, Z.set q (z.1, (v70, z.2.2.xor t b2)), (v70, z.2.2.xor t b2) :: rs) ⟨hlt, he', fun y hy => ?_, fun y hy => ⟨List.mem_cons_of_mem _ (hrr y hy).1, (hrr y hy).2⟩⟩ (by dsimp only; omega)
      rcases List.mem_or_eq_of_mem_set hy with hy | hy
      · exact ⟨List.mem_cons_of_mem _ (hzz y hy).1, (hzz y hy).2⟩
      · rw [hy]; exact ⟨List.mem_cons_self .., h70⟩
    · skip
      repeat' (first
       | refine WPl.nil ?_ | refine WPq.then ?_ | refine WPq.thenR ?_ | refine WPq.thenE ?_ | refine WPq.blockN ?_ | refine WPq.blockR ?_ | refine WPq.blockE ?_ | refine WPq.blockO rfl ?_ | refine WPc.seq ?_ | refine WPc.block ?_ | refine WPc.ret ?_ | refine WPc.exit ?_ | refine WPc.skip ?_ | refine WPc.region ?_
       | (refine isCond ?_; first | refine WPc.cT ?_ | refine WPc.cF ?_ | (refine WPc.cQ (fun hc => ?_) (fun hc => ?_) <;> try first | exact prA | (exfalso; first | omega)))
       | (refine isD 52 ?_; refine WPl.rdX (ReadR.indexE1 (i := q) rfl rfl hasA hlt) ?_)
       | (refine isD 53 ?_; refine WPl.rdX (ReadR.loadE rfl hasA ha1) ?_)
       | (refine isD 55 ?_; refine WPl.rdX (ReadR.binE rfl rfl BinR.eql (congrArg Value.bool (decide_eq_false hij))) ?_)
       | (refine isOp ?_; first | refine WPl.rd ?_ | refine WPl.sk ?_ | refine WPl.rdB ?_)
       | (refine isSt ?_; first | refine WPl.st1 ?_ | refine WPl.stA ?_ | refine WPl.stEB ?_ | refine WPl.stRB ?_)
       | (show WPl _ _ _ _ _ _ _ (⟨_, .indexAddr _ _ _, _, _, _, _⟩ :: _) _; refine WPl.rdX (ReadR.indexE rfl rfl hasA (by first | assumption | omega)) ?_)
       | (show WPl _ _ _ _ _ _ _ (⟨_, .fieldAddr _ _ _, _, _, _, _⟩ :: _) _; refine WPl.rdX (ReadR.fieldE rfl hasA (by first | assumption | omega)) ?_)
       | (show WPl _ _ _ _ _ _ _ (⟨_, .load _ _, _, _, _, _⟩ :: _) _; first | refine WPl.rdX (ReadR.loadE rfl hasA (by assumption)) ?_ | refine WPl.rdX (ReadR.loadES (by assumption) (by first | assumption | omega) rfl hasA) ?_)
       | (show WPl _ _ _ _ _ _ _ (⟨_, .slice _ _ _ _ _, _, _, _, _⟩ :: _) _; first | refine WPl.rdX (ReadR.sliceH rfl rfl hasA (by omega)) ?_ | refine WPl.rdX (ReadR.sliceL rfl rfl hasA (by omega)) ?_ | refine WPl.rdX (ReadR.sliceLH rfl rfl rfl hasA (by omega) (by omega)) ?_)
       | (refine WPl.spQ (fun hc => ?_) (fun hc => ?_) <;> try first | exact prA | (exfalso; first | omega))
       | fail)
      refine WPq.rnd (q + 1, Z, rs) ⟨hlt, ?_, hzz, hrr⟩ (by dsimp only; omega)
      show zv Z = _
      rw [he]
      exact mapT_same (zv_at hz0) (by unfold zx; rw [if_neg hij])
  · have hq : q = R.Z.length := by omega
    have he' : zv Z = (zv R.Z).map (zx (j : Int) t b2) := by rw [he, mapT_all (by rw [zv_len]; omega)]
    have hzA : zAt Z = zAt R.Z := by
      rw [zAt_zv, he', zAt_zv, List.map_map]
      apply List.map_congr_left
      intro y _
      exact zx_fst
    repeat' (first
     | refine WPl.nil ?_ | refine WPq.then ?_ | refine WPq.thenR ?_ | refine WPq.thenE ?_ | refine WPq.blockN ?_ | refine WPq.blockR ?_ | refine WPq.blockE ?_ | refine WPq.blockO rfl ?_ | refine WPc.seq ?_ | refine WPc.block ?_ | refine WPc.ret ?_ | refine WPc.exit ?_ | refine WPc.skip ?_ | refine WPc.region ?_
     | (refine isCond ?_; first | refine WPc.cT ?_ | refine WPc.cF ?_ | (refine WPc.cQ (fun hc => ?_) (fun hc => ?_) <;> try first | exact prA | (exfalso; first | omega)))
     | (refine isOp ?_; first | refine WPl.rd ?_ | refine WPl.sk ?_ | refine WPl.rdB ?_)
     | (refine isSt ?_; first | refine WPl.st1 ?_ | refine WPl.stA ?_ | refine WPl.stEB ?_ | refine WPl.stRB ?_)
     | (show WPl _ _ _ _ _ _ _ (⟨_, .indexAddr _ _ _, _, _, _, _⟩ :: _) _; refine WPl.rdX (ReadR.indexE rfl rfl hasA (by first | assumption | omega)) ?_)
     | (show WPl _ _ _ _ _ _ _ (⟨_, .fieldAddr _ _ _, _, _, _, _⟩ :: _) _; refine WPl.rdX (ReadR.fieldE rfl hasA (by first | assumption | omega)) ?_)
     | (show WPl _ _ _ _ _ _ _ (⟨_, .load _ _, _, _, _, _⟩ :: _) _; first | refine WPl.rdX (ReadR.loadE rfl hasA (by assumption)) ?_ | refine WPl.rdX (ReadR.loadES (by assumption) (by first | assumption | omega) rfl hasA) ?_)
     | (show WPl _ _ _ _ _ _ _ (⟨_, .slice _ _ _ _ _, _, _, _, _⟩ :: _) _; first | refine WPl.rdX (ReadR.sliceH rfl rfl hasA (by omega)) ?_ | refine WPl.rdX (ReadR.sliceL rfl rfl hasA (by omega)) ?_ | refine WPl.rdX (ReadR.sliceLH rfl rfl rfl hasA (by omega) (by omega)) ?_)
     | (refine WPl.spQ (fun hc => ?_) (fun hc => ?_) <;> try first | exact prA | (exfalso; first | omega))
     | fail)
    rw [← hzA, ← hZl, show R.L.length = L'.length by omega]
    refine WPq.dX (ho := ownsW) (vs := [.bool true]) (rsA gX ⟨R.vL, L', R.vA, R.vB, Z, R.fu, R.wr, rs⟩) ⟨⟨R.vL, L', R.vA, R.vB, Z, R.fu, R.wr, rs⟩, rfl, ?_, ⟨h.one, h.f4, h.fb, hLl, by show Z.length ≤ k; omega, fun z hz => ?_, hrr, hzz, h.w0, h.w1⟩, rfl⟩
    · show Dv.mk R.fu (L'.map (·.2)) (fun i : Nat => (vers Z (i : Int)).map (·.2)) R.wr = Dv.mk _ _ _ _
      rw [hLs]
      congr 1
      funext i
      rw [zv_vers he']
      unfold updW
      by_cases hij : i = j
      · rw [if_pos (by rw [hij]), if_pos hij, hij]; rfl
      · rw [if_neg (by omega), if_neg hij]; rfl
    · have h1 : z.1 ∈ zAt Z := by with_unfolding_all (unfold zAt; exact List.mem_map_of_mem hz)
      rw [hzA] at h1
      have h1 : z.1 ∈ List.map (fun x : Int × (Value × Sec) => x.1) R.Z := by with_unfolding_all exact h1
      obtain ⟨y, hy, hyz⟩ := List.mem_map.1 h1
      rw [← hyz]
      exact h.at' y hy
end
theorem ints_t (va vb : Value) (a b : List Int) (ha : a.length ≤ 100000) (hb : b.length ≤ 100000) :
    Triple Try.prog 23 #[va, vb] [rdN va a.length (intsV a), rdN vb b.length (intsV b)] (RVal (.bool (decide (a = b)))) := by
  by_cases hl : a.length = b.length
  · have hne : ¬ (a.length : Int) ≠ (b.length : Int) := by omega
    refine Triple.enter Try.func23 rfl Try.ntmps23 rfl (fun W => ?_)
    dsimp only [argsF, Nat.reduceAdd]
    repeat' (first
     | refine WPl.nil ?_ | refine WPq.then ?_ | refine WPq.thenR ?_ | refine WPq.thenE ?_ | refine WPq.blockN ?_ | refine WPq.blockR ?_ | refine WPq.blockE ?_ | refine WPq.blockO rfl ?_ | refine WPc.seq ?_ | refine WPc.block ?_ | refine WPc.ret ?_ | refine WPc.exit ?_ | refine WPc.skip ?_ | refine WPc.region ?_
     | (refine isCond ?_; first | refine WPc.cT ?_ | refine WPc.cF ?_ | (refine WPc.cQ (fun hc => ?_) (fun hc => ?_) <;> try exact prA))
     | (refine isD 10 ?_; refine WPl.rdX (ReadR.binE rfl rfl BinR.neq (congrArg Value.bool (decide_eq_false hne))) ?_)
     | (refine isOp ?_; first | refine WPl.rd ?_ | refine WPl.sk ?_ | refine WPl.rdB ?_)
     | (show WPl _ _ _ _ _ _ _ (⟨_, .indexAddr _ _ _, _, _, _, _⟩ :: _) _; refine WPl.rdX (ReadR.indexE rfl rfl hasA (by first | assumption | omega)) ?_)
     | (show WPl _ _ _ _ _ _ _ (⟨_, .fieldAddr _ _ _, _, _, _, _⟩ :: _) _; refine WPl.rdX (ReadR.fieldE rfl hasA (by first | assumption | omega)) ?_)
     | (show WPl _ _ _ _ _ _ _ (⟨_, .load _ _, _, _, _, _⟩ :: _) _; first | refine WPl.rdX (ReadR.loadE rfl hasA (by assumption)) ?_ | refine WPl.rdX (ReadR.loadES (by assumption) (by first | assumption | omega) rfl hasA) ?_)
     | (show WPl _ _ _ _ _ _ _ (⟨_, .slice _ _ _ _ _, _, _, _, _⟩ :: _) _; first | refine WPl.rdX (ReadR.sliceH rfl rfl hasA (by omega)) ?_ | refine WPl.rdX (ReadR.sliceL rfl rfl hasA (by omega)) ?_ | refine WPl.rdX (ReadR.sliceLH rfl rfl rfl hasA (by omega) (by omega)) ?_)
     | (refine WPl.spQ (fun hc => ?_) (fun hc => ?_) <;> try exact prA)
     | fail)
    first | refine WPc.loop (σ := Nat) (fun st => st ≤ a.length ∧ a.take st = b.take st) (fun st => [rdN va a.length (intsV a), rdN vb b.length (intsV b)]) (fun st => [(0, va), (1, vb), (5, .int .i64 (st : Int))]) (fun st => a.length - st) (0) ?_ takesA frsA (fun st km hx hk => ?_)
    · exact ⟨Nat.zero_le _, by rw [List.take_zero, List.take_zero]⟩
    obtain ⟨hx, hxe⟩ := hx
    have hkm : km = a.length - st := hk
    clear hk
    by_cases hlt : st < a.length
    · obtain ⟨x, hx1⟩ : ∃ x, a[st]? = some x := ⟨_, List.getElem?_eq_getElem hlt⟩
      obtain ⟨y, hy1⟩ : ∃ y, b[st]? = some y := ⟨_, List.getElem?_eq_getElem (by omega)⟩
      have hltb : st < b.length := by omega
      have hxv := intsV_at hx1
      have hyv := intsV_at hy1
      by_cases hxy : x ≠ y
      · have hab : ¬ a = b := fun h9 => by rw [h9, hy1] at hx1; exact hxy (Option.some.inj hx1).symm
        repeat' (first
         | refine WPl.nil ?_ | refine WPq.then ?_ | refine WPq.thenR ?_ | refine WPq.thenE ?_ | refine WPq.blockN ?_ | refine WPq.blockR ?_ | refine WPq.blockE ?_ | refine WPq.blockO rfl ?_ | refine WPc.seq ?_ | refine WPc.block ?_ | refine WPc.ret ?_ | refine WPc.exit ?_ | refine WPc.skip ?_ | refine WPc.region ?_
         | (refine isReg 6 ?_; refine WPc.drA [([], [18, 21, 22, 23, 24]), ([], [17, 21, 22, 23, 24]), ([0, 1], [17, 18, 21, 22, 23, 24]), ([0, 1, 2], [17, 18, 19, 21, 22, 23, 24]), ([], [17, 18, 19, 20, 22]), ([], [17, 18, 19, 20, 21]), ([4, 5], [17, 18, 19, 20, 21, 22]), ([4, 5, 6], [17, 18, 19, 20, 21, 22, 23]), ([0, 1, 2, 3, 4, 5, 6, 7], [17, 18, 19, 20, 21, 22, 23, 24])] [] (Γx := []) ?_; dsimp only [prev0, List.length_nil, List.length_cons])
         | (refine gAny ?_; first | (refine gD 19 ?_; refine RGl.rdX (fun e hk => by (try dsimp only [bndR, ensR, oksR, fcutR, List.append_nil, List.nil_append, List.cons_append, List.append_assoc] at hk ⊢); exact ReadR.indexE1 (i := st) rfl rfl hasA hlt) ?_) | (refine gD 20 ?_; refine RGl.rdX (fun e hk => by (try dsimp only [bndR, ensR, oksR, fcutR, List.append_nil, List.nil_append, List.cons_append, List.append_assoc] at hk ⊢); exact ReadR.loadE rfl hasA hxv) ?_) | (refine gD 23 ?_; refine RGl.rdX (fun e hk => by (try dsimp only [bndR, ensR, oksR, fcutR, List.append_nil, List.nil_append, List.cons_append, List.append_assoc] at hk ⊢); exact ReadR.indexE1 (i := st) rfl rfl hasA hltb) ?_) | (refine gD 24 ?_; refine RGl.rdX (fun e hk => by (try dsimp only [bndR, ensR, oksR, fcutR, List.append_nil, List.nil_append, List.cons_append, List.append_assoc] at hk ⊢); exact ReadR.loadE rfl hasA hyv) ?_) | (refine gD 25 ?_; refine RGl.rdX (fun e hk => by (try dsimp only [bndR, ensR, oksR, fcutR, List.append_nil, List.nil_append, List.cons_append, List.append_assoc] at hk ⊢); exact ReadR.binE rfl rfl BinR.neq (congrArg Value.bool (decide_eq_true hxy))) ?_) | (refine gOp ?_; first | refine RGl.rdA ?_ | refine RGl.rdX (fun e hk => by (try dsimp only [bndR, ensR, oksR, fcutR, List.append_nil, List.nil_append, List.cons_append, List.append_assoc] at hk ⊢); exact readB) ?_) | (refine RGl.fin (fun e hk => ?_); (try dsimp only [bndA, ensAR, oksA, List.append_nil, List.nil_append, List.cons_append, List.append_assoc] at hk ⊢); (repeat (obtain ⟨hk1, hk⟩ := hk))) | fail)
         | (refine isCond ?_; first | refine WPc.cT ?_ | refine WPc.cF ?_ | (refine WPc.cQ (fun hc => ?_) (fun hc => ?_) <;> try first | exact prA | (exfalso; first | omega)))
         | (refine isD 19 ?_; refine WPl.rdX (ReadR.indexE1 (i := st) rfl rfl hasA hlt) ?_)
         | (refine isD 20 ?_; refine WPl.rdX (ReadR.loadE rfl hasA hxv) ?_)
         | (refine isD 23 ?_; refine WPl.rdX (ReadR.indexE1 (i := st) rfl rfl hasA hltb) ?_)
         | (refine isD 24 ?_; refine WPl.rdX (ReadR.loadE rfl hasA hyv) ?_)
         | (refine isD 25 ?_; refine WPl.rdX (ReadR.binE rfl rfl BinR.neq (congrArg Value.bool (decide_eq_true hxy))) ?_)
         | (refine isOp ?_; first | refine WPl.rd ?_ | refine WPl.sk ?_ | refine WPl.rdB ?_)
         | (show WPl _ _ _ _ _ _ _ (⟨_, .indexAddr _ _ _, _, _, _, _⟩ :: _) _; refine WPl.rdX (ReadR.indexE rfl rfl hasA (by first | assumption | omega)) ?_)
         | (show WPl _ _ _ _ _ _ _ (⟨_, .fieldAddr _ _ _, _, _, _, _⟩ :: _) _; refine WPl.rdX (ReadR.fieldE rfl hasA (by first | assumption | omega)) ?_)
         | (show WPl _ _ _ _ _ _ _ (⟨_, .load _ _, _, _, _, _⟩ :: _) _; first | refine WPl.rdX (ReadR.loadE rfl hasA (by assumption)) ?_ | refine WPl.rdX (ReadR.loadES (by assumption) (by first | assumption | omega) rfl hasA) ?_)
         | (show WPl _ _ _ _ _ _ _ (⟨_, .slice _ _ _ _ _, _, _, _, _⟩ :: _) _; first | refine WPl.rdX (ReadR.sliceH rfl rfl hasA (by omega)) ?_ | refine WPl.rdX (ReadR.sliceL rfl rfl hasA (by omega)) ?_ | refine WPl.rdX (ReadR.sliceLH rfl rfl rfl hasA (by omega) (by omega)) ?_)
         | (refine WPl.spQ (fun hc => ?_) (fun hc => ?_) <;> try first | exact prA | (exfalso; first | omega))
         | fail)
        rw [decide_eq_false hab]
        exact WPq.dV
      · skip
        repeat' (first
         | refine WPl.nil ?_ | refine WPq.then ?_ | refine WPq.thenR ?_ | refine WPq.thenE ?_ | refine WPq.blockN ?_ | refine WPq.blockR ?_ | refine WPq.blockE ?_ | refine WPq.blockO rfl ?_ | refine WPc.seq ?_ | refine WPc.block ?_ | refine WPc.ret ?_ | refine WPc.exit ?_ | refine WPc.skip ?_ | refine WPc.region ?_
         | (refine isReg 6 ?_; refine WPc.drA [([], [18, 21, 22, 23, 24]), ([], [17, 21, 22, 23, 24]), ([0, 1], [17, 18, 21, 22, 23, 24]), ([0, 1, 2], [17, 18, 19, 21, 22, 23, 24]), ([], [17, 18, 19, 20, 22]), ([], [17, 18, 19, 20, 21]), ([4, 5], [17, 18, 19, 20, 21, 22]), ([4, 5, 6], [17, 18, 19, 20, 21, 22, 23]), ([0, 1, 2, 3, 4, 5, 6, 7], [17, 18, 19, 20, 21, 22, 23, 24])] [] (Γx := []) ?_; dsimp only [prev0, List.length_nil, List.length_cons])
         | (refine gAny ?_; first | (refine gD 19 ?_; refine RGl.rdX (fun e hk => by (try dsimp only [bndR, ensR, oksR, fcutR, List.append_nil, List.nil_append, List.cons_append, List.append_assoc] at hk ⊢); exact ReadR.indexE1 (i := st) rfl rfl hasA hlt) ?_) | (refine gD 20 ?_; refine RGl.rdX (fun e hk => by (try dsimp only [bndR, ensR, oksR, fcutR, List.append_nil, List.nil_append, List.cons_append, List.append_assoc] at hk ⊢); exact ReadR.loadE rfl hasA hxv) ?_) | (refine gD 23 ?_; refine RGl.rdX (fun e hk => by (try dsimp only [bndR, ensR, oksR, fcutR, List.append_nil, List.nil_append, List.cons_append, List.append_assoc] at hk ⊢); exact ReadR.indexE1 (i := st) rfl rfl hasA hltb) ?_) | (refine gD 24 ?_; refine RGl.rdX (fun e hk => by (try dsimp only [bndR, ensR, oksR, fcutR, List.append_nil, List.nil_append, List.cons_append, List.append_assoc] at hk ⊢); exact ReadR.loadE rfl hasA hyv) ?_) | (refine gD 25 ?_; refine RGl.rdX (fun e hk => by (try dsimp only [bndR, ensR, oksR, fcutR, List.append_nil, List.nil_append, List.cons_append, List.append_assoc] at hk ⊢); exact ReadR.binE rfl rfl BinR.neq (congrArg Value.bool (decide_eq_false hxy))) ?_) | (refine gOp ?_; first | refine RGl.rdA ?_ | refine RGl.rdX (fun e hk => by (try dsimp only [bndR, ensR, oksR, fcutR, List.append_nil, List.nil_append, List.cons_append, List.append_assoc] at hk ⊢); exact readB) ?_) | (refine RGl.fin (fun e hk => ?_); (try dsimp only [bndA, ensAR, oksA, List.append_nil, List.nil_append, List.cons_append, List.append_assoc] at hk ⊢); (repeat (obtain ⟨hk1, hk⟩ := hk))) | fail)
         | (refine isCond ?_; first | refine WPc.cT ?_ | refine WPc.cF ?_ | (refine WPc.cQ (fun hc => ?_) (fun hc => ?_) <;> try first | exact prA | (exfalso; first | omega)))
         | (refine isD 19 ?_; refine WPl.rdX (ReadR.indexE1 (i := st) rfl rfl hasA hlt) ?_)
         | (refine isD 20 ?_; refine WPl.rdX (ReadR.loadE rfl hasA hxv) ?_)
         | (refine isD 23 ?_; refine WPl.rdX (ReadR.indexE1 (i := st) rfl rfl hasA hltb) ?_)
         | (refine isD 24 ?_; refine WPl.rdX (ReadR.loadE rfl hasA hyv) ?_)
         | (refine isD 25 ?_; refine WPl.rdX (ReadR.binE rfl rfl BinR.neq (congrArg Value.bool (decide_eq_false hxy))) ?_)
         | (refine isOp ?_; first | refine WPl.rd ?_ | refine WPl.sk ?_ | refine WPl.rdB ?_)
         | (show WPl _ _ _ _ _ _ _ (⟨_, .indexAddr _ _ _, _, _, _, _⟩ :: _) _; refine WPl.rdX (ReadR.indexE rfl rfl hasA (by first | assumption | omega)) ?_)
         | (show WPl _ _ _ _ _ _ _ (⟨_, .fieldAddr _ _ _, _, _, _, _⟩ :: _) _; refine WPl.rdX (ReadR.fieldE rfl hasA (by first | assumption | omega)) ?_)
         | (show WPl _ _ _ _ _ _ _ (⟨_, .load _ _, _, _, _, _⟩ :: _) _; first | refine WPl.rdX (ReadR.loadE rfl hasA (by assumption)) ?_ | refine WPl.rdX (ReadR.loadES (by assumption) (by first | assumption | omega) rfl hasA) ?_)
         | (show WPl _ _ _ _ _ _ _ (⟨_, .slice _ _ _ _ _, _, _, _, _⟩ :: _) _; first | refine WPl.rdX (ReadR.sliceH rfl rfl hasA (by omega)) ?_ | refine WPl.rdX (ReadR.sliceL rfl rfl hasA (by omega)) ?_ | refine WPl.rdX (ReadR.sliceLH rfl rfl rfl hasA (by omega) (by omega)) ?_)
         | (refine WPl.spQ (fun hc => ?_) (fun hc => ?_) <;> try first | exact prA | (exfalso; first | omega))
         | fail)
        refine WPq.rnd (st + 1) ⟨hlt, ?_⟩ (by omega)
        rw [List.take_add_one, List.take_add_one, hxe, hx1, hy1, show x = y from Decidable.of_not_not hxy]
    · have hab : a = b := by
        rw [List.take_of_length_le (by omega), List.take_of_length_le (by omega)] at hxe
        exact hxe
      rw [decide_eq_true hab]
      repeat' (first
       | refine WPl.nil ?_ | refine WPq.then ?_ | refine WPq.thenR ?_ | refine WPq.thenE ?_ | refine WPq.blockN ?_ | refine WPq.blockR ?_ | refine WPq.blockE ?_ | refine WPq.blockO rfl ?_ | refine WPc.seq ?_ | refine WPc.block ?_ | refine WPc.ret ?_ | refine WPc.exit ?_ | refine WPc.skip ?_ | refine WPc.region ?_
       | (refine isCond ?_; first | refine WPc.cT ?_ | refine WPc.cF ?_ | (refine WPc.cQ (fun hc => ?_) (fun hc => ?_) <;> try first | exact prA | (exfalso; first | omega)))
       | (refine isOp ?_; first | refine WPl.rd ?_ | refine WPl.sk ?_ | refine WPl.rdB ?_)
       | (show WPl _ _ _ _ _ _ _ (⟨_, .indexAddr _ _ _, _, _, _, _⟩ :: _) _; refine WPl.rdX (ReadR.indexE rfl rfl hasA (by first | assumption | omega)) ?_)
       | (show WPl _ _ _ _ _ _ _ (⟨_, .fieldAddr _ _ _, _, _, _, _⟩ :: _) _; refine WPl.rdX (ReadR.fieldE rfl hasA (by first | assumption | omega)) ?_)
       | (show WPl _ _ _ _ _ _ _ (⟨_, .load _ _, _, _, _, _⟩ :: _) _; first | refine WPl.rdX (ReadR.loadE rfl hasA (by assumption)) ?_ | refine WPl.rdX (ReadR.loadES (by assumption) (by first | assumption | omega) rfl hasA) ?_)
       | (show WPl _ _ _ _ _ _ _ (⟨_, .slice _ _ _ _ _, _, _, _, _⟩ :: _) _; first | refine WPl.rdX (ReadR.sliceH rfl rfl hasA (by omega)) ?_ | refine WPl.rdX (ReadR.sliceL rfl rfl hasA (by omega)) ?_ | refine WPl.rdX (ReadR.sliceLH rfl rfl rfl hasA (by omega) (by omega)) ?_)
       | (refine WPl.spQ (fun hc => ?_) (fun hc => ?_) <;> try first | exact prA | (exfalso; first | omega))
       | fail)
      exact WPq.dV
  · have hne : (a.length : Int) ≠ (b.length : Int) := by omega
    have hab : ¬ a = b := fun h9 => hl (by rw [h9])
    rw [decide_eq_false hab]
    refine Triple.enter Try.func23 rfl Try.ntmps23 rfl (fun W => ?_)
    dsimp only [argsF, Nat.reduceAdd]
    repeat' (first
     | refine WPl.nil ?_ | refine WPq.then ?_ | refine WPq.thenR ?_ | refine WPq.thenE ?_ | refine WPq.blockN ?_ | refine WPq.blockR ?_ | refine WPq.blockE ?_ | refine WPq.blockO rfl ?_ | refine WPc.seq ?_ | refine WPc.block ?_ | refine WPc.ret ?_ | refine WPc.exit ?_ | refine WPc.skip ?_ | refine WPc.region ?_
     | (refine isCond ?_; first | refine WPc.cT ?_ | refine WPc.cF ?_ | (refine WPc.cQ (fun hc => ?_) (fun hc => ?_) <;> try exact prA))
     | (refine isD 10 ?_; refine WPl.rdX (ReadR.binE rfl rfl BinR.neq (congrArg Value.bool (decide_eq_true hne))) ?_)
     | (refine isOp ?_; first | refine WPl.rd ?_ | refine WPl.sk ?_ | refine WPl.rdB ?_)
     | (show WPl _ _ _ _ _ _ _ (⟨_, .indexAddr _ _ _, _, _, _, _⟩ :: _) _; refine WPl.rdX (ReadR.indexE rfl rfl hasA (by first | assumption | omega)) ?_)
     | (show WPl _ _ _ _ _ _ _ (⟨_, .fieldAddr _ _ _, _, _, _, _⟩ :: _) _; refine WPl.rdX (ReadR.fieldE rfl hasA (by first | assumption | omega)) ?_)
     | (show WPl _ _ _ _ _ _ _ (⟨_, .load _ _, _, _, _, _⟩ :: _) _; first | refine WPl.rdX (ReadR.loadE rfl hasA (by assumption)) ?_ | refine WPl.rdX (ReadR.loadES (by assumption) (by first | assumption | omega) rfl hasA) ?_)
     | (show WPl _ _ _ _ _ _ _ (⟨_, .slice _ _ _ _ _, _, _, _, _⟩ :: _) _; first | refine WPl.rdX (ReadR.sliceH rfl rfl hasA (by omega)) ?_ | refine WPl.rdX (ReadR.sliceL rfl rfl hasA (by omega)) ?_ | refine WPl.rdX (ReadR.sliceLH rfl rfl rfl hasA (by omega) (by omega)) ?_)
     | (refine WPl.spQ (fun hc => ?_) (fun hc => ?_) <;> try exact prA)
     | fail)
    exact WPq.dV
end Go.Proofs.Ytepmikgjnmjheaa
