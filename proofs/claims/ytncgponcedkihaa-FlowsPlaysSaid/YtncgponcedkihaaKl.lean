/- Addresses and flows: which is less, as the document has it: contracts. -/
import Derived.Test.YtncgponcedkihaaFg
import Derived.Test.YtncgponcedkihaaJn
namespace Go.Proofs.Ytncgponcedkihaa
open Go.RowKit
set_option linter.unusedSimpArgs false
set_option linter.unusedVariables false
set_option maxRecDepth 20000
set_option maxHeartbeats 4000000
attribute [local irreducible] WPc WPl WPq ReadR OpT BinR HasS bx rdN rowN Take Takes Prov Triple ResF BuildP Done ag Int.decLt Int.decLe Int.instDecidableEq
open Go.Lib (compareInt compareBytes)
theorem cb_step {a b : List UInt8} {i : Nat} {p q : UInt8} (h1 : a[i]? = some p) (h2 : b[i]? = some q) : compareBytes (a.drop i) (b.drop i) = if p < q then -1 else if q < p then 1 else compareBytes (a.drop (i + 1)) (b.drop (i + 1)) := by
  obtain ⟨g1, e1⟩ := List.getElem?_eq_some_iff.1 h1
  obtain ⟨g2, e2⟩ := List.getElem?_eq_some_iff.1 h2
  rw [show a.drop i = p :: a.drop (i + 1) by rw [← e1, List.getElem_cons_drop], show b.drop i = q :: b.drop (i + 1) by rw [← e2, List.getElem_cons_drop]]
  rw [compareBytes]
theorem rless12_t (a b : Adr) : Triple Try.prog 97 #[ag (adc a), ag (adc b)] [] (RVal (.bool (adrLt a b))) := by
  have l1 := a.len
  have l2 := b.len
  by_cases hs : a.six = b.six
  · have hr : adrLt a b = decide (compareBytes a.b b.b < 0) := by unfold adrLt; rw [if_neg (by simp [hs])]
    rw [hr]
    have e1 : (a.six == b.six) = true := by simp [hs]
    refine Triple.enter Try.func97 rfl Try.ntmps97 rfl (fun W => ?_)
    dsimp only [argsF, Nat.reduceAdd]
    repeat' (first
     | refine WPl.nil ?_ | refine WPq.then ?_ | refine WPq.thenR ?_ | refine WPq.thenE ?_ | refine WPq.blockN ?_ | refine WPq.blockR ?_ | refine WPq.blockE ?_ | refine WPq.blockO rfl ?_ | refine WPc.seq ?_ | refine WPc.block ?_ | refine WPc.ret ?_ | refine WPc.exit ?_ | refine WPc.skip ?_ | refine WPc.region ?_
     | (refine isReg 6 ?_; refine WPc.drA [([], [18, 21, 22, 23, 24]), ([], [17, 21, 22, 23, 24]), ([0, 1], [17, 18, 21, 22, 23, 24]), ([0, 1, 2], [17, 18, 19, 21, 22, 23, 24]), ([], [17, 18, 19, 20, 22]), ([], [17, 18, 19, 20, 21]), ([4, 5], [17, 18, 19, 20, 21, 22]), ([4, 5, 6], [17, 18, 19, 20, 21, 22, 23]), ([0, 1, 2, 3, 4, 5, 6, 7], [17, 18, 19, 20, 21, 22, 23, 24])] [] (Γx := []) ?_; dsimp only [prev0, List.length_nil, List.length_cons])
     | (refine isReg 7 ?_; refine WPc.drA [([], [27, 30, 31, 32, 33]), ([], [26, 30, 31, 32, 33]), ([0, 1], [26, 27, 30, 31, 32, 33]), ([0, 1, 2], [26, 27, 28, 30, 31, 32, 33]), ([], [26, 27, 28, 29, 31]), ([], [26, 27, 28, 29, 30]), ([4, 5], [26, 27, 28, 29, 30, 31]), ([4, 5, 6], [26, 27, 28, 29, 30, 31, 32]), ([0, 1, 2, 3, 4, 5, 6, 7], [26, 27, 28, 29, 30, 31, 32, 33]), ([0, 1, 2, 3, 4, 5, 6, 7, 8], [26, 27, 28, 29, 30, 31, 32, 33, 34])] [] (Γx := []) ?_; dsimp only [prev0, List.length_nil, List.length_cons])
     | (refine gAny ?_; first | (refine gD 10 ?_; refine RGl.rdX (fun e hk => by (try dsimp only [bndR, ensR, oksR, fcutR, List.append_nil, List.nil_append, List.cons_append, List.append_assoc] at hk ⊢); exact ReadR.binE rfl rfl (BinR.neqB (by kernel_rfl)) (congrArg (fun q => Value.bool (!q)) e1)) ?_) | (refine gOp ?_; first | refine RGl.rdA ?_ | refine RGl.rdX (fun e hk => by (try dsimp only [bndR, ensR, oksR, fcutR, List.append_nil, List.nil_append, List.cons_append, List.append_assoc] at hk ⊢); exact readB) ?_) | (refine RGl.fin (fun e hk => ?_); (try dsimp only [bndA, ensAR, oksA, List.append_nil, List.nil_append, List.cons_append, List.append_assoc] at hk ⊢); (repeat (obtain ⟨hk1, hk⟩ := hk))) | fail)
     | (refine isCond ?_; first | refine WPc.cT ?_ | refine WPc.cF ?_ | (refine WPc.cQ (fun hc => ?_) (fun hc => ?_) <;> try exact prA))
     | (refine isD 2 ?_; first | (refine isAl ?_; refine WPl.nw fun g2 => ?_) | (refine isBx ?_; refine WPl.nw fun g2 => ?_))
     | (refine isD 3 ?_; first | (refine isAl ?_; refine WPl.nw fun g3 => ?_) | (refine isBx ?_; refine WPl.nw fun g3 => ?_))
     | (refine isD 10 ?_; refine WPl.rdX (ReadR.binE rfl rfl (BinR.neqB (by kernel_rfl)) (congrArg (fun q => Value.bool (!q)) e1)) ?_)
     | (refine isOp ?_; first | refine WPl.rd ?_ | refine WPl.sk ?_ | refine WPl.rdB ?_)
     | (refine isBx ?_; refine WPl.nw fun g => ?_)
     | (show WPl _ _ _ _ _ _ _ (⟨_, .indexAddr _ _ _, _, _, _, _⟩ :: _) _; refine WPl.rdX (ReadR.indexE rfl rfl hasA (by first | assumption | omega)) ?_)
     | (show WPl _ _ _ _ _ _ _ (⟨_, .fieldAddr _ _ _, _, _, _, _⟩ :: _) _; refine WPl.rdX (ReadR.fieldE rfl hasA (by first | assumption | omega)) ?_)
     | (show WPl _ _ _ _ _ _ _ (⟨_, .load _ _, _, _, _, _⟩ :: _) _; first | refine WPl.rdX (ReadR.loadE rfl hasA (by assumption)) ?_ | refine WPl.rdX (ReadR.loadES (by assumption) (by first | assumption | omega) rfl hasA) ?_)
     | (show WPl _ _ _ _ _ _ _ (⟨_, .slice _ _ _ _ _, _, _, _, _⟩ :: _) _; first | refine WPl.rdX (ReadR.sliceH rfl rfl hasA (by omega)) ?_ | refine WPl.rdX (ReadR.sliceL rfl rfl hasA (by omega)) ?_ | refine WPl.rdX (ReadR.sliceLH rfl rfl rfl hasA (by omega) (by omega)) ?_)
     | (refine WPl.spQ (fun hc => ?_) (fun hc => ?_) <;> try exact prA)
     | fail)
    first | refine WPc.loop (σ := Nat) (fun st => st ≤ 16 ∧ compareBytes a.b b.b = compareBytes (a.b.drop st) (b.b.drop st)) (fun st => [bx g2 32 (adc a), bx g3 32 (adc b)]) (fun st => [(2, .pointer (some ⟨g2, 0, none⟩)), (3, .pointer (some ⟨g3, 0, none⟩)), (5, .int .i64 (st : Int))]) (fun st => 16 - st) (0) ?_ takesA frsA (fun st km hx hk => ?_)
    · exact ⟨Nat.zero_le _, rfl⟩
    obtain ⟨i, rfl⟩ : ∃ i, i = st := ⟨_, rfl⟩
    obtain ⟨hi, hinv⟩ := hx
    have hkm : km = 16 - i := hk
    clear hk
    by_cases hlt : i < 16
    · obtain ⟨p, hp⟩ : ∃ p, a.b[i]? = some p := ⟨_, List.getElem?_eq_getElem (by omega)⟩
      obtain ⟨q, hq⟩ : ∃ q, b.b[i]? = some q := ⟨_, List.getElem?_eq_getElem (by omega)⟩
      have hst := cb_step hp hq
      have hgp : a.b.getD i 0 = p := by rw [List.getD_eq_getElem?_getD, hp]; rfl
      have hgq : b.b.getD i 0 = q := by rw [List.getD_eq_getElem?_getD, hq]; rfl
      have hlt' : (i : Int) < 16 := by omega
      repeat' (first
       | refine WPl.nil ?_ | refine WPq.then ?_ | refine WPq.thenR ?_ | refine WPq.thenE ?_ | refine WPq.blockN ?_ | refine WPq.blockR ?_ | refine WPq.blockE ?_ | refine WPq.blockO rfl ?_ | refine WPc.seq ?_ | refine WPc.block ?_ | refine WPc.ret ?_ | refine WPc.exit ?_ | refine WPc.skip ?_ | refine WPc.region ?_
       | (refine isReg 6 ?_; refine WPc.drA [([], [18, 21, 22, 23, 24]), ([], [17, 21, 22, 23, 24]), ([0, 1], [17, 18, 21, 22, 23, 24]), ([0, 1, 2], [17, 18, 19, 21, 22, 23, 24]), ([], [17, 18, 19, 20, 22]), ([], [17, 18, 19, 20, 21]), ([4, 5], [17, 18, 19, 20, 21, 22]), ([4, 5, 6], [17, 18, 19, 20, 21, 22, 23]), ([0, 1, 2, 3, 4, 5, 6, 7], [17, 18, 19, 20, 21, 22, 23, 24])] [] (Γx := []) ?_; dsimp only [prev0, List.length_nil, List.length_cons])
       | (refine isReg 7 ?_; refine WPc.drA [([], [27, 30, 31, 32, 33]), ([], [26, 30, 31, 32, 33]), ([0, 1], [26, 27, 30, 31, 32, 33]), ([0, 1, 2], [26, 27, 28, 30, 31, 32, 33]), ([], [26, 27, 28, 29, 31]), ([], [26, 27, 28, 29, 30]), ([4, 5], [26, 27, 28, 29, 30, 31]), ([4, 5, 6], [26, 27, 28, 29, 30, 31, 32]), ([0, 1, 2, 3, 4, 5, 6, 7], [26, 27, 28, 29, 30, 31, 32, 33]), ([0, 1, 2, 3, 4, 5, 6, 7, 8], [26, 27, 28, 29, 30, 31, 32, 33, 34])] [] (Γx := []) ?_; dsimp only [prev0, List.length_nil, List.length_cons])
       | (refine gAny ?_; first | (refine gD 14 ?_; refine RGl.rdX (fun e hk => by (try dsimp only [bndR, ensR, oksR, fcutR, List.append_nil, List.nil_append, List.cons_append, List.append_assoc] at hk ⊢); exact ReadR.binE rfl rfl BinR.lss (congrArg Value.bool (decide_eq_true hlt'))) ?_) | (refine gOp ?_; first | refine RGl.rdA ?_ | refine RGl.rdX (fun e hk => by (try dsimp only [bndR, ensR, oksR, fcutR, List.append_nil, List.nil_append, List.cons_append, List.append_assoc] at hk ⊢); exact readB) ?_) | (refine RGl.fin (fun e hk => ?_); (try dsimp only [bndA, ensAR, oksA, List.append_nil, List.nil_append, List.cons_append, List.append_assoc] at hk ⊢); (repeat (obtain ⟨hk1, hk⟩ := hk))) | fail)
       | (refine isCond ?_; first | refine WPc.cT ?_ | refine WPc.cF ?_ | (refine WPc.cQ (fun hc => ?_) (fun hc => ?_) <;> try exact prA))
       | (refine isD 14 ?_; refine WPl.rdX (ReadR.binE rfl rfl BinR.lss (congrArg Value.bool (decide_eq_true hlt'))) ?_)
       | (refine isOp ?_; first | refine WPl.rd ?_ | refine WPl.sk ?_ | refine WPl.rdB ?_)
       | (refine isBx ?_; refine WPl.nw fun g => ?_)
       | (show WPl _ _ _ _ _ _ _ (⟨_, .indexAddr _ _ _, _, _, _, _⟩ :: _) _; refine WPl.rdX (ReadR.indexE rfl rfl hasA (by first | assumption | omega)) ?_)
       | (show WPl _ _ _ _ _ _ _ (⟨_, .fieldAddr _ _ _, _, _, _, _⟩ :: _) _; refine WPl.rdX (ReadR.fieldE rfl hasA (by first | assumption | omega)) ?_)
       | (show WPl _ _ _ _ _ _ _ (⟨_, .load _ _, _, _, _, _⟩ :: _) _; first | refine WPl.rdX (ReadR.loadE rfl hasA (by assumption)) ?_ | refine WPl.rdX (ReadR.loadES (by assumption) (by first | assumption | omega) rfl hasA) ?_)
       | (show WPl _ _ _ _ _ _ _ (⟨_, .slice _ _ _ _ _, _, _, _, _⟩ :: _) _; first | refine WPl.rdX (ReadR.sliceH rfl rfl hasA (by omega)) ?_ | refine WPl.rdX (ReadR.sliceL rfl rfl hasA (by omega)) ?_ | refine WPl.rdX (ReadR.sliceLH rfl rfl rfl hasA (by omega) (by omega)) ?_)
       | (refine WPl.spQ (fun hc => ?_) (fun hc => ?_) <;> try exact prA)
       | fail)
      · have hne : ¬ p = q := fun e => hc (by rw [hgp, hgq, e])
        refine WPq.dV (hc := ?_)
        rw [hinv, hst]
        show Value.bool _ = _
        rw [hgp, hgq]
        by_cases h1 : p < q
        · rw [if_pos h1, decide_eq_true (by have := UInt8.lt_iff_toNat_lt.1 h1; omega)]; simp
        · rw [if_neg h1, if_pos (by
            rw [UInt8.lt_iff_toNat_lt] at h1 ⊢
            have : p.toNat ≠ q.toNat := fun e => hne (UInt8.toNat_inj.1 e)
            omega), decide_eq_false (by rw [UInt8.lt_iff_toNat_lt] at h1; omega)]; simp
      · have he : p = q := by
          rw [hgp, hgq] at hc
          exact UInt8.toNat_inj.1 (by omega)
        subst he
        exact WPq.rnd (i + 1) ⟨by omega, by rw [hinv, hst, if_neg (UInt8.lt_irrefl p), if_neg (UInt8.lt_irrefl p)]⟩ (by omega)
    · have hlt' : ¬ (i : Int) < 16 := by omega
      have hz : compareBytes a.b b.b = 0 := by rw [hinv, List.drop_of_length_le (by omega), List.drop_of_length_le (by omega)]; rfl
      repeat' (first
       | refine WPl.nil ?_ | refine WPq.then ?_ | refine WPq.thenR ?_ | refine WPq.thenE ?_ | refine WPq.blockN ?_ | refine WPq.blockR ?_ | refine WPq.blockE ?_ | refine WPq.blockO rfl ?_ | refine WPc.seq ?_ | refine WPc.block ?_ | refine WPc.ret ?_ | refine WPc.exit ?_ | refine WPc.skip ?_ | refine WPc.region ?_
       | (refine isReg 6 ?_; refine WPc.drA [([], [18, 21, 22, 23, 24]), ([], [17, 21, 22, 23, 24]), ([0, 1], [17, 18, 21, 22, 23, 24]), ([0, 1, 2], [17, 18, 19, 21, 22, 23, 24]), ([], [17, 18, 19, 20, 22]), ([], [17, 18, 19, 20, 21]), ([4, 5], [17, 18, 19, 20, 21, 22]), ([4, 5, 6], [17, 18, 19, 20, 21, 22, 23]), ([0, 1, 2, 3, 4, 5, 6, 7], [17, 18, 19, 20, 21, 22, 23, 24])] [] (Γx := []) ?_; dsimp only [prev0, List.length_nil, List.length_cons])
       | (refine isReg 7 ?_; refine WPc.drA [([], [27, 30, 31, 32, 33]), ([], [26, 30, 31, 32, 33]), ([0, 1], [26, 27, 30, 31, 32, 33]), ([0, 1, 2], [26, 27, 28, 30, 31, 32, 33]), ([], [26, 27, 28, 29, 31]), ([], [26, 27, 28, 29, 30]), ([4, 5], [26, 27, 28, 29, 30, 31]), ([4, 5, 6], [26, 27, 28, 29, 30, 31, 32]), ([0, 1, 2, 3, 4, 5, 6, 7], [26, 27, 28, 29, 30, 31, 32, 33]), ([0, 1, 2, 3, 4, 5, 6, 7, 8], [26, 27, 28, 29, 30, 31, 32, 33, 34])] [] (Γx := []) ?_; dsimp only [prev0, List.length_nil, List.length_cons])
       | (refine gAny ?_; first | (refine gD 14 ?_; refine RGl.rdX (fun e hk => by (try dsimp only [bndR, ensR, oksR, fcutR, List.append_nil, List.nil_append, List.cons_append, List.append_assoc] at hk ⊢); exact ReadR.binE rfl rfl BinR.lss (congrArg Value.bool (decide_eq_false hlt'))) ?_) | (refine gOp ?_; first | refine RGl.rdA ?_ | refine RGl.rdX (fun e hk => by (try dsimp only [bndR, ensR, oksR, fcutR, List.append_nil, List.nil_append, List.cons_append, List.append_assoc] at hk ⊢); exact readB) ?_) | (refine RGl.fin (fun e hk => ?_); (try dsimp only [bndA, ensAR, oksA, List.append_nil, List.nil_append, List.cons_append, List.append_assoc] at hk ⊢); (repeat (obtain ⟨hk1, hk⟩ := hk))) | fail)
       | (refine isCond ?_; first | refine WPc.cT ?_ | refine WPc.cF ?_ | (refine WPc.cQ (fun hc => ?_) (fun hc => ?_) <;> try exact prA))
       | (refine isD 14 ?_; refine WPl.rdX (ReadR.binE rfl rfl BinR.lss (congrArg Value.bool (decide_eq_false hlt'))) ?_)
       | (refine isOp ?_; first | refine WPl.rd ?_ | refine WPl.sk ?_ | refine WPl.rdB ?_)
       | (refine isBx ?_; refine WPl.nw fun g => ?_)
       | (show WPl _ _ _ _ _ _ _ (⟨_, .indexAddr _ _ _, _, _, _, _⟩ :: _) _; refine WPl.rdX (ReadR.indexE rfl rfl hasA (by first | assumption | omega)) ?_)
       | (show WPl _ _ _ _ _ _ _ (⟨_, .fieldAddr _ _ _, _, _, _, _⟩ :: _) _; refine WPl.rdX (ReadR.fieldE rfl hasA (by first | assumption | omega)) ?_)
       | (show WPl _ _ _ _ _ _ _ (⟨_, .load _ _, _, _, _, _⟩ :: _) _; first | refine WPl.rdX (ReadR.loadE rfl hasA (by assumption)) ?_ | refine WPl.rdX (ReadR.loadES (by assumption) (by first | assumption | omega) rfl hasA) ?_)
       | (show WPl _ _ _ _ _ _ _ (⟨_, .slice _ _ _ _ _, _, _, _, _⟩ :: _) _; first | refine WPl.rdX (ReadR.sliceH rfl rfl hasA (by omega)) ?_ | refine WPl.rdX (ReadR.sliceL rfl rfl hasA (by omega)) ?_ | refine WPl.rdX (ReadR.sliceLH rfl rfl rfl hasA (by omega) (by omega)) ?_)
       | (refine WPl.spQ (fun hc => ?_) (fun hc => ?_) <;> try exact prA)
       | fail)
      refine WPq.dV (hc := ?_)
      rw [hz]; simp [resV]
  · have hr : adrLt a b = b.six := by unfold adrLt; rw [if_pos hs]
    rw [hr]
    have e1 : (a.six == b.six) = false := by simpa using hs
    refine Triple.enter Try.func97 rfl Try.ntmps97 rfl (fun W => ?_)
    dsimp only [argsF, Nat.reduceAdd]
    repeat' (first
     | refine WPl.nil ?_ | refine WPq.then ?_ | refine WPq.thenR ?_ | refine WPq.thenE ?_ | refine WPq.blockN ?_ | refine WPq.blockR ?_ | refine WPq.blockE ?_ | refine WPq.blockO rfl ?_ | refine WPc.seq ?_ | refine WPc.block ?_ | refine WPc.ret ?_ | refine WPc.exit ?_ | refine WPc.skip ?_ | refine WPc.region ?_
     | (refine isReg 6 ?_; refine WPc.drA [([], [18, 21, 22, 23, 24]), ([], [17, 21, 22, 23, 24]), ([0, 1], [17, 18, 21, 22, 23, 24]), ([0, 1, 2], [17, 18, 19, 21, 22, 23, 24]), ([], [17, 18, 19, 20, 22]), ([], [17, 18, 19, 20, 21]), ([4, 5], [17, 18, 19, 20, 21, 22]), ([4, 5, 6], [17, 18, 19, 20, 21, 22, 23]), ([0, 1, 2, 3, 4, 5, 6, 7], [17, 18, 19, 20, 21, 22, 23, 24])] [] (Γx := []) ?_; dsimp only [prev0, List.length_nil, List.length_cons])
     | (refine isReg 7 ?_; refine WPc.drA [([], [27, 30, 31, 32, 33]), ([], [26, 30, 31, 32, 33]), ([0, 1], [26, 27, 30, 31, 32, 33]), ([0, 1, 2], [26, 27, 28, 30, 31, 32, 33]), ([], [26, 27, 28, 29, 31]), ([], [26, 27, 28, 29, 30]), ([4, 5], [26, 27, 28, 29, 30, 31]), ([4, 5, 6], [26, 27, 28, 29, 30, 31, 32]), ([0, 1, 2, 3, 4, 5, 6, 7], [26, 27, 28, 29, 30, 31, 32, 33]), ([0, 1, 2, 3, 4, 5, 6, 7, 8], [26, 27, 28, 29, 30, 31, 32, 33, 34])] [] (Γx := []) ?_; dsimp only [prev0, List.length_nil, List.length_cons])
     | (refine gAny ?_; first | (refine gD 10 ?_; refine RGl.rdX (fun e hk => by (try dsimp only [bndR, ensR, oksR, fcutR, List.append_nil, List.nil_append, List.cons_append, List.append_assoc] at hk ⊢); exact ReadR.binE rfl rfl (BinR.neqB (by kernel_rfl)) (congrArg (fun q => Value.bool (!q)) e1)) ?_) | (refine gOp ?_; first | refine RGl.rdA ?_ | refine RGl.rdX (fun e hk => by (try dsimp only [bndR, ensR, oksR, fcutR, List.append_nil, List.nil_append, List.cons_append, List.append_assoc] at hk ⊢); exact readB) ?_) | (refine RGl.fin (fun e hk => ?_); (try dsimp only [bndA, ensAR, oksA, List.append_nil, List.nil_append, List.cons_append, List.append_assoc] at hk ⊢); (repeat (obtain ⟨hk1, hk⟩ := hk))) | fail)
     | (refine isCond ?_; first | refine WPc.cT ?_ | refine WPc.cF ?_ | (refine WPc.cQ (fun hc => ?_) (fun hc => ?_) <;> try exact prA))
     | (refine isD 10 ?_; refine WPl.rdX (ReadR.binE rfl rfl (BinR.neqB (by kernel_rfl)) (congrArg (fun q => Value.bool (!q)) e1)) ?_)
     | (refine isOp ?_; first | refine WPl.rd ?_ | refine WPl.sk ?_ | refine WPl.rdB ?_)
     | (refine isBx ?_; refine WPl.nw fun g => ?_)
     | (show WPl _ _ _ _ _ _ _ (⟨_, .indexAddr _ _ _, _, _, _, _⟩ :: _) _; refine WPl.rdX (ReadR.indexE rfl rfl hasA (by first | assumption | omega)) ?_)
     | (show WPl _ _ _ _ _ _ _ (⟨_, .fieldAddr _ _ _, _, _, _, _⟩ :: _) _; refine WPl.rdX (ReadR.fieldE rfl hasA (by first | assumption | omega)) ?_)
     | (show WPl _ _ _ _ _ _ _ (⟨_, .load _ _, _, _, _, _⟩ :: _) _; first | refine WPl.rdX (ReadR.loadE rfl hasA (by assumption)) ?_ | refine WPl.rdX (ReadR.loadES (by assumption) (by first | assumption | omega) rfl hasA) ?_)
     | (show WPl _ _ _ _ _ _ _ (⟨_, .slice _ _ _ _ _, _, _, _, _⟩ :: _) _; first | refine WPl.rdX (ReadR.sliceH rfl rfl hasA (by omega)) ?_ | refine WPl.rdX (ReadR.sliceL rfl rfl hasA (by omega)) ?_ | refine WPl.rdX (ReadR.sliceLH rfl rfl rfl hasA (by omega) (by omega)) ?_)
     | (refine WPl.spQ (fun hc => ?_) (fun hc => ?_) <;> try exact prA)
     | fail)
    exact WPq.dV
theorem flLt45 {a b : Fl} (h : a.proto = b.proto) (h2 : a.src = b.src) (h3 : a.dst = b.dst) (ha : flW a) (hb : flW b) : flLt a b = decide ((a.sp : Int) * 65536 + (a.dp : Int) < (b.sp : Int) * 65536 + (b.dp : Int)) := by
  obtain ⟨a1, a2⟩ := ha
  obtain ⟨b1, b2⟩ := hb
  by_cases h4 : (a.sp : Int) = (b.sp : Int)
  · rw [flLt5 h h2 h3 h4]; exact decide_eq_decide.2 (by omega)
  · rw [flLt4 h h2 h3 h4]; exact decide_eq_decide.2 (by omega)
theorem rfless_t (a b : Fl) (ha : flW a) (hb : flW b) : Triple Try.prog 88 #[ag (flc a), ag (flc b)] [] (RVal (.bool (flLt a b))) := by
  have l1 := a.src.len
  have l2 := a.dst.len
  have l3 := b.src.len
  have l4 := b.dst.len
  have w1 := ha.1
  have w2 := ha.2
  have w3 := hb.1
  have w4 := hb.2
  have c1 := rless12_t a.src b.src
  have c2 := rless12_t a.dst b.dst
  by_cases h1 : a.proto = b.proto
  · have e1 : (!decide ((a.proto.toNat : Int) = (b.proto.toNat : Int))) = false := by rw [h1]; simp
    by_cases h2 : a.src = b.src
    · have e2 : (!decide (a.src = b.src)) = false := by simp [h2]
      by_cases h3 : a.dst = b.dst
      · have e3 : (!decide (a.dst = b.dst)) = false := by simp [h3]
        rw [flLt45 h1 h2 h3 ha hb]
        refine Triple.enter Try.func88 rfl Try.ntmps88 rfl (fun W => ?_)
        dsimp only [argsF, Nat.reduceAdd]
        repeat' (first
         | refine WPl.nil ?_ | refine WPq.then ?_ | refine WPq.thenR ?_ | refine WPq.thenE ?_ | refine WPq.blockN ?_ | refine WPq.blockR ?_ | refine WPq.blockE ?_ | refine WPq.blockO rfl ?_ | refine WPc.seq ?_ | refine WPc.block ?_ | refine WPc.ret ?_ | refine WPc.exit ?_ | refine WPc.skip ?_ | refine WPc.region ?_
         | (refine isCond ?_; first | refine WPc.cT ?_ | refine WPc.cF ?_ | (refine WPc.cQ (fun hc => ?_) (fun hc => ?_) <;> try exact prA))
         | (refine isD 9 ?_; refine WPl.rdX (ReadR.binE rfl rfl BinR.neq (congrArg Value.bool e1)) ?_)
         | (refine isD 19 ?_; refine WPl.rdX (ReadR.binE rfl rfl BinR.adN (congrArg Value.bool e2)) ?_)
         | (refine isD 29 ?_; refine WPl.rdX (ReadR.binE rfl rfl BinR.adN (congrArg Value.bool e3)) ?_)
         | (refine isD 38 ?_; refine WPl.rdX (ReadR.binE rfl rfl (BinR.mulK (by simp only [kmin]; omega) (by simp only [kmax]; omega)) rfl) ?_)
         | (refine isD 46 ?_; refine WPl.rdX (ReadR.binE rfl rfl (BinR.mulK (by simp only [kmin]; omega) (by simp only [kmax]; omega)) rfl) ?_)
         | (refine isD 42 ?_; refine WPl.rdX (ReadR.binE rfl rfl (BinR.addK (by simp only [kmin]; omega) (by simp only [kmax]; omega)) rfl) ?_)
         | (refine isD 50 ?_; refine WPl.rdX (ReadR.binE rfl rfl (BinR.addK (by simp only [kmin]; omega) (by simp only [kmax]; omega)) rfl) ?_)
         | (refine isOp ?_; first | refine WPl.rd ?_ | refine WPl.sk ?_ | refine WPl.rdB ?_)
         | (refine isBx ?_; refine WPl.nw fun g => ?_)
         | (show WPl _ _ _ _ _ _ _ (⟨_, .indexAddr _ _ _, _, _, _, _⟩ :: _) _; refine WPl.rdX (ReadR.indexE rfl rfl hasA (by first | assumption | omega)) ?_)
         | (show WPl _ _ _ _ _ _ _ (⟨_, .fieldAddr _ _ _, _, _, _, _⟩ :: _) _; refine WPl.rdX (ReadR.fieldE rfl hasA (by first | assumption | omega)) ?_)
         | (show WPl _ _ _ _ _ _ _ (⟨_, .load _ _, _, _, _, _⟩ :: _) _; first | refine WPl.rdX (ReadR.loadE rfl hasA (by assumption)) ?_ | refine WPl.rdX (ReadR.loadES (by assumption) (by first | assumption | omega) rfl hasA) ?_)
         | (show WPl _ _ _ _ _ _ _ (⟨_, .slice _ _ _ _ _, _, _, _, _⟩ :: _) _; first | refine WPl.rdX (ReadR.sliceH rfl rfl hasA (by omega)) ?_ | refine WPl.rdX (ReadR.sliceL rfl rfl hasA (by omega)) ?_ | refine WPl.rdX (ReadR.sliceLH rfl rfl rfl hasA (by omega) (by omega)) ?_)
         | (refine WPl.spQ (fun hc => ?_) (fun hc => ?_) <;> try exact prA)
         | fail)
        exact WPq.dV
      · rw [flLt3 h1 h2 h3]
        have e3 : (!decide (a.dst = b.dst)) = true := by simp [h3]
        refine Triple.enter Try.func88 rfl Try.ntmps88 rfl (fun W => ?_)
        dsimp only [argsF, Nat.reduceAdd]
        repeat' (first
         | refine WPl.nil ?_ | refine WPq.then ?_ | refine WPq.thenR ?_ | refine WPq.thenE ?_ | refine WPq.blockN ?_ | refine WPq.blockR ?_ | refine WPq.blockE ?_ | refine WPq.blockO rfl ?_ | refine WPc.seq ?_ | refine WPc.block ?_ | refine WPc.ret ?_ | refine WPc.exit ?_ | refine WPc.skip ?_ | refine WPc.region ?_
         | (refine isCond ?_; first | refine WPc.cT ?_ | refine WPc.cF ?_ | (refine WPc.cQ (fun hc => ?_) (fun hc => ?_) <;> try exact prA))
         | (refine isD 9 ?_; refine WPl.rdX (ReadR.binE rfl rfl BinR.neq (congrArg Value.bool e1)) ?_)
         | (refine isD 19 ?_; refine WPl.rdX (ReadR.binE rfl rfl BinR.adN (congrArg Value.bool e2)) ?_)
         | (refine isD 29 ?_; refine WPl.rdX (ReadR.binE rfl rfl BinR.adN (congrArg Value.bool e3)) ?_)
         | (refine isC 34 ?_; refine WPl.cV (c2) ?_)
         | (refine isOp ?_; first | refine WPl.rd ?_ | refine WPl.sk ?_ | refine WPl.rdB ?_)
         | (refine isBx ?_; refine WPl.nw fun g => ?_)
         | (show WPl _ _ _ _ _ _ _ (⟨_, .indexAddr _ _ _, _, _, _, _⟩ :: _) _; refine WPl.rdX (ReadR.indexE rfl rfl hasA (by first | assumption | omega)) ?_)
         | (show WPl _ _ _ _ _ _ _ (⟨_, .fieldAddr _ _ _, _, _, _, _⟩ :: _) _; refine WPl.rdX (ReadR.fieldE rfl hasA (by first | assumption | omega)) ?_)
         | (show WPl _ _ _ _ _ _ _ (⟨_, .load _ _, _, _, _, _⟩ :: _) _; first | refine WPl.rdX (ReadR.loadE rfl hasA (by assumption)) ?_ | refine WPl.rdX (ReadR.loadES (by assumption) (by first | assumption | omega) rfl hasA) ?_)
         | (show WPl _ _ _ _ _ _ _ (⟨_, .slice _ _ _ _ _, _, _, _, _⟩ :: _) _; first | refine WPl.rdX (ReadR.sliceH rfl rfl hasA (by omega)) ?_ | refine WPl.rdX (ReadR.sliceL rfl rfl hasA (by omega)) ?_ | refine WPl.rdX (ReadR.sliceLH rfl rfl rfl hasA (by omega) (by omega)) ?_)
         | (refine WPl.spQ (fun hc => ?_) (fun hc => ?_) <;> try exact prA)
         | fail)
        exact WPq.dV
    · rw [flLt2 h1 h2]
      have e2 : (!decide (a.src = b.src)) = true := by simp [h2]
      refine Triple.enter Try.func88 rfl Try.ntmps88 rfl (fun W => ?_)
      dsimp only [argsF, Nat.reduceAdd]
      repeat' (first
       | refine WPl.nil ?_ | refine WPq.then ?_ | refine WPq.thenR ?_ | refine WPq.thenE ?_ | refine WPq.blockN ?_ | refine WPq.blockR ?_ | refine WPq.blockE ?_ | refine WPq.blockO rfl ?_ | refine WPc.seq ?_ | refine WPc.block ?_ | refine WPc.ret ?_ | refine WPc.exit ?_ | refine WPc.skip ?_ | refine WPc.region ?_
       | (refine isCond ?_; first | refine WPc.cT ?_ | refine WPc.cF ?_ | (refine WPc.cQ (fun hc => ?_) (fun hc => ?_) <;> try exact prA))
       | (refine isD 9 ?_; refine WPl.rdX (ReadR.binE rfl rfl BinR.neq (congrArg Value.bool e1)) ?_)
       | (refine isD 19 ?_; refine WPl.rdX (ReadR.binE rfl rfl BinR.adN (congrArg Value.bool e2)) ?_)
       | (refine isC 24 ?_; refine WPl.cV (c1) ?_)
       | (refine isOp ?_; first | refine WPl.rd ?_ | refine WPl.sk ?_ | refine WPl.rdB ?_)
       | (refine isBx ?_; refine WPl.nw fun g => ?_)
       | (show WPl _ _ _ _ _ _ _ (⟨_, .indexAddr _ _ _, _, _, _, _⟩ :: _) _; refine WPl.rdX (ReadR.indexE rfl rfl hasA (by first | assumption | omega)) ?_)
       | (show WPl _ _ _ _ _ _ _ (⟨_, .fieldAddr _ _ _, _, _, _, _⟩ :: _) _; refine WPl.rdX (ReadR.fieldE rfl hasA (by first | assumption | omega)) ?_)
       | (show WPl _ _ _ _ _ _ _ (⟨_, .load _ _, _, _, _, _⟩ :: _) _; first | refine WPl.rdX (ReadR.loadE rfl hasA (by assumption)) ?_ | refine WPl.rdX (ReadR.loadES (by assumption) (by first | assumption | omega) rfl hasA) ?_)
       | (show WPl _ _ _ _ _ _ _ (⟨_, .slice _ _ _ _ _, _, _, _, _⟩ :: _) _; first | refine WPl.rdX (ReadR.sliceH rfl rfl hasA (by omega)) ?_ | refine WPl.rdX (ReadR.sliceL rfl rfl hasA (by omega)) ?_ | refine WPl.rdX (ReadR.sliceLH rfl rfl rfl hasA (by omega) (by omega)) ?_)
       | (refine WPl.spQ (fun hc => ?_) (fun hc => ?_) <;> try exact prA)
       | fail)
      exact WPq.dV
  · rw [flLt1 h1]
    have h1' : (a.proto.toNat : Int) ≠ (b.proto.toNat : Int) := fun e => h1 (UInt8.toNat_inj.1 (by omega))
    have e1 : (!decide ((a.proto.toNat : Int) = (b.proto.toNat : Int))) = true := by simpa using h1'
    refine Triple.enter Try.func88 rfl Try.ntmps88 rfl (fun W => ?_)
    dsimp only [argsF, Nat.reduceAdd]
    repeat' (first
     | refine WPl.nil ?_ | refine WPq.then ?_ | refine WPq.thenR ?_ | refine WPq.thenE ?_ | refine WPq.blockN ?_ | refine WPq.blockR ?_ | refine WPq.blockE ?_ | refine WPq.blockO rfl ?_ | refine WPc.seq ?_ | refine WPc.block ?_ | refine WPc.ret ?_ | refine WPc.exit ?_ | refine WPc.skip ?_ | refine WPc.region ?_
     | (refine isCond ?_; first | refine WPc.cT ?_ | refine WPc.cF ?_ | (refine WPc.cQ (fun hc => ?_) (fun hc => ?_) <;> try exact prA))
     | (refine isD 9 ?_; refine WPl.rdX (ReadR.binE rfl rfl BinR.neq (congrArg Value.bool e1)) ?_)
     | (refine isOp ?_; first | refine WPl.rd ?_ | refine WPl.sk ?_ | refine WPl.rdB ?_)
     | (refine isBx ?_; refine WPl.nw fun g => ?_)
     | (show WPl _ _ _ _ _ _ _ (⟨_, .indexAddr _ _ _, _, _, _, _⟩ :: _) _; refine WPl.rdX (ReadR.indexE rfl rfl hasA (by first | assumption | omega)) ?_)
     | (show WPl _ _ _ _ _ _ _ (⟨_, .fieldAddr _ _ _, _, _, _, _⟩ :: _) _; refine WPl.rdX (ReadR.fieldE rfl hasA (by first | assumption | omega)) ?_)
     | (show WPl _ _ _ _ _ _ _ (⟨_, .load _ _, _, _, _, _⟩ :: _) _; first | refine WPl.rdX (ReadR.loadE rfl hasA (by assumption)) ?_ | refine WPl.rdX (ReadR.loadES (by assumption) (by first | assumption | omega) rfl hasA) ?_)
     | (show WPl _ _ _ _ _ _ _ (⟨_, .slice _ _ _ _ _, _, _, _, _⟩ :: _) _; first | refine WPl.rdX (ReadR.sliceH rfl rfl hasA (by omega)) ?_ | refine WPl.rdX (ReadR.sliceL rfl rfl hasA (by omega)) ?_ | refine WPl.rdX (ReadR.sliceLH rfl rfl rfl hasA (by omega) (by omega)) ?_)
     | (refine WPl.spQ (fun hc => ?_) (fun hc => ?_) <;> try exact prA)
     | fail)
    exact WPq.dV
end Go.Proofs.Ytncgponcedkihaa
