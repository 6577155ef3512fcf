/- Layer 38 (topk): what it holds; how clients are ordered: contracts. -/
import Derived.Test.YtncgponcedkihaaKb
import Derived.Test.YtncgponcedkihaaMe
import Derived.Test.YtncgponcedkihaaPx
namespace Go.Proofs.Ytncgponcedkihaa
open Go.RowKit
set_option linter.unusedSimpArgs false
set_option linter.unusedVariables false
set_option maxRecDepth 20000
set_option maxHeartbeats 4000000
attribute [local irreducible] WPc WPl WPq ReadR OpT BinR HasS bx rdN rowN Take Takes Prov Triple ResF BuildP Done ag Int.decLt Int.decLe Int.instDecidableEq
open Go.Lib (compareInt compareBytes)
/-- A client that is counted. -/
structure Hy where
  p : Pf
  c : Int
  o : Int
instance : Inhabited Hy := ⟨⟨(Adr.zero, 0), 0, 0⟩⟩
def Hy.zero : Hy := ⟨(Adr.zero, 0), 0, 0⟩
abbrev hyc (h : Hy) : Ch := [(1, [.bool h.p.1.six]), (16, u8s h.p.1.b), (1, [.int .i64 h.p.2]), (1, [.int .u64 h.c]), (1, [.int .u64 h.o])]
theorem hyc_len (h : Hy) : (flat (hyc h)).length = 20 := by simp [flat_eq, h.p.1.len, u8s_length]
theorem hyc_fok (h : Hy) : FOk (hyc h) := by
  have := h.p.1.len
  exact fokA
def pfC : Pf → Pf → Int := lexC (fun a b => adrC a.1 b.1) (fun a b => compareInt a.2 b.2)
theorem TC.pf : TC pfC := TC.lex (TC.adr.pull Prod.fst) (TC.int.pull Prod.snd)
theorem pf_zero {a b : Pf} (h : pfC a b = 0) : a = b := by
  unfold pfC lexC at h
  dsimp only at h
  by_cases h1 : adrC a.1 b.1 = 0
  · rw [if_neg (by rw [h1]; simp)] at h
    have h2 : a.2 = b.2 := by unfold compareInt at h; (repeat' split at h) <;> omega
    exact Prod.ext (adr_zero h1) h2
  · rw [if_pos h1] at h; exact absurd h h1
/-- The code's own number: -1, 0, 1 for addresses. -/
def pfO (a b : Pf) : Int := if adrLt a.1 b.1 then -1 else if adrLt b.1 a.1 then 1 else compareInt a.2 b.2
theorem pfO_sign {a b : Pf} : (pfO a b < 0 ↔ pfC a b < 0) ∧ (pfO a b = 0 ↔ pfC a b = 0) := by
  have e1 := adrLt_iff (a := a.1) (b := b.1)
  have e2 := adrLt_iff (a := b.1) (b := a.1)
  have f := TC.adr.flip a.1 b.1
  have f2 := TC.adr.flip b.1 a.1
  unfold pfO pfC lexC
  dsimp only
  by_cases h1 : adrLt a.1 b.1 = true
  · rw [if_pos h1, if_pos (by have := e1.1 h1; omega)]
    have := e1.1 h1
    omega
  · rw [if_neg h1]
    by_cases h2 : adrLt b.1 a.1 = true
    · rw [if_pos h2, if_pos (by have := e2.1 h2; omega)]
      have := e2.1 h2
      omega
    · rw [if_neg h2, if_neg (by
        intro h3
        have g1 : ¬ adrC a.1 b.1 < 0 := fun h => h1 (e1.2 h)
        have g2 : ¬ adrC b.1 a.1 < 0 := fun h => h2 (e2.2 h)
        omega)]
      exact ⟨Iff.rfl, Iff.rfl⟩
theorem TC.of {α : Type} {f g : α → α → Int} (h : TC g) (hs : ∀ x y, (f x y < 0 ↔ g x y < 0) ∧ (f x y = 0 ↔ g x y = 0)) : TC f := by
  constructor
  · intro x y
    have a1 := hs x y
    have a2 := hs y x
    have b1 := h.flip x y
    have b2 := h.flip y x
    omega
  · intro x y z
    have a1 := hs x y
    have a2 := hs y z
    have a3 := hs x z
    have b1 := h.trans x y z
    omega
theorem TC.pfO : TC pfO := TC.of TC.pf (fun _ _ => pfO_sign)
def falC : Hy → Hy → Int := fun a b => if compareInt b.c a.c ≠ 0 then compareInt b.c a.c else Go.Proofs.Ytncgponcedkihaa.pfO a.p b.p
theorem TC.fal : TC falC := TC.lex (f := fun a b : Hy => compareInt b.c a.c) (g := fun a b => Go.Proofs.Ytncgponcedkihaa.pfO a.p b.p) ((TC.int.pull Hy.c).swap) (TC.pfO.pull Hy.p)
theorem order_t (a b : Pf) : Triple Try.prog 94 #[ag (pfc a), ag (pfc b)] [] (RVal (.int .i64 (pfO a b))) := by
  have l1 := a.1.len
  have l2 := b.1.len
  have c1 := less_t a.1 b.1
  have c2 := less_t b.1 a.1
  have c3 := cmpI_t a.2 b.2
  unfold pfO
  refine Triple.enter Try.func94 rfl Try.ntmps94 rfl (fun W => ?_)
  dsimp only [argsF, Nat.reduceAdd]
  repeat' (first
   | refine WPl.nil ?_ | refine WPq.then ?_ | refine WPq.thenR ?_ | refine WPq.thenE ?_ | refine WPq.blockN ?_ | refine WPq.blockR ?_ | refine WPq.blockE ?_ | refine WPq.blockO rfl ?_ | refine WPc.seq ?_ | refine WPc.block ?_ | refine WPc.ret ?_ | refine WPc.exit ?_ | refine WPc.skip ?_ | refine WPc.region ?_
   | (refine isCond ?_; first | refine WPc.cT ?_ | refine WPc.cF ?_ | (refine WPc.cQ (fun hc => ?_) (fun hc => ?_) <;> try exact prA))
   | (refine isC 10 ?_; refine WPl.cV (c1) ?_)
   | (refine isC 16 ?_; refine WPl.cV (c2) ?_)
   | (refine isC 21 ?_; refine WPl.cV (c3) ?_)
   | (refine isOp ?_; first | refine WPl.rd ?_ | refine WPl.sk ?_ | refine WPl.rdB ?_)
   | (refine isBx ?_; refine WPl.nw fun g => ?_)
   | (show WPl _ _ _ _ _ _ _ (⟨_, .indexAddr _ _ _, _, _, _, _⟩ :: _) _; refine WPl.rdX (ReadR.indexE rfl rfl hasA (by first | assumption | omega)) ?_)
   | (show WPl _ _ _ _ _ _ _ (⟨_, .fieldAddr _ _ _, _, _, _, _⟩ :: _) _; refine WPl.rdX (ReadR.fieldE rfl hasA (by first | assumption | omega)) ?_)
   | (show WPl _ _ _ _ _ _ _ (⟨_, .load _ _, _, _, _, _⟩ :: _) _; first | refine WPl.rdX (ReadR.loadE rfl hasA (by assumption)) ?_ | refine WPl.rdX (ReadR.loadES (by assumption) (by first | assumption | omega) rfl hasA) ?_)
   | (show WPl _ _ _ _ _ _ _ (⟨_, .slice _ _ _ _ _, _, _, _, _⟩ :: _) _; first | refine WPl.rdX (ReadR.sliceH rfl rfl hasA (by omega)) ?_ | refine WPl.rdX (ReadR.sliceL rfl rfl hasA (by omega)) ?_ | refine WPl.rdX (ReadR.sliceLH rfl rfl rfl hasA (by omega) (by omega)) ?_)
   | (refine WPl.spQ (fun hc => ?_) (fun hc => ?_) <;> try exact prA)
   | fail)
  all_goals first | exact WPq.dV (hc := by simp [resV, *]) | skip
  all_goals trace_state
theorem falling_t (a b : Hy) : Triple Try.prog 96 #[ag (hyc a), ag (hyc b)] [] (RVal (.int .i64 (falC a b))) := by
  have l1 := a.p.1.len
  have l2 := b.p.1.len
  have c1 := cmpU_t b.c a.c
  have c2 := order_t a.p b.p
  have c3 := fun v => or2_t v (compareInt b.c a.c) (pfO a.p b.p)
  unfold falC
  refine Triple.enter Try.func96 rfl Try.ntmps96 rfl (fun W => ?_)
  dsimp only [argsF, Nat.reduceAdd]
  repeat' (first
   | refine WPl.nil ?_ | refine WPq.then ?_ | refine WPq.thenR ?_ | refine WPq.thenE ?_ | refine WPq.blockN ?_ | refine WPq.blockR ?_ | refine WPq.blockE ?_ | refine WPq.blockO rfl ?_ | refine WPc.seq ?_ | refine WPc.block ?_ | refine WPc.ret ?_ | refine WPc.exit ?_ | refine WPc.skip ?_ | refine WPc.region ?_
   | (refine isReg 1 ?_; refine WPc.drA [([], [7, 8, 10, 11, 12, 13]), ([0], [5, 7, 8, 10, 11, 12, 13]), ([], [5, 6, 10, 11, 12, 13]), ([2], [5, 6, 7, 10, 11, 12, 13]), ([0, 1, 2, 3], [5, 6, 7, 8, 10, 11, 12, 13]), ([], [5, 6, 7, 8, 9, 12, 13]), ([5], [5, 6, 7, 8, 9, 10, 12, 13]), ([], [5, 6, 7, 8, 9, 10, 11]), ([7], [5, 6, 7, 8, 9, 10, 11, 12]), ([0, 1, 2, 3, 4, 5, 6, 7, 8], [5, 6, 7, 8, 9, 10, 11, 12, 13]), ([0, 1, 2, 3, 4, 5, 6, 7, 8, 9], [5, 6, 7, 8, 9, 10, 11, 12, 13, 14]), ([0, 1, 2, 3, 4, 5, 6, 7, 8, 9, 10], [5, 6, 7, 8, 9, 10, 11, 12, 13, 14, 15]), ([0, 1, 2, 3, 4, 5, 6, 7, 8, 9, 10, 11], [5, 6, 7, 8, 9, 10, 11, 12, 13, 14, 15, 16])] [] (Γx := []) ?_; dsimp only [prev0, List.length_nil, List.length_cons])
   | (refine gAny ?_; first | (refine gC 9 ?_; refine RGl.vl (fun e hk => OpT.callN (c1)) ?_) | (refine gC 14 ?_; refine RGl.vl (fun e hk => OpT.callN (c2)) ?_) | (refine gC 16 ?_; refine RGl.vl (fun e hk => OpT.callN (c3 _)) ?_) | (refine gOp ?_; first | refine RGl.rdA ?_ | refine RGl.rdX (fun e hk => by (try dsimp only [bndR, ensR, oksR, fcutR, List.append_nil, List.nil_append, List.cons_append, List.append_assoc] at hk ⊢); exact readB) ?_) | (refine gLit ?_; refine RGl.litA ?_) | (refine RGl.fin (fun e hk => ?_); (try dsimp only [bndA, ensAR, oksA, List.append_nil, List.nil_append, List.cons_append, List.append_assoc] at hk ⊢); (repeat (obtain ⟨hk1, hk⟩ := hk))) | fail)
   | (refine isCond ?_; first | refine WPc.cT ?_ | refine WPc.cF ?_ | (refine WPc.cQ (fun hc => ?_) (fun hc => ?_) <;> try exact prA))
   | (refine isC 9 ?_; refine WPl.cV (c1) ?_)
   | (refine isC 14 ?_; refine WPl.cV (c2) ?_)
   | (refine isC 16 ?_; refine WPl.cV (c3 _) ?_)
   | (refine isOp ?_; first | refine WPl.rd ?_ | refine WPl.sk ?_ | refine WPl.rdB ?_)
   | (refine isBx ?_; refine WPl.nw fun g => ?_)
   | (show WPl _ _ _ _ _ _ _ (⟨_, .indexAddr _ _ _, _, _, _, _⟩ :: _) _; refine WPl.rdX (ReadR.indexE rfl rfl hasA (by first | assumption | omega)) ?_)
   | (show WPl _ _ _ _ _ _ _ (⟨_, .fieldAddr _ _ _, _, _, _, _⟩ :: _) _; refine WPl.rdX (ReadR.fieldE rfl hasA (by first | assumption | omega)) ?_)
   | (show WPl _ _ _ _ _ _ _ (⟨_, .load _ _, _, _, _, _⟩ :: _) _; first | refine WPl.rdX (ReadR.loadE rfl hasA (by assumption)) ?_ | refine WPl.rdX (ReadR.loadES (by assumption) (by first | assumption | omega) rfl hasA) ?_)
   | (show WPl _ _ _ _ _ _ _ (⟨_, .slice _ _ _ _ _, _, _, _, _⟩ :: _) _; first | refine WPl.rdX (ReadR.sliceH rfl rfl hasA (by omega)) ?_ | refine WPl.rdX (ReadR.sliceL rfl rfl hasA (by omega)) ?_ | refine WPl.rdX (ReadR.sliceLH rfl rfl rfl hasA (by omega) (by omega)) ?_)
   | (refine WPl.spQ (fun hc => ?_) (fun hc => ?_) <;> try exact prA)
   | fail)
  all_goals first | exact WPq.dV | skip
  all_goals trace_state
end Go.Proofs.Ytncgponcedkihaa
