/- Layer 38 (topk): the client that goes; a client that is counted: contracts. -/
import Derived.Test.YtncgponcedkihaaKd
namespace Go.Proofs.Ytncgponcedkihaa
open Go.RowKit
set_option linter.unusedSimpArgs false
set_option linter.unusedVariables false
set_option maxRecDepth 20000
set_option maxHeartbeats 4000000
attribute [local irreducible] WPc WPl WPq ReadR OpT BinR HasS bx rdN rowN Take Takes Prov Triple ResF BuildP Done ag Int.decLt Int.decLe Int.instDecidableEq
open Go.Lib (compareInt)
attribute [local irreducible] mp rg mput mget mfind mdel
def TI (L : TL) : Prop := ∀ x ∈ L, x.2.p = x.1
structure LsSt where
  td : TL
  dn : TL
  cu : Option (Pf × Hy)
  h : Hy
  first : Bool
def isLeast (dn : TL) (h : Hy) : Prop := (∃ x ∈ dn, h = x.2) ∧ ∀ z ∈ dn, ¬ leastC z.2 h < 0
section
variable (gT m : Nat) (most all : Int) (L : TL)
def RLeast (gT m : Nat) (most all : Int) (L : TL) : Value → List Asn → Prop := fun v Γ => ∃ h, v = ag (hyc h) ∧ Γ = [bx gT 155 (txc most m all), mp hyM m L] ∧ isLeast L h
theorem least_step {dn : TL} {h : Hy} {z : Pf × Hy} (hl : isLeast dn h) : (leastC z.2 h < 0 → isLeast (dn ++ [z]) z.2) ∧ (¬ leastC z.2 h < 0 → isLeast (dn ++ [z]) h) := by
  obtain ⟨⟨x, hx, rfl⟩, h2⟩ := hl
  have T := TC.least
  constructor
  · intro h1
    refine ⟨⟨z, by simp, rfl⟩, fun u hu => ?_⟩
    rcases List.mem_append.1 hu with hu | hu
    · intro h3
      exact h2 u hu (by
        have a1 := T.swo.trans u.2 z.2 x.2
        simp only [ltOf, decide_eq_true_eq] at a1
        exact a1 h3 h1)
    · rw [List.mem_singleton.1 hu]
      have := T.flip z.2 z.2
      omega
  · intro h1
    refine ⟨⟨x, List.mem_append_left _ hx, rfl⟩, fun u hu => ?_⟩
    rcases List.mem_append.1 hu with hu | hu
    · exact h2 u hu
    · rw [List.mem_singleton.1 hu]; exact h1
theorem perm_mid2 {α : Type} {a : α} {A B : List α} : ([a] ++ (A ++ B)).Perm (A ++ a :: B) := by
  have h := (List.perm_middle (a := a) (l₁ := A) (l₂ := B)).symm
  simpa using h
theorem least_one {z : Pf × Hy} : isLeast ([] ++ [z]) z.2 := ⟨⟨z, by simp, rfl⟩, fun u hu => by
  rw [List.nil_append, List.mem_singleton] at hu
  subst hu
  have := TC.least.flip u.2 u.2
  omega⟩
theorem isLeast_perm {A B : TL} {h : Hy} (hp : A.Perm B) (hl : isLeast A h) : isLeast B h := by
  obtain ⟨⟨x, hx, e⟩, h2⟩ := hl
  exact ⟨⟨x, hp.mem_iff.1 hx, e⟩, fun z hz => h2 z (hp.mem_iff.2 hz)⟩
attribute [local irreducible] isLeast
theorem tleast_t (hne : L ≠ []) : Triple Try.prog 76 #[hPt gT] [(bx gT 155 (txc most m all)), mp hyM m L] (RLeast gT m most all L) := by
  refine Triple.enter Try.func76 rfl Try.ntmps76 rfl (fun W => ?_)
  dsimp only [argsF, Nat.reduceAdd]
  repeat' (first
   | refine WPl.nil ?_ | refine WPq.then ?_ | refine WPq.thenR ?_ | refine WPq.thenE ?_ | refine WPq.blockN ?_ | refine WPq.blockR ?_ | refine WPq.blockE ?_ | refine WPq.blockO rfl ?_ | refine WPc.seq ?_ | refine WPc.block ?_ | refine WPc.ret ?_ | refine WPc.exit ?_ | refine WPc.skip ?_ | refine WPc.region ?_
   | (refine isReg 6 ?_; refine WPc.drA [([], []), ([0], [16]), ([0, 1], [16, 17, 20, 21, 23, 24, 25, 26]), ([0, 1, 2], [16, 17, 18, 20, 21, 23, 24, 25, 26]), ([0, 1], [16, 17, 18, 19, 23, 24, 25, 26]), ([0, 1, 4], [16, 17, 18, 19, 20, 23, 24, 25, 26]), ([0, 1, 2, 3, 4, 5], [16, 17, 18, 19, 20, 21, 23, 24, 25, 26]), ([0, 1], [16, 17, 18, 19, 20, 21, 22, 25, 26]), ([0, 1, 7], [16, 17, 18, 19, 20, 21, 22, 23, 25, 26]), ([0, 1], [16, 17, 18, 19, 20, 21, 22, 23, 24]), ([0, 1, 9], [16, 17, 18, 19, 20, 21, 22, 23, 24, 25]), ([0, 1, 2, 3, 4, 5, 6, 7, 8, 9, 10], [16, 17, 18, 19, 20, 21, 22, 23, 24, 25, 26]), ([0, 1, 2, 3, 4, 5, 6, 7, 8, 9, 10, 11], [16, 17, 18, 19, 20, 21, 22, 23, 24, 25, 26, 27]), ([0, 1, 2, 3, 4, 5, 6, 7, 8, 9, 10, 11, 12], [16, 17, 18, 19, 20, 21, 22, 23, 24, 25, 26, 27, 28]), ([0, 1, 2, 3, 4, 5, 6, 7, 8, 9, 10, 11, 12, 13], [16, 17, 18, 19, 20, 21, 22, 23, 24, 25, 26, 27, 28, 29]), ([0, 1, 2, 3, 4, 5, 6, 7, 8, 9, 10, 11, 12, 13, 14], [16, 17, 18, 19, 20, 21, 22, 23, 24, 25, 26, 27, 28, 29, 30])] [] (Γx := []) ?_; dsimp only [prev0, List.length_nil, List.length_cons])
   | (refine gAny ?_; first | (refine gGd ?_; refine RGl.skp ?_) | (refine gOp ?_; first | refine RGl.rdA ?_ | refine RGl.rdX (fun e hk => by (try dsimp only [bndR, ensR, oksR, fcutR, List.append_nil, List.nil_append, List.cons_append, List.append_assoc] at hk ⊢); exact readB) ?_) | (refine gLit ?_; refine RGl.litA ?_) | (refine RGl.fin (fun e hk => ?_); (try dsimp only [bndA, ensAR, oksA, List.append_nil, List.nil_append, List.cons_append, List.append_assoc] at hk ⊢); (repeat (obtain ⟨hk1, hk⟩ := hk))) | fail)
   | (refine isCond ?_; first | refine WPc.cT ?_ | refine WPc.cF ?_ | (refine WPc.cQ (fun hc => ?_) (fun hc => ?_) <;> try exact prA))
   | (refine isD 2 ?_; first | (refine isAl ?_; refine WPl.nw fun g2 => ?_) | (refine isBx ?_; refine WPl.nw fun g2 => ?_))
   | (refine isD 3 ?_; first | (refine isAl ?_; refine WPl.nw fun g3 => ?_) | (refine isBx ?_; refine WPl.nw fun g3 => ?_))
   | (refine isD 11 ?_; refine WPl.mrange fun r => ?_)
   | (refine isOp ?_; first | refine WPl.rd ?_ | refine WPl.sk ?_ | refine WPl.rdB ?_)
   | (refine isAl ?_; refine WPl.nw fun g => ?_)
   | (refine isSt ?_; first | refine WPl.st1 ?_ | refine WPl.stA ?_ | refine WPl.stEB ?_ | refine WPl.stRB ?_)
   | (show WPl _ _ _ _ _ _ _ (⟨_, .indexAddr _ _ _, _, _, _, _⟩ :: _) _; refine WPl.rdX (ReadR.indexE rfl rfl hasA (by first | assumption | omega)) ?_)
   | (show WPl _ _ _ _ _ _ _ (⟨_, .fieldAddr _ _ _, _, _, _, _⟩ :: _) _; refine WPl.rdX (ReadR.fieldE rfl hasA (by first | assumption | omega)) ?_)
   | (show WPl _ _ _ _ _ _ _ (⟨_, .load _ _, _, _, _, _⟩ :: _) _; first | refine WPl.rdX (ReadR.loadE rfl hasA (by assumption)) ?_ | refine WPl.rdX (ReadR.loadES (by assumption) (by first | assumption | omega) rfl hasA) ?_)
   | (show WPl _ _ _ _ _ _ _ (⟨_, .slice _ _ _ _ _, _, _, _, _⟩ :: _) _; first | refine WPl.rdX (ReadR.sliceH rfl rfl hasA (by omega)) ?_ | refine WPl.rdX (ReadR.sliceL rfl rfl hasA (by omega)) ?_ | refine WPl.rdX (ReadR.sliceLH rfl rfl rfl hasA (by omega) (by omega)) ?_)
   | (refine WPl.spQ (fun hc => ?_) (fun hc => ?_) <;> try exact prA)
   | fail)
  first | refine WPc.loop (σ := LsSt) (fun st => (st.dn ++ st.td).Perm L ∧ (st.first = true ↔ st.dn = []) ∧ (st.first = false → isLeast st.dn st.h)) (fun st => [bx g3 97 (hyc st.h), bx g2 97 (hyc Hy.zero), (bx gT 155 (txc most m all)), rg hyM m r L st.td st.cu]) (fun st => [(0, hPt gT), (2, .pointer (some ⟨g2, 0, none⟩)), (3, .pointer (some ⟨g3, 0, none⟩)), (4, .bool st.first), (11, .pointer (some ⟨r, 0, none⟩))]) (fun st => st.td.length) (⟨L, [], none, Hy.zero, true⟩) ?_ takesA frsA (fun st km hx hk => ?_)
  · exact ⟨.refl _, by simp, fun h => by cases h⟩
  obtain ⟨td, dn, cu, h, fst⟩ := st
  obtain ⟨hp, hf1, hf2⟩ := hx
  dsimp only at hp hf1 hf2 hk ⊢
  have hkm : km = td.length := hk
  have l2 := h.p.1.len
  cases fst with
  | true =>
    have hdn := hf1.1 rfl
    repeat' (first
     | refine WPl.nil ?_ | refine WPq.then ?_ | refine WPq.thenR ?_ | refine WPq.thenE ?_ | refine WPq.blockN ?_ | refine WPq.blockR ?_ | refine WPq.blockE ?_ | refine WPq.blockO rfl ?_ | refine WPc.seq ?_ | refine WPc.block ?_ | refine WPc.ret ?_ | refine WPc.exit ?_ | refine WPc.skip ?_ | refine WPc.region ?_
     | (refine isReg 6 ?_; refine WPc.drA [([], []), ([0], [16]), ([0, 1], [16, 17, 20, 21, 23, 24, 25, 26]), ([0, 1, 2], [16, 17, 18, 20, 21, 23, 24, 25, 26]), ([0, 1], [16, 17, 18, 19, 23, 24, 25, 26]), ([0, 1, 4], [16, 17, 18, 19, 20, 23, 24, 25, 26]), ([0, 1, 2, 3, 4, 5], [16, 17, 18, 19, 20, 21, 23, 24, 25, 26]), ([0, 1], [16, 17, 18, 19, 20, 21, 22, 25, 26]), ([0, 1, 7], [16, 17, 18, 19, 20, 21, 22, 23, 25, 26]), ([0, 1], [16, 17, 18, 19, 20, 21, 22, 23, 24]), ([0, 1, 9], [16, 17, 18, 19, 20, 21, 22, 23, 24, 25]), ([0, 1, 2, 3, 4, 5, 6, 7, 8, 9, 10], [16, 17, 18, 19, 20, 21, 22, 23, 24, 25, 26]), ([0, 1, 2, 3, 4, 5, 6, 7, 8, 9, 10, 11], [16, 17, 18, 19, 20, 21, 22, 23, 24, 25, 26, 27]), ([0, 1, 2, 3, 4, 5, 6, 7, 8, 9, 10, 11, 12], [16, 17, 18, 19, 20, 21, 22, 23, 24, 25, 26, 27, 28]), ([0, 1, 2, 3, 4, 5, 6, 7, 8, 9, 10, 11, 12, 13], [16, 17, 18, 19, 20, 21, 22, 23, 24, 25, 26, 27, 28, 29]), ([0, 1, 2, 3, 4, 5, 6, 7, 8, 9, 10, 11, 12, 13, 14], [16, 17, 18, 19, 20, 21, 22, 23, 24, 25, 26, 27, 28, 29, 30])] [] (Γx := []) ?_; dsimp only [prev0, List.length_nil, List.length_cons])
     | (refine gAny ?_; first | (refine gGd ?_; refine RGl.skp ?_) | (refine gOp ?_; first | refine RGl.rdA ?_ | refine RGl.rdX (fun e hk => by (try dsimp only [bndR, ensR, oksR, fcutR, List.append_nil, List.nil_append, List.cons_append, List.append_assoc] at hk ⊢); exact readB) ?_) | (refine gLit ?_; refine RGl.litA ?_) | (refine RGl.fin (fun e hk => ?_); (try dsimp only [bndA, ensAR, oksA, List.append_nil, List.nil_append, List.cons_append, List.append_assoc] at hk ⊢); (repeat (obtain ⟨hk1, hk⟩ := hk))) | fail)
     | (refine isCond ?_; first | refine WPc.cT ?_ | refine WPc.cF ?_ | (refine WPc.cQ (fun hc => ?_) (fun hc => ?_) <;> try exact prA))
     | (refine isD 12 ?_; refine WPl.mnext (M := hyM) (fun k => ag (pfc k)) (fun s => ag (hyc s)) (fun h0 => ?_) (fun A y B hAB => ?_))
     | (refine isD 14 ?_; refine WPl.rdX (ReadR.entry (kv := ag (pfc y.1)) (vv := ag (hyc y.2)) rfl rfl memA rfl) ?_; have l9 := y.2.p.1.len)
     | (refine isOp ?_; first | refine WPl.rd ?_ | refine WPl.sk ?_ | refine WPl.rdB ?_)
     | (refine isAl ?_; refine WPl.nw fun g => ?_)
     | (refine isSt ?_; first | refine WPl.st1 ?_ | refine WPl.stA ?_ | refine WPl.stEB ?_ | refine WPl.stRB ?_)
     | (show WPl _ _ _ _ _ _ _ (⟨_, .indexAddr _ _ _, _, _, _, _⟩ :: _) _; refine WPl.rdX (ReadR.indexE rfl rfl hasA (by first | assumption | omega)) ?_)
     | (show WPl _ _ _ _ _ _ _ (⟨_, .fieldAddr _ _ _, _, _, _, _⟩ :: _) _; refine WPl.rdX (ReadR.fieldE rfl hasA (by first | assumption | omega)) ?_)
     | (show WPl _ _ _ _ _ _ _ (⟨_, .load _ _, _, _, _, _⟩ :: _) _; first | refine WPl.rdX (ReadR.loadE rfl hasA (by assumption)) ?_ | refine WPl.rdX (ReadR.loadES (by assumption) (by first | assumption | omega) rfl hasA) ?_)
     | (show WPl _ _ _ _ _ _ _ (⟨_, .slice _ _ _ _ _, _, _, _, _⟩ :: _) _; first | refine WPl.rdX (ReadR.sliceH rfl rfl hasA (by omega)) ?_ | refine WPl.rdX (ReadR.sliceL rfl rfl hasA (by omega)) ?_ | refine WPl.rdX (ReadR.sliceLH rfl rfl rfl hasA (by omega) (by omega)) ?_)
     | (refine WPl.spQ (fun hc => ?_) (fun hc => ?_) <;> try exact prA)
     | fail)
    · exfalso
      apply hne
      rw [h0, hdn] at hp
      exact List.perm_nil.1 hp.symm
    · exact WPq.rnd ⟨A ++ B, dn ++ [y], some y, y.2, false⟩ ⟨by
        refine List.Perm.trans ?_ hp
        dsimp only
        rw [hAB, List.append_assoc]
        exact List.Perm.append_left dn perm_mid2, by simp, fun _ => by rw [hdn]; exact least_one⟩ (by dsimp only; rw [hkm, hAB]; simp)
  | false =>
    have hls := hf2 rfl
    repeat' (first
     | refine WPl.nil ?_ | refine WPq.then ?_ | refine WPq.thenR ?_ | refine WPq.thenE ?_ | refine WPq.blockN ?_ | refine WPq.blockR ?_ | refine WPq.blockE ?_ | refine WPq.blockO rfl ?_ | refine WPc.seq ?_ | refine WPc.block ?_ | refine WPc.ret ?_ | refine WPc.exit ?_ | refine WPc.skip ?_ | refine WPc.region ?_
     | (refine isReg 6 ?_; refine WPc.drA [([], []), ([0], [16]), ([0, 1], [16, 17, 20, 21, 23, 24, 25, 26]), ([0, 1, 2], [16, 17, 18, 20, 21, 23, 24, 25, 26]), ([0, 1], [16, 17, 18, 19, 23, 24, 25, 26]), ([0, 1, 4], [16, 17, 18, 19, 20, 23, 24, 25, 26]), ([0, 1, 2, 3, 4, 5], [16, 17, 18, 19, 20, 21, 23, 24, 25, 26]), ([0, 1], [16, 17, 18, 19, 20, 21, 22, 25, 26]), ([0, 1, 7], [16, 17, 18, 19, 20, 21, 22, 23, 25, 26]), ([0, 1], [16, 17, 18, 19, 20, 21, 22, 23, 24]), ([0, 1, 9], [16, 17, 18, 19, 20, 21, 22, 23, 24, 25]), ([0, 1, 2, 3, 4, 5, 6, 7, 8, 9, 10], [16, 17, 18, 19, 20, 21, 22, 23, 24, 25, 26]), ([0, 1, 2, 3, 4, 5, 6, 7, 8, 9, 10, 11], [16, 17, 18, 19, 20, 21, 22, 23, 24, 25, 26, 27]), ([0, 1, 2, 3, 4, 5, 6, 7, 8, 9, 10, 11, 12], [16, 17, 18, 19, 20, 21, 22, 23, 24, 25, 26, 27, 28]), ([0, 1, 2, 3, 4, 5, 6, 7, 8, 9, 10, 11, 12, 13], [16, 17, 18, 19, 20, 21, 22, 23, 24, 25, 26, 27, 28, 29]), ([0, 1, 2, 3, 4, 5, 6, 7, 8, 9, 10, 11, 12, 13, 14], [16, 17, 18, 19, 20, 21, 22, 23, 24, 25, 26, 27, 28, 29, 30])] [] (Γx := []) ?_; dsimp only [prev0, List.length_nil, List.length_cons])
     | (refine gAny ?_; first | (refine gGd ?_; refine RGl.skp ?_) | (refine gC 22 ?_; refine RGl.vl (fun e hk => OpT.callN (cmpU_t y.2.c h.c)) ?_) | (refine gC 27 ?_; refine RGl.vl (fun e hk => OpT.callN (order_t y.2.p h.p)) ?_) | (refine gC 29 ?_; refine RGl.vl (fun e hk => OpT.callN (or2_t _ (compareInt y.2.c h.c) (pfO y.2.p h.p))) ?_) | (refine gOp ?_; first | refine RGl.rdA ?_ | refine RGl.rdX (fun e hk => by (try dsimp only [bndR, ensR, oksR, fcutR, List.append_nil, List.nil_append, List.cons_append, List.append_assoc] at hk ⊢); exact readB) ?_) | (refine gLit ?_; refine RGl.litA ?_) | (refine RGl.fin (fun e hk => ?_); (try dsimp only [bndA, ensAR, oksA, List.append_nil, List.nil_append, List.cons_append, List.append_assoc] at hk ⊢); (repeat (obtain ⟨hk1, hk⟩ := hk))) | fail)
     | (refine isCond ?_; first | refine WPc.cT ?_ | refine WPc.cF ?_ | (refine WPc.cQ (fun hc => ?_) (fun hc => ?_) <;> try exact prA))
     | (refine isD 12 ?_; refine WPl.mnext (M := hyM) (fun k => ag (pfc k)) (fun s => ag (hyc s)) (fun h0 => ?_) (fun A y B hAB => ?_))
     | (refine isD 14 ?_; refine WPl.rdX (ReadR.entry (kv := ag (pfc y.1)) (vv := ag (hyc y.2)) rfl rfl memA rfl) ?_; have l9 := y.2.p.1.len)
     | (refine isC 22 ?_; refine WPl.cV (cmpU_t y.2.c h.c) ?_)
     | (refine isC 27 ?_; refine WPl.cV (order_t y.2.p h.p) ?_)
     | (refine isC 29 ?_; refine WPl.cV (or2_t _ (compareInt y.2.c h.c) (pfO y.2.p h.p)) ?_)
     | (refine isOp ?_; first | refine WPl.rd ?_ | refine WPl.sk ?_ | refine WPl.rdB ?_)
     | (refine isAl ?_; refine WPl.nw fun g => ?_)
     | (refine isSt ?_; first | refine WPl.st1 ?_ | refine WPl.stA ?_ | refine WPl.stEB ?_ | refine WPl.stRB ?_)
     | (show WPl _ _ _ _ _ _ _ (⟨_, .indexAddr _ _ _, _, _, _, _⟩ :: _) _; refine WPl.rdX (ReadR.indexE rfl rfl hasA (by first | assumption | omega)) ?_)
     | (show WPl _ _ _ _ _ _ _ (⟨_, .fieldAddr _ _ _, _, _, _, _⟩ :: _) _; refine WPl.rdX (ReadR.fieldE rfl hasA (by first | assumption | omega)) ?_)
     | (show WPl _ _ _ _ _ _ _ (⟨_, .load _ _, _, _, _, _⟩ :: _) _; first | refine WPl.rdX (ReadR.loadE rfl hasA (by assumption)) ?_ | refine WPl.rdX (ReadR.loadES (by assumption) (by first | assumption | omega) rfl hasA) ?_)
     | (show WPl _ _ _ _ _ _ _ (⟨_, .slice _ _ _ _ _, _, _, _, _⟩ :: _) _; first | refine WPl.rdX (ReadR.sliceH rfl rfl hasA (by omega)) ?_ | refine WPl.rdX (ReadR.sliceL rfl rfl hasA (by omega)) ?_ | refine WPl.rdX (ReadR.sliceLH rfl rfl rfl hasA (by omega) (by omega)) ?_)
     | (refine WPl.spQ (fun hc => ?_) (fun hc => ?_) <;> try exact prA)
     | fail)
    · subst h0
      rw [List.append_nil] at hp
      refine WPq.rgOut (M := hyM) (m := m) (r := r) (l := L) (td := []) (c := cu) takeA ?_
      exact WPq.dX (vs := [_]) [(bx gT 155 (txc most m all)), mp hyM m L] ⟨h, rfl, rfl, isLeast_perm hp hls⟩
    · exact WPq.rnd ⟨A ++ B, dn ++ [y], some y, y.2, false⟩ ⟨by
        refine List.Perm.trans ?_ hp
        dsimp only
        rw [hAB, List.append_assoc]
        exact List.Perm.append_left dn perm_mid2, by simp, fun _ => (least_step hls).1 hc⟩ (by dsimp only; rw [hkm, hAB]; simp)
    · exact WPq.rnd ⟨A ++ B, dn ++ [y], some y, h, false⟩ ⟨by
        refine List.Perm.trans ?_ hp
        dsimp only
        rw [hAB, List.append_assoc]
        exact List.Perm.append_left dn perm_mid2, by simp, fun _ => (least_step hls).2 (fun h3 => Int.not_lt.2 hc h3)⟩ (by dsimp only; rw [hkm, hAB]; simp)
/-! ### A client is counted -/
def wU (a : Int) : Int := IntKind.u64.wrap a
theorem tadd0_t (p : Pf) : Triple Try.prog 38 #[hPt gT, ag (pfc p), .int .u64 0] [(bx gT 155 (txc most m all)), mp hyM m L] (RTurns (resV []) [(bx gT 155 (txc most m all)), mp hyM m L]) := by
  have l1 := p.1.len
  refine Triple.enter Try.func38 rfl Try.ntmps38 rfl (fun W => ?_)
  dsimp only [argsF, Nat.reduceAdd]
  repeat' (first
   | refine WPl.nil ?_ | refine WPq.then ?_ | refine WPq.thenR ?_ | refine WPq.thenE ?_ | refine WPq.blockN ?_ | refine WPq.blockR ?_ | refine WPq.blockE ?_ | refine WPq.blockO rfl ?_ | refine WPc.seq ?_ | refine WPc.block ?_ | refine WPc.ret ?_ | refine WPc.exit ?_ | refine WPc.skip ?_ | refine WPc.region ?_
   | (refine isReg 3 ?_; refine WPc.drA [([], [6, 28]), ([0], [6, 24, 28]), ([0, 1], [6, 24, 25, 28]), ([0, 1, 2], [6, 24, 25, 26, 28]), ([], [6, 24, 25, 26, 27]), ([0, 1, 2, 3, 4], [6, 24, 25, 26, 27, 28]), ([0, 1, 2, 3, 4, 5], [6, 24, 25, 26, 27, 28, 29]), ([0, 1, 2, 3, 4, 5, 6], [6, 23, 24, 25, 26, 27, 28, 29, 31]), ([0, 1, 2, 3, 4, 5, 6], [6, 23, 24, 25, 26, 27, 28, 29, 30]), ([], [23, 24, 25, 26, 27, 28, 29, 30, 31]), ([0, 1, 2, 3, 4, 5, 6, 7, 9], [6, 23, 24, 25, 26, 27, 28, 29, 30, 31]), ([0, 1, 2, 3, 4, 5, 6, 7, 8, 9, 10], [6, 23, 24, 25, 26, 27, 28, 29, 30, 31])] [(9, 10)] (Γx := []) ?_; dsimp only [prev0, List.length_nil, List.length_cons])
   | (refine isReg 8 ?_; refine WPc.drA [([], [54, 55, 56, 57]), ([0], [49, 54, 55, 56, 57]), ([0, 1], [49, 50, 54, 55, 56, 57]), ([0, 1, 2], [49, 50, 51, 54, 55, 56, 57]), ([0, 1, 2, 3], [49, 50, 51, 52, 54, 55, 56, 57]), ([], [49, 50, 51, 52, 53]), ([5], [49, 50, 51, 52, 53, 54]), ([5, 6], [49, 50, 51, 52, 53, 54, 55]), ([5, 6, 7], [49, 50, 51, 52, 53, 54, 55, 56]), ([0, 1, 2, 3, 4, 5, 6, 7, 8], [49, 50, 51, 52, 53, 54, 55, 56, 57]), ([0, 1, 2, 3, 4, 5, 6, 7, 8, 9], [49, 50, 51, 52, 53, 54, 55, 56, 57, 58])] [] (Γx := []) ?_; dsimp only [prev0, List.length_nil, List.length_cons])
   | (refine isReg 5 ?_; refine WPc.drA [([], [38, 39]), ([0], [34, 38, 39]), ([0, 1], [34, 35, 38, 39]), ([0, 1, 2], [34, 35, 36, 38, 39]), ([], [34, 35, 36, 37]), ([4], [34, 35, 36, 37, 38]), ([0, 1, 2, 3, 4, 5], [34, 35, 36, 37, 38, 39])] [] (Γx := []) ?_; dsimp only [prev0, List.length_nil, List.length_cons])
   | (refine isReg 11 ?_; refine WPc.drA [([], [70, 71]), ([0], [66, 70, 71]), ([0, 1], [66, 67, 70, 71]), ([0, 1, 2], [66, 67, 68, 70, 71]), ([], [66, 67, 68, 69, 71]), ([], [66, 67, 68, 69, 70]), ([0, 1, 2, 3, 4, 5], [66, 67, 68, 69, 70, 71])] [] (Γx := []) ?_; dsimp only [prev0, List.length_nil, List.length_cons])
   | (refine gAny ?_; first | (refine gD 10 ?_; refine RGl.rdX (fun e hk => by (try dsimp only [bndR, ensR, oksR, fcutR, List.append_nil, List.nil_append, List.cons_append, List.append_assoc] at hk ⊢); exact readP) ?_) | (refine gOp ?_; first | refine RGl.rdA ?_ | refine RGl.rdX (fun e hk => by (try dsimp only [bndR, ensR, oksR, fcutR, List.append_nil, List.nil_append, List.cons_append, List.append_assoc] at hk ⊢); exact readB) ?_) | (refine gAl ?_; refine RGl.nwA ?_) | (refine gSt ?_; refine RGl.stA ?_) | (refine RGl.fin (fun e hk => ?_); (try dsimp only [bndA, ensAR, oksA, List.append_nil, List.nil_append, List.cons_append, List.append_assoc] at hk ⊢); (repeat (obtain ⟨hk1, hk⟩ := hk))) | fail)
   | (refine isCond ?_; first | refine WPc.cT ?_ | refine WPc.cF ?_ | (refine WPc.cQ (fun hc => ?_) (fun hc => ?_) <;> try exact prA))
   | (refine isD 10 ?_; refine WPl.rdX (readP) ?_)
   | (refine isOp ?_; first | refine WPl.rd ?_ | refine WPl.sk ?_ | refine WPl.rdB ?_)
   | (refine isAl ?_; refine WPl.nw fun g => ?_)
   | (refine isBx ?_; refine WPl.nw fun g => ?_)
   | (refine isSt ?_; first | refine WPl.st1 ?_ | refine WPl.stA ?_ | refine WPl.stEB ?_ | refine WPl.stRB ?_)
   | (show WPl _ _ _ _ _ _ _ (⟨_, .indexAddr _ _ _, _, _, _, _⟩ :: _) _; refine WPl.rdX (ReadR.indexE rfl rfl hasA (by first | assumption | omega)) ?_)
   | (show WPl _ _ _ _ _ _ _ (⟨_, .fieldAddr _ _ _, _, _, _, _⟩ :: _) _; refine WPl.rdX (ReadR.fieldE rfl hasA (by first | assumption | omega)) ?_)
   | (show WPl _ _ _ _ _ _ _ (⟨_, .load _ _, _, _, _, _⟩ :: _) _; first | refine WPl.rdX (ReadR.loadE rfl hasA (by assumption)) ?_ | refine WPl.rdX (ReadR.loadES (by assumption) (by first | assumption | omega) rfl hasA) ?_)
   | (show WPl _ _ _ _ _ _ _ (⟨_, .slice _ _ _ _ _, _, _, _, _⟩ :: _) _; first | refine WPl.rdX (ReadR.sliceH rfl rfl hasA (by omega)) ?_ | refine WPl.rdX (ReadR.sliceL rfl rfl hasA (by omega)) ?_ | refine WPl.rdX (ReadR.sliceLH rfl rfl rfl hasA (by omega) (by omega)) ?_)
   | (refine WPl.spQ (fun hc => ?_) (fun hc => ?_) <;> try exact prA)
   | fail)
  all_goals first | exact WPq.dTp | trace_state
theorem taddIs_t (p : Pf) (n : Int) (hp : in64 p.2) (hn : n ≠ 0) (h : Hy) (hh : mget hyM L p = h) (hb : mhas L p = true) :
    Triple Try.prog 38 #[hPt gT, ag (pfc p), .int .u64 n] [(bx gT 155 (txc most m all)), mp hyM m L] (RTurns (resV []) [(bx gT 155 (txc most m (wU (all + n)))), mp hyM m (mput L p ⟨h.p, wU (h.c + n), h.o⟩)]) := by
  have l1 := p.1.len
  have l2 := h.p.1.len
  have hwf : hyM.wf p := hp
  have hget : hyM.vc (mget hyM L p) = ag (hyc h) := by rw [hh]; rfl
  unfold wU
  refine Triple.enter Try.func38 rfl Try.ntmps38 rfl (fun W => ?_)
  dsimp only [argsF, Nat.reduceAdd]
  repeat' (first
   | refine WPl.nil ?_ | refine WPq.then ?_ | refine WPq.thenR ?_ | refine WPq.thenE ?_ | refine WPq.blockN ?_ | refine WPq.blockR ?_ | refine WPq.blockE ?_ | refine WPq.blockO rfl ?_ | refine WPc.seq ?_ | refine WPc.block ?_ | refine WPc.ret ?_ | refine WPc.exit ?_ | refine WPc.skip ?_ | refine WPc.region ?_
   | (refine isReg 3 ?_; refine WPc.drA [([], [6, 28]), ([0], [6, 24, 28]), ([0, 1], [6, 24, 25, 28]), ([0, 1, 2], [6, 24, 25, 26, 28]), ([], [6, 24, 25, 26, 27]), ([0, 1, 2, 3, 4], [6, 24, 25, 26, 27, 28]), ([0, 1, 2, 3, 4, 5], [6, 24, 25, 26, 27, 28, 29]), ([0, 1, 2, 3, 4, 5, 6], [6, 23, 24, 25, 26, 27, 28, 29, 31]), ([0, 1, 2, 3, 4, 5, 6], [6, 23, 24, 25, 26, 27, 28, 29, 30]), ([], [23, 24, 25, 26, 27, 28, 29, 30, 31]), ([0, 1, 2, 3, 4, 5, 6, 7, 9], [6, 23, 24, 25, 26, 27, 28, 29, 30, 31]), ([0, 1, 2, 3, 4, 5, 6, 7, 8, 9, 10], [6, 23, 24, 25, 26, 27, 28, 29, 30, 31])] [(9, 10)] (Γx := []) ?_; dsimp only [prev0, List.length_nil, List.length_cons])
   | (refine isReg 8 ?_; refine WPc.drA [([], [54, 55, 56, 57]), ([0], [49, 54, 55, 56, 57]), ([0, 1], [49, 50, 54, 55, 56, 57]), ([0, 1, 2], [49, 50, 51, 54, 55, 56, 57]), ([0, 1, 2, 3], [49, 50, 51, 52, 54, 55, 56, 57]), ([], [49, 50, 51, 52, 53]), ([5], [49, 50, 51, 52, 53, 54]), ([5, 6], [49, 50, 51, 52, 53, 54, 55]), ([5, 6, 7], [49, 50, 51, 52, 53, 54, 55, 56]), ([0, 1, 2, 3, 4, 5, 6, 7, 8], [49, 50, 51, 52, 53, 54, 55, 56, 57]), ([0, 1, 2, 3, 4, 5, 6, 7, 8, 9], [49, 50, 51, 52, 53, 54, 55, 56, 57, 58])] [] (Γx := []) ?_; dsimp only [prev0, List.length_nil, List.length_cons])
   | (refine isReg 5 ?_; refine WPc.drA [([], [38, 39]), ([0], [34, 38, 39]), ([0, 1], [34, 35, 38, 39]), ([0, 1, 2], [34, 35, 36, 38, 39]), ([], [34, 35, 36, 37]), ([4], [34, 35, 36, 37, 38]), ([0, 1, 2, 3, 4, 5], [34, 35, 36, 37, 38, 39])] [] (Γx := []) ?_; dsimp only [prev0, List.length_nil, List.length_cons])
   | (refine isReg 11 ?_; refine WPc.drA [([7], [70, 71]), ([0, 7], [66, 70, 71]), ([0, 1, 7], [66, 67, 70, 71]), ([0, 1, 2, 7], [66, 67, 68, 70, 71]), ([7], [66, 67, 68, 69, 71]), ([7], [66, 67, 68, 69, 70]), ([0, 1, 2, 3, 4, 5, 7], [66, 67, 68, 69, 70, 71])] [(7, 6), (7, 0), (7, 1), (7, 2), (7, 3), (7, 4), (7, 5)] (Γx := [mp hyM m L]) (hox := ownsA) ?_; dsimp only [prev0, List.length_nil, List.length_cons])
   | (refine gAny ?_; first | (refine gOp ?_; refine RGl.turn (fun e hk => by (try dsimp only [bndR, ensR, oksR, fcutR, List.append_nil, List.nil_append, List.cons_append, List.append_assoc] at hk ⊢); exact OpT.mput (k := p) (v := (⟨h.p, IntKind.u64.wrap (h.c + n), h.o⟩ : Hy)) (hwf) rfl rfl rfl takesA) ?_) | (refine gD 10 ?_; refine RGl.rdX (fun e hk => by (try dsimp only [bndR, ensR, oksR, fcutR, List.append_nil, List.nil_append, List.cons_append, List.append_assoc] at hk ⊢); exact readP) ?_) | (refine gD 13 ?_; refine RGl.rdX (fun e hk => by (try dsimp only [bndR, ensR, oksR, fcutR, List.append_nil, List.nil_append, List.cons_append, List.append_assoc] at hk ⊢); exact ReadR.binE rfl rfl BinR.eql (congrArg Value.bool (decide_eq_false hn))) ?_) | (refine gD 20 ?_; refine RGl.rdX (fun e hk => by (try dsimp only [bndR, ensR, oksR, fcutR, List.append_nil, List.nil_append, List.cons_append, List.append_assoc] at hk ⊢); exact ReadR.bin rfl rfl BinR.addW) ?_) | (refine gD 29 ?_; refine RGl.rdX (fun e hk => by (try dsimp only [bndR, ensR, oksR, fcutR, List.append_nil, List.nil_append, List.cons_append, List.append_assoc] at hk ⊢); exact ReadR.lookOk (M := hyM) (k := p) hwf rfl rfl memA hget hb) ?_) | (refine gD 64 ?_; refine RGl.rdX (fun e hk => by (try dsimp only [bndR, ensR, oksR, fcutR, List.append_nil, List.nil_append, List.cons_append, List.append_assoc] at hk ⊢); exact ReadR.bin rfl rfl BinR.addW) ?_) | (refine gOp ?_; first | refine RGl.rdA ?_ | refine RGl.rdX (fun e hk => by (try dsimp only [bndR, ensR, oksR, fcutR, List.append_nil, List.nil_append, List.cons_append, List.append_assoc] at hk ⊢); exact readB) ?_) | (refine gAl ?_; refine RGl.nwA ?_) | (refine gSt ?_; refine RGl.stA ?_) | (refine RGl.fin (fun e hk => ?_); (try dsimp only [bndA, ensAR, oksA, List.append_nil, List.nil_append, List.cons_append, List.append_assoc] at hk ⊢); (repeat (obtain ⟨hk1, hk⟩ := hk))) | fail)
   | (refine isCond ?_; first | refine WPc.cT ?_ | refine WPc.cF ?_ | (refine WPc.cQ (fun hc => ?_) (fun hc => ?_) <;> try exact prA))
   | (refine isD 10 ?_; refine WPl.rdX (readP) ?_)
   | (refine isD 13 ?_; refine WPl.rdX (ReadR.binE rfl rfl BinR.eql (congrArg Value.bool (decide_eq_false hn))) ?_)
   | (refine isD 20 ?_; refine WPl.rdX (ReadR.bin rfl rfl BinR.addW) ?_)
   | (refine isD 29 ?_; refine WPl.rdX (ReadR.lookOk (M := hyM) (k := p) hwf rfl rfl memA hget hb) ?_)
   | (refine isD 64 ?_; refine WPl.rdX (ReadR.bin rfl rfl BinR.addW) ?_)
   | (refine WPl.mput (p) ((⟨h.p, IntKind.u64.wrap (h.c + n), h.o⟩ : Hy)) (hwf) ?_)
   | (refine isOp ?_; first | refine WPl.rd ?_ | refine WPl.sk ?_ | refine WPl.rdB ?_)
   | (refine isAl ?_; refine WPl.nw fun g => ?_)
   | (refine isBx ?_; refine WPl.nw fun g => ?_)
   | (refine isSt ?_; first | refine WPl.st1 ?_ | refine WPl.stA ?_ | refine WPl.stEB ?_ | refine WPl.stRB ?_)
   | (show WPl _ _ _ _ _ _ _ (⟨_, .indexAddr _ _ _, _, _, _, _⟩ :: _) _; refine WPl.rdX (ReadR.indexE rfl rfl hasA (by first | assumption | omega)) ?_)
   | (show WPl _ _ _ _ _ _ _ (⟨_, .fieldAddr _ _ _, _, _, _, _⟩ :: _) _; refine WPl.rdX (ReadR.fieldE rfl hasA (by first | assumption | omega)) ?_)
   | (show WPl _ _ _ _ _ _ _ (⟨_, .load _ _, _, _, _, _⟩ :: _) _; first | refine WPl.rdX (ReadR.loadE rfl hasA (by assumption)) ?_ | refine WPl.rdX (ReadR.loadES (by assumption) (by first | assumption | omega) rfl hasA) ?_)
   | (show WPl _ _ _ _ _ _ _ (⟨_, .slice _ _ _ _ _, _, _, _, _⟩ :: _) _; first | refine WPl.rdX (ReadR.sliceH rfl rfl hasA (by omega)) ?_ | refine WPl.rdX (ReadR.sliceL rfl rfl hasA (by omega)) ?_ | refine WPl.rdX (ReadR.sliceLH rfl rfl rfl hasA (by omega) (by omega)) ?_)
   | (refine WPl.spQ (fun hc => ?_) (fun hc => ?_) <;> try exact prA)
   | fail)
  all_goals first | exact WPq.dTp | trace_state
theorem taddNew_t (p : Pf) (n : Int) (hp : in64 p.2) (hn : n ≠ 0) (hb : mhas L p = false) (hm : (L.length : Int) < most) :
    Triple Try.prog 38 #[hPt gT, ag (pfc p), .int .u64 n] [(bx gT 155 (txc most m all)), mp hyM m L] (RTurns (resV []) [(bx gT 155 (txc most m (wU (all + n)))), mp hyM m (mput L p ⟨p, wU (0 + n), 0⟩)]) := by
  have l1 := p.1.len
  obtain ⟨h, hh⟩ : ∃ h, mget hyM L p = h := ⟨_, rfl⟩
  have l2 := h.p.1.len
  have hwf : hyM.wf p := hp
  have hget : hyM.vc (mget hyM L p) = ag (hyc h) := by rw [hh]; rfl
  unfold wU
  refine Triple.enter Try.func38 rfl Try.ntmps38 rfl (fun W => ?_)
  dsimp only [argsF, Nat.reduceAdd]
  repeat' (first
   | refine WPl.nil ?_ | refine WPq.then ?_ | refine WPq.thenR ?_ | refine WPq.thenE ?_ | refine WPq.blockN ?_ | refine WPq.blockR ?_ | refine WPq.blockE ?_ | refine WPq.blockO rfl ?_ | refine WPc.seq ?_ | refine WPc.block ?_ | refine WPc.ret ?_ | refine WPc.exit ?_ | refine WPc.skip ?_ | refine WPc.region ?_
   | (refine isReg 3 ?_; refine WPc.drA [([], [6, 28]), ([0], [6, 24, 28]), ([0, 1], [6, 24, 25, 28]), ([0, 1, 2], [6, 24, 25, 26, 28]), ([], [6, 24, 25, 26, 27]), ([0, 1, 2, 3, 4], [6, 24, 25, 26, 27, 28]), ([0, 1, 2, 3, 4, 5], [6, 24, 25, 26, 27, 28, 29]), ([0, 1, 2, 3, 4, 5, 6], [6, 23, 24, 25, 26, 27, 28, 29, 31]), ([0, 1, 2, 3, 4, 5, 6], [6, 23, 24, 25, 26, 27, 28, 29, 30]), ([], [23, 24, 25, 26, 27, 28, 29, 30, 31]), ([0, 1, 2, 3, 4, 5, 6, 7, 9], [6, 23, 24, 25, 26, 27, 28, 29, 30, 31]), ([0, 1, 2, 3, 4, 5, 6, 7, 8, 9, 10], [6, 23, 24, 25, 26, 27, 28, 29, 30, 31])] [(9, 10)] (Γx := []) ?_; dsimp only [prev0, List.length_nil, List.length_cons])
   | (refine isReg 8 ?_; refine WPc.drA [([], [54, 55, 56, 57]), ([0], [49, 54, 55, 56, 57]), ([0, 1], [49, 50, 54, 55, 56, 57]), ([0, 1, 2], [49, 50, 51, 54, 55, 56, 57]), ([0, 1, 2, 3], [49, 50, 51, 52, 54, 55, 56, 57]), ([], [49, 50, 51, 52, 53]), ([5], [49, 50, 51, 52, 53, 54]), ([5, 6], [49, 50, 51, 52, 53, 54, 55]), ([5, 6, 7], [49, 50, 51, 52, 53, 54, 55, 56]), ([0, 1, 2, 3, 4, 5, 6, 7, 8], [49, 50, 51, 52, 53, 54, 55, 56, 57]), ([0, 1, 2, 3, 4, 5, 6, 7, 8, 9], [49, 50, 51, 52, 53, 54, 55, 56, 57, 58])] [] (Γx := []) ?_; dsimp only [prev0, List.length_nil, List.length_cons])
   | (refine isReg 5 ?_; refine WPc.drA [([], [38, 39]), ([0], [34, 38, 39]), ([0, 1], [34, 35, 38, 39]), ([0, 1, 2], [34, 35, 36, 38, 39]), ([], [34, 35, 36, 37]), ([4], [34, 35, 36, 37, 38]), ([0, 1, 2, 3, 4, 5], [34, 35, 36, 37, 38, 39])] [] (Γx := []) ?_; dsimp only [prev0, List.length_nil, List.length_cons])
   | (refine isReg 11 ?_; refine WPc.drA [([7], [70, 71]), ([0, 7], [66, 70, 71]), ([0, 1, 7], [66, 67, 70, 71]), ([0, 1, 2, 7], [66, 67, 68, 70, 71]), ([7], [66, 67, 68, 69, 71]), ([7], [66, 67, 68, 69, 70]), ([0, 1, 2, 3, 4, 5, 7], [66, 67, 68, 69, 70, 71])] [(7, 6), (7, 0), (7, 1), (7, 2), (7, 3), (7, 4), (7, 5)] (Γx := [mp hyM m L]) (hox := ownsA) ?_; dsimp only [prev0, List.length_nil, List.length_cons])
   | (refine gAny ?_; first | (refine gOp ?_; refine RGl.turn (fun e hk => by (try dsimp only [bndR, ensR, oksR, fcutR, List.append_nil, List.nil_append, List.cons_append, List.append_assoc] at hk ⊢); exact OpT.mput (k := p) (v := (⟨p, IntKind.u64.wrap (0 + n), 0⟩ : Hy)) (hwf) rfl rfl rfl takesA) ?_) | (refine gD 10 ?_; refine RGl.rdX (fun e hk => by (try dsimp only [bndR, ensR, oksR, fcutR, List.append_nil, List.nil_append, List.cons_append, List.append_assoc] at hk ⊢); exact readP) ?_) | (refine gD 13 ?_; refine RGl.rdX (fun e hk => by (try dsimp only [bndR, ensR, oksR, fcutR, List.append_nil, List.nil_append, List.cons_append, List.append_assoc] at hk ⊢); exact ReadR.binE rfl rfl BinR.eql (congrArg Value.bool (decide_eq_false hn))) ?_) | (refine gD 20 ?_; refine RGl.rdX (fun e hk => by (try dsimp only [bndR, ensR, oksR, fcutR, List.append_nil, List.nil_append, List.cons_append, List.append_assoc] at hk ⊢); exact ReadR.bin rfl rfl BinR.addW) ?_) | (refine gD 29 ?_; refine RGl.rdX (fun e hk => by (try dsimp only [bndR, ensR, oksR, fcutR, List.append_nil, List.nil_append, List.cons_append, List.append_assoc] at hk ⊢); exact ReadR.lookOk (M := hyM) (k := p) hwf rfl rfl memA hget hb) ?_) | (refine gD 64 ?_; refine RGl.rdX (fun e hk => by (try dsimp only [bndR, ensR, oksR, fcutR, List.append_nil, List.nil_append, List.cons_append, List.append_assoc] at hk ⊢); exact ReadR.bin rfl rfl BinR.addW) ?_) | (refine gD 53 ?_; refine RGl.rdX (fun e hk => by (try dsimp only [bndR, ensR, oksR, fcutR, List.append_nil, List.nil_append, List.cons_append, List.append_assoc] at hk ⊢); exact ReadR.mlen rfl memA) ?_) | (refine gD 58 ?_; refine RGl.rdX (fun e hk => by (try dsimp only [bndR, ensR, oksR, fcutR, List.append_nil, List.nil_append, List.cons_append, List.append_assoc] at hk ⊢); exact ReadR.binE rfl rfl BinR.lss (congrArg Value.bool (decide_eq_true hm))) ?_) | (refine gOp ?_; first | refine RGl.rdA ?_ | refine RGl.rdX (fun e hk => by (try dsimp only [bndR, ensR, oksR, fcutR, List.append_nil, List.nil_append, List.cons_append, List.append_assoc] at hk ⊢); exact readB) ?_) | (refine gAl ?_; refine RGl.nwA ?_) | (refine gSt ?_; refine RGl.stA ?_) | (refine RGl.fin (fun e hk => ?_); (try dsimp only [bndA, ensAR, oksA, List.append_nil, List.nil_append, List.cons_append, List.append_assoc] at hk ⊢); (repeat (obtain ⟨hk1, hk⟩ := hk))) | fail)
   | (refine isCond ?_; first | refine WPc.cT ?_ | refine WPc.cF ?_ | (refine WPc.cQ (fun hc => ?_) (fun hc => ?_) <;> try exact prA))
   | (refine isD 10 ?_; refine WPl.rdX (readP) ?_)
   | (refine isD 13 ?_; refine WPl.rdX (ReadR.binE rfl rfl BinR.eql (congrArg Value.bool (decide_eq_false hn))) ?_)
   | (refine isD 20 ?_; refine WPl.rdX (ReadR.bin rfl rfl BinR.addW) ?_)
   | (refine isD 29 ?_; refine WPl.rdX (ReadR.lookOk (M := hyM) (k := p) hwf rfl rfl memA hget hb) ?_)
   | (refine isD 64 ?_; refine WPl.rdX (ReadR.bin rfl rfl BinR.addW) ?_)
   | (refine isD 53 ?_; refine WPl.rdX (ReadR.mlen rfl memA) ?_)
   | (refine isD 58 ?_; refine WPl.rdX (ReadR.binE rfl rfl BinR.lss (congrArg Value.bool (decide_eq_true hm))) ?_)
   | (refine WPl.mput (p) ((⟨p, IntKind.u64.wrap (0 + n), 0⟩ : Hy)) (hwf) ?_)
   | (refine isOp ?_; first | refine WPl.rd ?_ | refine WPl.sk ?_ | refine WPl.rdB ?_)
   | (refine isAl ?_; refine WPl.nw fun g => ?_)
   | (refine isBx ?_; refine WPl.nw fun g => ?_)
   | (refine isSt ?_; first | refine WPl.st1 ?_ | refine WPl.stA ?_ | refine WPl.stEB ?_ | refine WPl.stRB ?_)
   | (show WPl _ _ _ _ _ _ _ (⟨_, .indexAddr _ _ _, _, _, _, _⟩ :: _) _; refine WPl.rdX (ReadR.indexE rfl rfl hasA (by first | assumption | omega)) ?_)
   | (show WPl _ _ _ _ _ _ _ (⟨_, .fieldAddr _ _ _, _, _, _, _⟩ :: _) _; refine WPl.rdX (ReadR.fieldE rfl hasA (by first | assumption | omega)) ?_)
   | (show WPl _ _ _ _ _ _ _ (⟨_, .load _ _, _, _, _, _⟩ :: _) _; first | refine WPl.rdX (ReadR.loadE rfl hasA (by assumption)) ?_ | refine WPl.rdX (ReadR.loadES (by assumption) (by first | assumption | omega) rfl hasA) ?_)
   | (show WPl _ _ _ _ _ _ _ (⟨_, .slice _ _ _ _ _, _, _, _, _⟩ :: _) _; first | refine WPl.rdX (ReadR.sliceH rfl rfl hasA (by omega)) ?_ | refine WPl.rdX (ReadR.sliceL rfl rfl hasA (by omega)) ?_ | refine WPl.rdX (ReadR.sliceLH rfl rfl rfl hasA (by omega) (by omega)) ?_)
   | (refine WPl.spQ (fun hc => ?_) (fun hc => ?_) <;> try exact prA)
   | fail)
  all_goals first | exact WPq.dTp | trace_state
def RGone (gT m : Nat) (most all : Int) (L : TL) (p : Pf) (n : Int) : Value → List Asn → Prop := fun v Γ => ∃ g, isLeast L g ∧ v = resV [] ∧ Γ = [bx gT 155 (txc most m (wU (all + n))), mp hyM m (mput (mdel L g.p) p ⟨p, wU (g.c + n), g.c⟩)]
theorem taddGone_t (p : Pf) (n : Int) (hp : in64 p.2) (hn : n ≠ 0) (hb : mhas L p = false) (hm : ¬ (L.length : Int) < most) (hne : L ≠ []) (hw : ∀ g, isLeast L g → in64 g.p.2) :
    Triple Try.prog 38 #[hPt gT, ag (pfc p), .int .u64 n] [(bx gT 155 (txc most m all)), mp hyM m L] (RGone gT m most all L p n) := by
  have l1 := p.1.len
  obtain ⟨h, hh⟩ : ∃ h, mget hyM L p = h := ⟨_, rfl⟩
  have l2 := h.p.1.len
  have hwf : hyM.wf p := hp
  have hget : hyM.vc (mget hyM L p) = ag (hyc h) := by rw [hh]; rfl
  have c1 := tleast_t gT m most (IntKind.u64.wrap (all + n)) L hne
  unfold RGone wU
  refine Triple.enter Try.func38 rfl Try.ntmps38 rfl (fun W => ?_)
  dsimp only [argsF, Nat.reduceAdd]
  repeat' (first
   | refine WPl.nil ?_ | refine WPq.then ?_ | refine WPq.thenR ?_ | refine WPq.thenE ?_ | refine WPq.blockN ?_ | refine WPq.blockR ?_ | refine WPq.blockE ?_ | refine WPq.blockO rfl ?_ | refine WPc.seq ?_ | refine WPc.block ?_ | refine WPc.ret ?_ | refine WPc.exit ?_ | refine WPc.skip ?_ | refine WPc.region ?_
   | (refine isReg 3 ?_; refine WPc.drA [([], [6, 28]), ([0], [6, 24, 28]), ([0, 1], [6, 24, 25, 28]), ([0, 1, 2], [6, 24, 25, 26, 28]), ([], [6, 24, 25, 26, 27]), ([0, 1, 2, 3, 4], [6, 24, 25, 26, 27, 28]), ([0, 1, 2, 3, 4, 5], [6, 24, 25, 26, 27, 28, 29]), ([0, 1, 2, 3, 4, 5, 6], [6, 23, 24, 25, 26, 27, 28, 29, 31]), ([0, 1, 2, 3, 4, 5, 6], [6, 23, 24, 25, 26, 27, 28, 29, 30]), ([], [23, 24, 25, 26, 27, 28, 29, 30, 31]), ([0, 1, 2, 3, 4, 5, 6, 7, 9], [6, 23, 24, 25, 26, 27, 28, 29, 30, 31]), ([0, 1, 2, 3, 4, 5, 6, 7, 8, 9, 10], [6, 23, 24, 25, 26, 27, 28, 29, 30, 31])] [(9, 10)] (Γx := []) ?_; dsimp only [prev0, List.length_nil, List.length_cons])
   | (refine isReg 8 ?_; refine WPc.drA [([], [54, 55, 56, 57]), ([0], [49, 54, 55, 56, 57]), ([0, 1], [49, 50, 54, 55, 56, 57]), ([0, 1, 2], [49, 50, 51, 54, 55, 56, 57]), ([0, 1, 2, 3], [49, 50, 51, 52, 54, 55, 56, 57]), ([], [49, 50, 51, 52, 53]), ([5], [49, 50, 51, 52, 53, 54]), ([5, 6], [49, 50, 51, 52, 53, 54, 55]), ([5, 6, 7], [49, 50, 51, 52, 53, 54, 55, 56]), ([0, 1, 2, 3, 4, 5, 6, 7, 8], [49, 50, 51, 52, 53, 54, 55, 56, 57]), ([0, 1, 2, 3, 4, 5, 6, 7, 8, 9], [49, 50, 51, 52, 53, 54, 55, 56, 57, 58])] [] (Γx := []) ?_; dsimp only [prev0, List.length_nil, List.length_cons])
   | (refine isReg 5 ?_; refine WPc.drA [([7], [38, 39]), ([0, 7], [34, 38, 39]), ([0, 1, 7], [34, 35, 38, 39]), ([0, 1, 2, 7], [34, 35, 36, 38, 39]), ([7], [34, 35, 36, 37]), ([4, 7], [34, 35, 36, 37, 38]), ([0, 1, 2, 3, 4, 5, 7], [34, 35, 36, 37, 38, 39])] [(7, 6), (7, 0), (7, 1), (7, 2), (7, 3), (7, 4), (7, 5)] (Γx := [mp hyM m L]) (hox := ownsA) ?_; dsimp only [prev0, List.length_nil, List.length_cons])
   | (refine isReg 11 ?_; refine WPc.drA [([7], [70, 71]), ([0, 7], [66, 70, 71]), ([0, 1, 7], [66, 67, 70, 71]), ([0, 1, 2, 7], [66, 67, 68, 70, 71]), ([7], [66, 67, 68, 69, 71]), ([7], [66, 67, 68, 69, 70]), ([0, 1, 2, 3, 4, 5, 7], [66, 67, 68, 69, 70, 71])] [(7, 6), (7, 0), (7, 1), (7, 2), (7, 3), (7, 4), (7, 5)] (Γx := [mp hyM m (mdel L gn.p)]) (hox := ownsA) ?_; dsimp only [prev0, List.length_nil, List.length_cons])
   | (refine gAny ?_; first | (refine gOp ?_; refine RGl.turn (fun e hk => by (try dsimp only [bndR, ensR, oksR, fcutR, List.append_nil, List.nil_append, List.cons_append, List.append_assoc] at hk ⊢); exact OpT.mdel (k := gn.p) (hwg) rfl rfl takesA) ?_) | (refine gOp ?_; refine RGl.turn (fun e hk => by (try dsimp only [bndR, ensR, oksR, fcutR, List.append_nil, List.nil_append, List.cons_append, List.append_assoc] at hk ⊢); exact OpT.mput (k := p) (v := (⟨p, IntKind.u64.wrap (gn.c + n), gn.c⟩ : Hy)) (hwf) rfl rfl rfl takesA) ?_) | (refine gD 10 ?_; refine RGl.rdX (fun e hk => by (try dsimp only [bndR, ensR, oksR, fcutR, List.append_nil, List.nil_append, List.cons_append, List.append_assoc] at hk ⊢); exact readP) ?_) | (refine gD 13 ?_; refine RGl.rdX (fun e hk => by (try dsimp only [bndR, ensR, oksR, fcutR, List.append_nil, List.nil_append, List.cons_append, List.append_assoc] at hk ⊢); exact ReadR.binE rfl rfl BinR.eql (congrArg Value.bool (decide_eq_false hn))) ?_) | (refine gD 20 ?_; refine RGl.rdX (fun e hk => by (try dsimp only [bndR, ensR, oksR, fcutR, List.append_nil, List.nil_append, List.cons_append, List.append_assoc] at hk ⊢); exact ReadR.bin rfl rfl BinR.addW) ?_) | (refine gD 29 ?_; refine RGl.rdX (fun e hk => by (try dsimp only [bndR, ensR, oksR, fcutR, List.append_nil, List.nil_append, List.cons_append, List.append_assoc] at hk ⊢); exact ReadR.lookOk (M := hyM) (k := p) hwf rfl rfl memA hget hb) ?_) | (refine gD 64 ?_; refine RGl.rdX (fun e hk => by (try dsimp only [bndR, ensR, oksR, fcutR, List.append_nil, List.nil_append, List.cons_append, List.append_assoc] at hk ⊢); exact ReadR.bin rfl rfl BinR.addW) ?_) | (refine gD 53 ?_; refine RGl.rdX (fun e hk => by (try dsimp only [bndR, ensR, oksR, fcutR, List.append_nil, List.nil_append, List.cons_append, List.append_assoc] at hk ⊢); exact ReadR.mlen rfl memA) ?_) | (refine gD 58 ?_; refine RGl.rdX (fun e hk => by (try dsimp only [bndR, ensR, oksR, fcutR, List.append_nil, List.nil_append, List.cons_append, List.append_assoc] at hk ⊢); exact ReadR.binE rfl rfl BinR.lss (congrArg Value.bool (decide_eq_false hm))) ?_) | (refine gOp ?_; first | refine RGl.rdA ?_ | refine RGl.rdX (fun e hk => by (try dsimp only [bndR, ensR, oksR, fcutR, List.append_nil, List.nil_append, List.cons_append, List.append_assoc] at hk ⊢); exact readB) ?_) | (refine gAl ?_; refine RGl.nwA ?_) | (refine gSt ?_; refine RGl.stA ?_) | (refine RGl.fin (fun e hk => ?_); (try dsimp only [bndA, ensAR, oksA, List.append_nil, List.nil_append, List.cons_append, List.append_assoc] at hk ⊢); (repeat (obtain ⟨hk1, hk⟩ := hk))) | fail)
   | (refine isCond ?_; first | refine WPc.cT ?_ | refine WPc.cF ?_ | (refine WPc.cQ (fun hc => ?_) (fun hc => ?_) <;> try exact prA))
   | (refine isD 10 ?_; refine WPl.rdX (readP) ?_)
   | (refine isD 13 ?_; refine WPl.rdX (ReadR.binE rfl rfl BinR.eql (congrArg Value.bool (decide_eq_false hn))) ?_)
   | (refine isD 20 ?_; refine WPl.rdX (ReadR.bin rfl rfl BinR.addW) ?_)
   | (refine isD 29 ?_; refine WPl.rdX (ReadR.lookOk (M := hyM) (k := p) hwf rfl rfl memA hget hb) ?_)
   | (refine isD 64 ?_; refine WPl.rdX (ReadR.bin rfl rfl BinR.addW) ?_)
   | (refine isD 53 ?_; refine WPl.rdX (ReadR.mlen rfl memA) ?_)
   | (refine isD 58 ?_; refine WPl.rdX (ReadR.binE rfl rfl BinR.lss (congrArg Value.bool (decide_eq_false hm))) ?_)
   | (refine isC 33 ?_; refine WPl.cXs (c1) fun v Γ1 hR => ?_; obtain ⟨gn, rfl, rfl, hgn⟩ := hR; have l3 := gn.p.1.len; have hwg : hyM.wf gn.p := hw gn hgn; (try dsimp only [putF, List.cons_append, List.nil_append]))
   | (refine WPl.mdel (gn.p) (hwg) ?_)
   | (refine WPl.mput (p) ((⟨p, IntKind.u64.wrap (gn.c + n), gn.c⟩ : Hy)) (hwf) ?_)
   | (refine isOp ?_; first | refine WPl.rd ?_ | refine WPl.sk ?_ | refine WPl.rdB ?_)
   | (refine isAl ?_; refine WPl.nw fun g => ?_)
   | (refine isBx ?_; refine WPl.nw fun g => ?_)
   | (refine isSt ?_; first | refine WPl.st1 ?_ | refine WPl.stA ?_ | refine WPl.stEB ?_ | refine WPl.stRB ?_)
   | (show WPl _ _ _ _ _ _ _ (⟨_, .indexAddr _ _ _, _, _, _, _⟩ :: _) _; refine WPl.rdX (ReadR.indexE rfl rfl hasA (by first | assumption | omega)) ?_)
   | (show WPl _ _ _ _ _ _ _ (⟨_, .fieldAddr _ _ _, _, _, _, _⟩ :: _) _; refine WPl.rdX (ReadR.fieldE rfl hasA (by first | assumption | omega)) ?_)
   | (show WPl _ _ _ _ _ _ _ (⟨_, .load _ _, _, _, _, _⟩ :: _) _; first | refine WPl.rdX (ReadR.loadE rfl hasA (by assumption)) ?_ | refine WPl.rdX (ReadR.loadES (by assumption) (by first | assumption | omega) rfl hasA) ?_)
   | (show WPl _ _ _ _ _ _ _ (⟨_, .slice _ _ _ _ _, _, _, _, _⟩ :: _) _; first | refine WPl.rdX (ReadR.sliceH rfl rfl hasA (by omega)) ?_ | refine WPl.rdX (ReadR.sliceL rfl rfl hasA (by omega)) ?_ | refine WPl.rdX (ReadR.sliceLH rfl rfl rfl hasA (by omega) (by omega)) ?_)
   | (refine WPl.spQ (fun hc => ?_) (fun hc => ?_) <;> try exact prA)
   | fail)
  exact WPq.dX (vs := []) [bx gT 155 (txc most m (IntKind.u64.wrap (all + n))), mp hyM m (mput (mdel L gn.p) p ⟨p, IntKind.u64.wrap (gn.c + n), gn.c⟩)] ⟨gn, hgn, rfl, rfl⟩
end
end Go.Proofs.Ytncgponcedkihaa
