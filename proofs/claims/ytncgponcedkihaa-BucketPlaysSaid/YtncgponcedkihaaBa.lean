/- Layer 33 (bucket): New, Take, Len: contracts; what lives. -/
import Derived.Test.YtncgponcedkihaaBz
namespace Go.Proofs.Ytncgponcedkihaa
open Go.RowKit
set_option linter.unusedSimpArgs false
set_option linter.unusedVariables false
set_option maxRecDepth 20000
set_option maxHeartbeats 4000000
attribute [local irreducible] WPc WPl WPq ReadR OpT BinR HasS bx rdN rowN Take Takes Prov Triple ResF BuildP Done ag Int.decLt Int.decLe Int.instDecidableEq
section
variable {burst : Int} {clients : Nat} {M : List (Pf × Option Nat)} {f f' : Nat → Option Ch}
theorem BkI.upd {g : Nat} {c c' : Cl} {rest : List Nd} (h : BkI burst clients ((g, c) :: rest) M f) (hp : c'.p = c.p) (hok : 0 ≤ c'.tok ∧ c'.tok ≤ burst ∧ 0 ≤ c'.at' ∧ c'.at' < 18446744073709551616) (hl : f' g = some (clc c' none (hdO none rest))) (hfr : ∀ x ∈ rest, f' x.1 = f x.1) : BkI burst clients ((g, c') :: rest) M f' := by
  obtain ⟨a1, a2⟩ := List.pairwise_cons.1 h.nod
  obtain ⟨b1, b2⟩ := List.pairwise_cons.1 h.keys
  refine ⟨List.pairwise_cons.2 ⟨a1, a2⟩, ⟨hl, lnk_frame hfr h.lk.2⟩, fun p v => ?_, h.len, List.pairwise_cons.2 ⟨fun x hx => by show c'.p ≠ _; rw [hp]; exact b1 x hx, b2⟩, fun x hx => ?_, h.few, h.mkn⟩
  · rw [h.key]
    constructor
    · rintro ⟨x, hx, h1⟩
      rcases List.mem_cons.1 hx with rfl | hx
      · exact ⟨(g, c'), List.mem_cons_self .., hp.trans h1.1, h1.2⟩
      · exact ⟨x, List.mem_cons_of_mem _ hx, h1⟩
    · rintro ⟨x, hx, h1⟩
      rcases List.mem_cons.1 hx with rfl | hx
      · exact ⟨(g, c), List.mem_cons_self .., hp.symm.trans h1.1, h1.2⟩
      · exact ⟨x, List.mem_cons_of_mem _ hx, h1⟩
  · rcases List.mem_cons.1 hx with rfl | hx
    · exact ⟨by show in64 c'.p.2; rw [hp]; exact (h.ok (g, c) (List.mem_cons_self ..)).1, hok⟩
    · exact h.ok x (List.mem_cons_of_mem _ hx)
theorem takeD_eq {per : Int} {D : List Cl} {p : Pf} {n now : Int} {c : Cl} {r : List Cl} (hk : keptD burst clients D p now = (c, r)) : takeD per burst clients D p n now = (⟨c.p, if 0 ≤ n ∧ n ≤ full per burst c now then full per burst c now - n else full per burst c now, max c.at' now⟩ :: r, decide (0 ≤ n ∧ n ≤ full per burst c now)) := by
  unfold takeD; rw [hk]
end
theorem maxI {a b : Int} : (if a < b then b else a) = max a b := by split <;> omega
attribute [local irreducible] pool fset lnk mp mget mfind mput mdel
section
variable (gB m : Nat) (per burst : Int) (clients : Nat) (f : Nat → Option Ch)
def RBk (D : List Cl) (r : Value) : Value → List Asn → Prop := fun v Γ => ∃ L' M' f', v = r ∧ Γ = [(bx gB 131 (bkc (hdO none L') (lsO none L') per burst (clients : Int) m)), mp prM m M', (pool 135 f')] ∧ BkI burst clients L' M' f' ∧ L'.map (·.2) = D
theorem take_t (L : List Nd) (M : List (Pf × Option Nat)) (hI : BkI burst clients L M f) (p : Pf) (n now : Int) (hp : in64 p.2) (n1 : 0 ≤ now) (n2 : now < 18446744073709551616) (p1 : 0 ≤ per) (p2 : per ≤ 1048576) (hb : 0 ≤ burst) (b2 : burst ≤ 1073741824) (hcl : 1 ≤ clients) :
    Triple Try.prog 16 #[hP' gB, ag (pfc p), .int .i64 n, .int .u64 now] [(bx gB 131 (bkc (hdO none L) (lsO none L) per burst (clients : Int) m)), mp prM m M, (pool 135 f)] (RBk gB m per burst clients (takeD per burst clients (L.map (·.2)) p n now).1 (.bool (takeD per burst clients (L.map (·.2)) p n now).2)) := by
  have c1 := kept_t gB m per burst clients f L M hI p now hp n1 n2 hb hcl
  clear hI
  generalize hdO none L = fi at c1 ⊢
  generalize lsO none L = la at c1 ⊢
  generalize L.map (·.2) = D at c1 ⊢
  refine Triple.enter Try.func16 rfl Try.ntmps16 rfl (fun W => ?_)
  dsimp only [argsF, Nat.reduceAdd]
  repeat' (first
   | refine WPl.nil ?_ | refine WPq.then ?_ | refine WPq.thenR ?_ | refine WPq.thenE ?_ | refine WPq.blockN ?_ | refine WPq.blockR ?_ | refine WPq.blockE ?_ | refine WPq.blockO rfl ?_ | refine WPc.seq ?_ | refine WPc.block ?_ | refine WPc.ret ?_ | refine WPc.exit ?_ | refine WPc.skip ?_ | refine WPc.region ?_
   | (refine isCond ?_; first | refine WPc.cT ?_ | refine WPc.cF ?_ | (refine WPc.cQ (fun hc => ?_) (fun hc => ?_) <;> try exact prA))
   | (refine isD 11 ?_; refine WPl.rdX (readP) ?_)
   | (refine isC 15 ?_; refine WPl.cXs (c1) fun v Γ1 hR => ?_; obtain ⟨g1, c0, rest, M1, f1, rfl, rfl, hI1, hk⟩ := hR; have hc1 := hI1.lk; have hok1 := hI1.ok (g1, c0) (List.mem_cons_self ..); have hcell : f1 g1 = some (clc c0 none (hdO none rest)) := (by unfold lnk at hc1; exact hc1.1); rw [takeD_eq hk]; have hTb := full_le (per := per) (now := now) hok1.2.1 hok1.2.2.1 p1; have c2 := bhas_t gB m per burst (clients : Int) f1 g1 c0 (hdO none ((g1, c0) :: rest)) (lsO none ((g1, c0) :: rest)) none (hdO none rest) now hcell p1 p2 b2 hok1.2.1 hok1.2.2.1 hok1.2.2.2.1 hok1.2.2.2.2 n1 n2; generalize full per burst c0 now = T at c2 hTb ⊢; (try dsimp only [putF, List.cons_append, List.nil_append]))
   | (refine isC 20 ?_; refine WPl.cTs (c2) ?_; (try dsimp only [putF, List.cons_append, List.nil_append]))
   | (show WPl _ _ _ _ _ _ _ (⟨_, .store _ (.tmp 22) _, _, _, _, _⟩ :: _) _; refine WPl.stP (hcell) ?_)
   | (refine isD 27 ?_; refine WPl.rdX (ReadR.loadP memA fset_same rfl rfl) ?_)
   | (refine isD 29 ?_; refine WPl.rdX (ReadR.maxT maxI rfl rfl) ?_)
   | (show WPl _ _ _ _ _ _ _ (⟨_, .store _ (.tmp 31) _, _, _, _, _⟩ :: _) _; refine WPl.stP (fset_same) ?_)
   | (refine isD 39 ?_; refine WPl.rdX (ReadR.loadP memA fset_same rfl rfl) ?_)
   | (refine isD 45 ?_; refine WPl.rdX (ReadR.loadP memA fset_same rfl rfl) ?_)
   | (show WPl _ _ _ _ _ _ _ (⟨_, .store _ (.tmp 49) _, _, _, _, _⟩ :: _) _; refine WPl.stP (fset_same) ?_)
   | (refine isOp ?_; first | refine WPl.rd ?_ | refine WPl.sk ?_ | refine WPl.rdB ?_)
   | (refine isBx ?_; refine WPl.nw fun g => ?_)
   | (refine isSt ?_; first | refine WPl.st1 ?_ | refine WPl.stA ?_ | refine WPl.stEB ?_ | refine WPl.stRB ?_)
   | (show WPl _ _ _ _ _ _ _ (⟨_, .indexAddr _ _ _, _, _, _, _⟩ :: _) _; refine WPl.rdX (ReadR.indexE rfl rfl hasA (by first | assumption | omega)) ?_)
   | (show WPl _ _ _ _ _ _ _ (⟨_, .fieldAddr _ _ _, _, _, _, _⟩ :: _) _; refine WPl.rdX (ReadR.fieldE rfl hasA (by first | assumption | omega)) ?_)
   | (show WPl _ _ _ _ _ _ _ (⟨_, .load _ _, _, _, _, _⟩ :: _) _; first | refine WPl.rdX (ReadR.loadE rfl hasA (by assumption)) ?_ | refine WPl.rdX (ReadR.loadES (by assumption) (by first | assumption | omega) rfl hasA) ?_)
   | (show WPl _ _ _ _ _ _ _ (⟨_, .slice _ _ _ _ _, _, _, _, _⟩ :: _) _; first | refine WPl.rdX (ReadR.sliceH rfl rfl hasA (by omega)) ?_ | refine WPl.rdX (ReadR.sliceL rfl rfl hasA (by omega)) ?_ | refine WPl.rdX (ReadR.sliceLH rfl rfl rfl hasA (by omega) (by omega)) ?_)
   | (refine WPl.spQ (fun hc => ?_) (fun hc => ?_) <;> try exact prA)
   | fail)
  · have hg := fun (xx : Nd) hx => ((List.pairwise_cons.1 hI1.nod).1 xx hx).symm
    have hne : ¬ (0 ≤ n ∧ n ≤ T) := by omega
    have hb1 := hok1.2.2.2
    dsimp only at hb1 hg
    refine WPq.dX (vs := [_]) _ ⟨(g1, ⟨c0.p, T, max c0.at' now⟩) :: rest, M1, (fset (fset f1 g1 (clc ⟨c0.p, T, c0.at'⟩ none (hdO none rest))) g1 (clc ⟨c0.p, T, max c0.at' now⟩ none (hdO none rest))), ?_, rfl, hI1.upd rfl ⟨hTb.1, hTb.2, by dsimp only; omega, by dsimp only; omega⟩ fset_same (fun xx hx => by rw [fset_ne (hg xx hx), fset_ne (hg xx hx)]), ?_⟩
    · rw [decide_eq_false hne]; rfl
    · rw [if_neg hne]; rfl
  · have hg := fun (xx : Nd) hx => ((List.pairwise_cons.1 hI1.nod).1 xx hx).symm
    have hne : 0 ≤ n ∧ n ≤ T := by omega
    have hb1 := hok1.2.2.2
    dsimp only at hb1 hg
    refine WPq.dX (vs := [_]) _ ⟨(g1, ⟨c0.p, T - n, max c0.at' now⟩) :: rest, M1, (fset (fset (fset f1 g1 (clc ⟨c0.p, T, c0.at'⟩ none (hdO none rest))) g1 (clc ⟨c0.p, T, max c0.at' now⟩ none (hdO none rest))) g1 (clc ⟨c0.p, T - n, max c0.at' now⟩ none (hdO none rest))), ?_, rfl, hI1.upd rfl ⟨by dsimp only; omega, by dsimp only; omega, by dsimp only; omega, by dsimp only; omega⟩ fset_same (fun xx hx => by rw [fset_ne (hg xx hx), fset_ne (hg xx hx), fset_ne (hg xx hx)]), ?_⟩
    · rw [decide_eq_true hne]; rfl
    · rw [if_pos hne]; rfl
  · have hg := fun (xx : Nd) hx => ((List.pairwise_cons.1 hI1.nod).1 xx hx).symm
    have hne : ¬ (0 ≤ n ∧ n ≤ T) := by omega
    have hb1 := hok1.2.2.2
    dsimp only at hb1 hg
    refine WPq.dX (vs := [_]) _ ⟨(g1, ⟨c0.p, T, max c0.at' now⟩) :: rest, M1, (fset (fset f1 g1 (clc ⟨c0.p, T, c0.at'⟩ none (hdO none rest))) g1 (clc ⟨c0.p, T, max c0.at' now⟩ none (hdO none rest))), ?_, rfl, hI1.upd rfl ⟨hTb.1, hTb.2, by dsimp only; omega, by dsimp only; omega⟩ fset_same (fun xx hx => by rw [fset_ne (hg xx hx), fset_ne (hg xx hx)]), ?_⟩
    · rw [decide_eq_false hne]; rfl
    · rw [if_neg hne]; rfl
theorem blen_t (L : List Nd) (M : List (Pf × Option Nat)) (hI : BkI burst clients L M f) (fi la : Option Nat) :
    Triple Try.prog 19 #[hP' gB] [(bx gB 131 (bkc fi la per burst (clients : Int) m)), mp prM m M, (pool 135 f)] (RTurns (.int .i64 (L.length : Int)) [(bx gB 131 (bkc fi la per burst (clients : Int) m)), mp prM m M, (pool 135 f)]) := by
  rw [← hI.len]
  clear hI
  refine Triple.enter Try.func19 rfl Try.ntmps19 rfl (fun W => ?_)
  dsimp only [argsF, Nat.reduceAdd]
  repeat' (first
   | refine WPl.nil ?_ | refine WPq.then ?_ | refine WPq.thenR ?_ | refine WPq.thenE ?_ | refine WPq.blockN ?_ | refine WPq.blockR ?_ | refine WPq.blockE ?_ | refine WPq.blockO rfl ?_ | refine WPc.seq ?_ | refine WPc.block ?_ | refine WPc.ret ?_ | refine WPc.exit ?_ | refine WPc.skip ?_ | refine WPc.region ?_
   | (refine isCond ?_; first | refine WPc.cT ?_ | refine WPc.cF ?_ | (refine WPc.cQ (fun hc => ?_) (fun hc => ?_) <;> try exact prA))
   | (refine isD 4 ?_; refine WPl.rdX (readP) ?_)
   | (refine isD 9 ?_; refine WPl.rdX (ReadR.mlen rfl memA) ?_)
   | (refine isOp ?_; first | refine WPl.rd ?_ | refine WPl.sk ?_ | refine WPl.rdB ?_)
   | (show WPl _ _ _ _ _ _ _ (⟨_, .indexAddr _ _ _, _, _, _, _⟩ :: _) _; refine WPl.rdX (ReadR.indexE rfl rfl hasA (by first | assumption | omega)) ?_)
   | (show WPl _ _ _ _ _ _ _ (⟨_, .fieldAddr _ _ _, _, _, _, _⟩ :: _) _; refine WPl.rdX (ReadR.fieldE rfl hasA (by first | assumption | omega)) ?_)
   | (show WPl _ _ _ _ _ _ _ (⟨_, .load _ _, _, _, _, _⟩ :: _) _; first | refine WPl.rdX (ReadR.loadE rfl hasA (by assumption)) ?_ | refine WPl.rdX (ReadR.loadES (by assumption) (by first | assumption | omega) rfl hasA) ?_)
   | (show WPl _ _ _ _ _ _ _ (⟨_, .slice _ _ _ _ _, _, _, _, _⟩ :: _) _; first | refine WPl.rdX (ReadR.sliceH rfl rfl hasA (by omega)) ?_ | refine WPl.rdX (ReadR.sliceL rfl rfl hasA (by omega)) ?_ | refine WPl.rdX (ReadR.sliceLH rfl rfl rfl hasA (by omega) (by omega)) ?_)
   | (refine WPl.spQ (fun hc => ?_) (fun hc => ?_) <;> try exact prA)
   | fail)
  all_goals (show WPq _ _ _ _ _ _ _; exact WPq.dTp)
end
theorem take0_t (p : Pf) (n now : Int) : Triple Try.prog 16 #[.pointer none, ag (pfc p), .int .i64 n, .int .u64 now] [] (RVal (.bool false)) := by
  refine Triple.enter Try.func16 rfl Try.ntmps16 rfl (fun W => ?_)
  dsimp only [argsF, Nat.reduceAdd]
  repeat' (first
   | refine WPl.nil ?_ | refine WPq.then ?_ | refine WPq.thenR ?_ | refine WPq.thenE ?_ | refine WPq.blockN ?_ | refine WPq.blockR ?_ | refine WPq.blockE ?_ | refine WPq.blockO rfl ?_ | refine WPc.seq ?_ | refine WPc.block ?_ | refine WPc.ret ?_ | refine WPc.exit ?_ | refine WPc.skip ?_ | refine WPc.region ?_
   | (refine isCond ?_; first | refine WPc.cT ?_ | refine WPc.cF ?_ | (refine WPc.cQ (fun hc => ?_) (fun hc => ?_) <;> try exact prA))
   | (refine isD 11 ?_; refine WPl.rdX (readP) ?_)
   | (refine isOp ?_; first | refine WPl.rd ?_ | refine WPl.sk ?_ | refine WPl.rdB ?_)
   | (refine isBx ?_; refine WPl.nw fun g => ?_)
   | (refine isSt ?_; first | refine WPl.st1 ?_ | refine WPl.stA ?_ | refine WPl.stEB ?_ | refine WPl.stRB ?_)
   | (show WPl _ _ _ _ _ _ _ (⟨_, .indexAddr _ _ _, _, _, _, _⟩ :: _) _; refine WPl.rdX (ReadR.indexE rfl rfl hasA (by first | assumption | omega)) ?_)
   | (show WPl _ _ _ _ _ _ _ (⟨_, .fieldAddr _ _ _, _, _, _, _⟩ :: _) _; refine WPl.rdX (ReadR.fieldE rfl hasA (by first | assumption | omega)) ?_)
   | (show WPl _ _ _ _ _ _ _ (⟨_, .load _ _, _, _, _, _⟩ :: _) _; first | refine WPl.rdX (ReadR.loadE rfl hasA (by assumption)) ?_ | refine WPl.rdX (ReadR.loadES (by assumption) (by first | assumption | omega) rfl hasA) ?_)
   | (show WPl _ _ _ _ _ _ _ (⟨_, .slice _ _ _ _ _, _, _, _, _⟩ :: _) _; first | refine WPl.rdX (ReadR.sliceH rfl rfl hasA (by omega)) ?_ | refine WPl.rdX (ReadR.sliceL rfl rfl hasA (by omega)) ?_ | refine WPl.rdX (ReadR.sliceLH rfl rfl rfl hasA (by omega) (by omega)) ?_)
   | (refine WPl.spQ (fun hc => ?_) (fun hc => ?_) <;> try exact prA)
   | fail)
  all_goals try (first | exact WPq.dTp | exact WPq.dTs | exact WPq.dV | exact WPq.dR | exact WPq.dR2 | exact WPq.dH | exact WPq.dBH | exact WPq.dT)
theorem has0_t (p : Pf) (now : Int) : Triple Try.prog 21 #[.pointer none, ag (pfc p), .int .u64 now] [] (RVal (.int .i64 0)) := by
  refine Triple.enter Try.func21 rfl Try.ntmps21 rfl (fun W => ?_)
  dsimp only [argsF, Nat.reduceAdd]
  repeat' (first
   | refine WPl.nil ?_ | refine WPq.then ?_ | refine WPq.thenR ?_ | refine WPq.thenE ?_ | refine WPq.blockN ?_ | refine WPq.blockR ?_ | refine WPq.blockE ?_ | refine WPq.blockO rfl ?_ | refine WPc.seq ?_ | refine WPc.block ?_ | refine WPc.ret ?_ | refine WPc.exit ?_ | refine WPc.skip ?_ | refine WPc.region ?_
   | (refine isReg 3 ?_; refine WPc.drA [([], [16]), ([0], [12, 16]), ([0, 1], [12, 13, 16]), ([0, 1, 2], [12, 13, 14, 16]), ([], [12, 13, 14, 15]), ([0, 1, 2, 3, 4], [12, 13, 14, 15, 16]), ([0, 1, 2, 3, 4, 5], [12, 13, 14, 15, 16, 17]), ([0, 1, 2, 3, 4, 5, 6], [11, 12, 13, 14, 15, 16, 17, 19]), ([0, 1, 2, 3, 4, 5, 6], [7, 11, 12, 13, 14, 15, 16, 17, 18]), ([0, 1, 2, 3, 4, 5, 6, 7], [11, 12, 13, 14, 15, 16, 17, 18, 19]), ([0, 1, 2, 3, 4, 5, 6, 7, 8, 9], [7, 11, 12, 13, 14, 15, 16, 17, 18, 19])] [] (Γx := []) ?_; dsimp only [prev0, List.length_nil, List.length_cons])
   | (refine gAny ?_; first | (refine gD 10 ?_; refine RGl.rdX (fun e hk => by (try dsimp only [bndR, ensR, oksR, fcutR, List.append_nil, List.nil_append, List.cons_append, List.append_assoc] at hk ⊢); exact readP) ?_) | (refine gOp ?_; first | refine RGl.rdA ?_ | refine RGl.rdX (fun e hk => by (try dsimp only [bndR, ensR, oksR, fcutR, List.append_nil, List.nil_append, List.cons_append, List.append_assoc] at hk ⊢); exact readB) ?_) | (refine RGl.fin (fun e hk => ?_); (try dsimp only [bndA, ensAR, oksA, List.append_nil, List.nil_append, List.cons_append, List.append_assoc] at hk ⊢); (repeat (obtain ⟨hk1, hk⟩ := hk))) | fail)
   | (refine isCond ?_; first | refine WPc.cT ?_ | refine WPc.cF ?_ | (refine WPc.cQ (fun hc => ?_) (fun hc => ?_) <;> try exact prA))
   | (refine isD 10 ?_; refine WPl.rdX (readP) ?_)
   | (refine isOp ?_; first | refine WPl.rd ?_ | refine WPl.sk ?_ | refine WPl.rdB ?_)
   | (refine isBx ?_; refine WPl.nw fun g => ?_)
   | (show WPl _ _ _ _ _ _ _ (⟨_, .indexAddr _ _ _, _, _, _, _⟩ :: _) _; refine WPl.rdX (ReadR.indexE rfl rfl hasA (by first | assumption | omega)) ?_)
   | (show WPl _ _ _ _ _ _ _ (⟨_, .fieldAddr _ _ _, _, _, _, _⟩ :: _) _; refine WPl.rdX (ReadR.fieldE rfl hasA (by first | assumption | omega)) ?_)
   | (show WPl _ _ _ _ _ _ _ (⟨_, .load _ _, _, _, _, _⟩ :: _) _; first | refine WPl.rdX (ReadR.loadE rfl hasA (by assumption)) ?_ | refine WPl.rdX (ReadR.loadES (by assumption) (by first | assumption | omega) rfl hasA) ?_)
   | (show WPl _ _ _ _ _ _ _ (⟨_, .slice _ _ _ _ _, _, _, _, _⟩ :: _) _; first | refine WPl.rdX (ReadR.sliceH rfl rfl hasA (by omega)) ?_ | refine WPl.rdX (ReadR.sliceL rfl rfl hasA (by omega)) ?_ | refine WPl.rdX (ReadR.sliceLH rfl rfl rfl hasA (by omega) (by omega)) ?_)
   | (refine WPl.spQ (fun hc => ?_) (fun hc => ?_) <;> try exact prA)
   | fail)
  all_goals try (first | exact WPq.dTp | exact WPq.dTs | exact WPq.dV | exact WPq.dR | exact WPq.dR2 | exact WPq.dH | exact WPq.dBH | exact WPq.dT)
theorem len0_t : Triple Try.prog 19 #[.pointer none] [] (RVal (.int .i64 0)) := by
  refine Triple.enter Try.func19 rfl Try.ntmps19 rfl (fun W => ?_)
  dsimp only [argsF, Nat.reduceAdd]
  repeat' (first
   | refine WPl.nil ?_ | refine WPq.then ?_ | refine WPq.thenR ?_ | refine WPq.thenE ?_ | refine WPq.blockN ?_ | refine WPq.blockR ?_ | refine WPq.blockE ?_ | refine WPq.blockO rfl ?_ | refine WPc.seq ?_ | refine WPc.block ?_ | refine WPc.ret ?_ | refine WPc.exit ?_ | refine WPc.skip ?_ | refine WPc.region ?_
   | (refine isCond ?_; first | refine WPc.cT ?_ | refine WPc.cF ?_ | (refine WPc.cQ (fun hc => ?_) (fun hc => ?_) <;> try exact prA))
   | (refine isD 4 ?_; refine WPl.rdX (readP) ?_)
   | (refine isOp ?_; first | refine WPl.rd ?_ | refine WPl.sk ?_ | refine WPl.rdB ?_)
   | (show WPl _ _ _ _ _ _ _ (⟨_, .indexAddr _ _ _, _, _, _, _⟩ :: _) _; refine WPl.rdX (ReadR.indexE rfl rfl hasA (by first | assumption | omega)) ?_)
   | (show WPl _ _ _ _ _ _ _ (⟨_, .fieldAddr _ _ _, _, _, _, _⟩ :: _) _; refine WPl.rdX (ReadR.fieldE rfl hasA (by first | assumption | omega)) ?_)
   | (show WPl _ _ _ _ _ _ _ (⟨_, .load _ _, _, _, _, _⟩ :: _) _; first | refine WPl.rdX (ReadR.loadE rfl hasA (by assumption)) ?_ | refine WPl.rdX (ReadR.loadES (by assumption) (by first | assumption | omega) rfl hasA) ?_)
   | (show WPl _ _ _ _ _ _ _ (⟨_, .slice _ _ _ _ _, _, _, _, _⟩ :: _) _; first | refine WPl.rdX (ReadR.sliceH rfl rfl hasA (by omega)) ?_ | refine WPl.rdX (ReadR.sliceL rfl rfl hasA (by omega)) ?_ | refine WPl.rdX (ReadR.sliceLH rfl rfl rfl hasA (by omega) (by omega)) ?_)
   | (refine WPl.spQ (fun hc => ?_) (fun hc => ?_) <;> try exact prA)
   | fail)
  all_goals try (first | exact WPq.dTp | exact WPq.dTs | exact WPq.dV | exact WPq.dR | exact WPq.dR2 | exact WPq.dH | exact WPq.dBH | exact WPq.dT)
theorem order0_t : Triple Try.prog 18 #[.pointer none] [] (RVal (.slice none 0 0)) := by
  refine Triple.enter Try.func18 rfl Try.ntmps18 rfl (fun W => ?_)
  dsimp only [argsF, Nat.reduceAdd]
  repeat' (first
   | refine WPl.nil ?_ | refine WPq.then ?_ | refine WPq.thenR ?_ | refine WPq.thenE ?_ | refine WPq.blockN ?_ | refine WPq.blockR ?_ | refine WPq.blockE ?_ | refine WPq.blockO rfl ?_ | refine WPc.seq ?_ | refine WPc.block ?_ | refine WPc.ret ?_ | refine WPc.exit ?_ | refine WPc.skip ?_ | refine WPc.region ?_
   | (refine isCond ?_; first | refine WPc.cT ?_ | refine WPc.cF ?_ | (refine WPc.cQ (fun hc => ?_) (fun hc => ?_) <;> try exact prA))
   | (refine isD 6 ?_; refine WPl.rdX (readP) ?_)
   | (refine isOp ?_; first | refine WPl.rd ?_ | refine WPl.sk ?_ | refine WPl.rdB ?_)
   | (show WPl _ _ _ _ _ _ _ (⟨_, .indexAddr _ _ _, _, _, _, _⟩ :: _) _; refine WPl.rdX (ReadR.indexE rfl rfl hasA (by first | assumption | omega)) ?_)
   | (show WPl _ _ _ _ _ _ _ (⟨_, .fieldAddr _ _ _, _, _, _, _⟩ :: _) _; refine WPl.rdX (ReadR.fieldE rfl hasA (by first | assumption | omega)) ?_)
   | (show WPl _ _ _ _ _ _ _ (⟨_, .load _ _, _, _, _, _⟩ :: _) _; first | refine WPl.rdX (ReadR.loadE rfl hasA (by assumption)) ?_ | refine WPl.rdX (ReadR.loadES (by assumption) (by first | assumption | omega) rfl hasA) ?_)
   | (show WPl _ _ _ _ _ _ _ (⟨_, .slice _ _ _ _ _, _, _, _, _⟩ :: _) _; first | refine WPl.rdX (ReadR.sliceH rfl rfl hasA (by omega)) ?_ | refine WPl.rdX (ReadR.sliceL rfl rfl hasA (by omega)) ?_ | refine WPl.rdX (ReadR.sliceLH rfl rfl rfl hasA (by omega) (by omega)) ?_)
   | (refine WPl.spQ (fun hc => ?_) (fun hc => ?_) <;> try exact prA)
   | fail)
  all_goals try (first | exact WPq.dTp | exact WPq.dTs | exact WPq.dV | exact WPq.dR | exact WPq.dR2 | exact WPq.dH | exact WPq.dBH | exact WPq.dT)
section
variable (per burst : Int) (clients : Nat)
abbrev rtc (per burst cl : Int) : Ch := [(1, [.int .i64 per]), (1, [.int .i64 burst]), (1, [.int .i64 cl])]
def RNewB : Value → List Asn → Prop := fun v Γ => ∃ gB m f, v = .tuple #[hP' gB, .int .i64 0] ∧ Γ = [bx gB 131 (bkc none none per burst (clients : Int) m), mp prM m [], pool 135 f] ∧ BkI burst clients [] [] f
theorem bki0 : BkI burst clients [] [] (fun _ => none) where
  nod := List.Pairwise.nil
  lk := by unfold lnk; trivial
  key := fun p v => ⟨(fun h => by unfold mfind at h; cases h), (fun ⟨c, hc, _⟩ => by cases hc)⟩
  len := rfl
  keys := List.Pairwise.nil
  ok := fun c hc => by cases hc
  few := Nat.zero_le _
  mkn := List.Pairwise.nil
theorem bnew_t (p1 : 0 ≤ per) (p2 : per ≤ 1048576) (b1 : 1 ≤ burst) (b2 : burst ≤ 1073741824) (c1 : 1 ≤ clients) (c2 : clients ≤ 1000) :
    Triple Try.prog 15 #[ag (rtc per burst (clients : Int))] [] (RNewB per burst clients) := by
  have h0 := bki0 burst clients
  refine Triple.enter Try.func15 rfl Try.ntmps15 rfl (fun W => ?_)
  dsimp only [argsF, Nat.reduceAdd]
  refine WPc.pool0 135 ?_
  repeat' (first
   | refine WPl.nil ?_ | refine WPq.then ?_ | refine WPq.thenR ?_ | refine WPq.thenE ?_ | refine WPq.blockN ?_ | refine WPq.blockR ?_ | refine WPq.blockE ?_ | refine WPq.blockO rfl ?_ | refine WPc.seq ?_ | refine WPc.block ?_ | refine WPc.ret ?_ | refine WPc.exit ?_ | refine WPc.skip ?_ | refine WPc.region ?_
   | (refine isCond ?_; first | refine WPc.cT ?_ | refine WPc.cF ?_ | (refine WPc.cQ (fun hc => ?_) (fun hc => ?_) <;> try exact prA))
   | (refine isD 33 ?_; refine WPl.mnew prM fun m => ?_)
   | (refine isOp ?_; first | refine WPl.rd ?_ | refine WPl.sk ?_ | refine WPl.rdB ?_)
   | (refine isBx ?_; refine WPl.nw fun g => ?_)
   | (show WPl _ _ _ _ _ _ _ (⟨_, .indexAddr _ _ _, _, _, _, _⟩ :: _) _; refine WPl.rdX (ReadR.indexE rfl rfl hasA (by first | assumption | omega)) ?_)
   | (show WPl _ _ _ _ _ _ _ (⟨_, .fieldAddr _ _ _, _, _, _, _⟩ :: _) _; refine WPl.rdX (ReadR.fieldE rfl hasA (by first | assumption | omega)) ?_)
   | (show WPl _ _ _ _ _ _ _ (⟨_, .load _ _, _, _, _, _⟩ :: _) _; first | refine WPl.rdX (ReadR.loadE rfl hasA (by assumption)) ?_ | refine WPl.rdX (ReadR.loadES (by assumption) (by first | assumption | omega) rfl hasA) ?_)
   | (show WPl _ _ _ _ _ _ _ (⟨_, .slice _ _ _ _ _, _, _, _, _⟩ :: _) _; first | refine WPl.rdX (ReadR.sliceH rfl rfl hasA (by omega)) ?_ | refine WPl.rdX (ReadR.sliceL rfl rfl hasA (by omega)) ?_ | refine WPl.rdX (ReadR.sliceLH rfl rfl rfl hasA (by omega) (by omega)) ?_)
   | (refine WPl.spQ (fun hc => ?_) (fun hc => ?_) <;> try exact prA)
   | fail)
  exact WPq.dX (vs := [_, _]) [_, _, _] ⟨_, _, _, rfl, rfl, h0⟩
structure BOk (per burst : Int) (clients : Nat) : Prop where
  p1 : 0 ≤ per
  p2 : per ≤ 1048576
  b1 : 1 ≤ burst
  b2 : burst ≤ 1073741824
  c1 : 1 ≤ clients
  c2 : clients ≤ 1000
theorem bnew_c (hb : BOk per burst clients) : Triple Try.prog 15 #[ag (rtc per burst (clients : Int))] [] (RNewB per burst clients) := bnew_t per burst clients hb.p1 hb.p2 hb.b1 hb.b2 hb.c1 hb.c2
theorem take_c (hb : BOk per burst clients) (gB m : Nat) {f : Nat → Option Ch} {L : List Nd} {M : List (Pf × Option Nat)} (hI : BkI burst clients L M f) {D : List Cl} (hL : L.map (·.2) = D) (p : Pf) (n now : Int) (hp : in64 p.2) (n1 : 0 ≤ now) (n2 : now < 18446744073709551616) {D' : List Cl} {r : Bool} (ht : takeD per burst clients D p n now = (D', r)) :
    Triple Try.prog 16 #[hP' gB, ag (pfc p), .int .i64 n, .int .u64 now] [bx gB 131 (bkc (hdO none L) (lsO none L) per burst (clients : Int) m), mp prM m M, pool 135 f] (RBk gB m per burst clients D' (.bool r)) := by
  have h := take_t gB m per burst clients f L M hI p n now hp n1 n2 hb.p1 hb.p2 (by have := hb.b1; omega) hb.b2 hb.c1
  rw [hL, ht] at h
  exact h
end
def pz : Pf := (Adr.zero, 0)
theorem pz64 : in64 pz.2 := by unfold in64 pz; dsimp only; omega
theorem blives_t : Triple Try.prog 17 #[] [] (RVal (.bool true)) := by
  have hb : BOk 1 5 2 := ⟨by omega, by omega, by omega, by omega, by omega, by omega⟩
  have c0 := bnew_c 1 5 2 hb
  have k1 : takeD 1 5 2 [] pz 5 0 = ([⟨pz, 0, 0⟩], true) := by kernel_rfl
  have k2 : takeD 1 5 2 [⟨pz, 0, 0⟩] pz 1 0 = ([⟨pz, 0, 0⟩], false) := by kernel_rfl
  have k3 : takeD 1 5 2 [⟨pz, 0, 0⟩] pz 1 1 = ([⟨pz, 0, 1⟩], true) := by kernel_rfl
  refine Triple.enter Try.func17 rfl Try.ntmps17 rfl (fun W => ?_)
  dsimp only [argsF, Nat.reduceAdd]
  repeat' (first
   | refine WPl.nil ?_ | refine WPq.then ?_ | refine WPq.thenR ?_ | refine WPq.thenE ?_ | refine WPq.blockN ?_ | refine WPq.blockR ?_ | refine WPq.blockE ?_ | refine WPq.blockO rfl ?_ | refine WPc.seq ?_ | refine WPc.block ?_ | refine WPc.ret ?_ | refine WPc.exit ?_ | refine WPc.skip ?_ | refine WPc.region ?_
   | (refine isCond ?_; first | refine WPc.cT ?_ | refine WPc.cF ?_ | (refine WPc.cQ (fun hc => ?_) (fun hc => ?_) <;> try exact prA))
   | (refine isC 6 ?_; refine WPl.cXs (c0) fun v Γ1 hR => ?_; obtain ⟨gB, m, f0, rfl, rfl, hI0⟩ := hR; (try dsimp only [putF, List.cons_append, List.nil_append]))
   | (refine isC 15 ?_; refine WPl.cXs ((take_c 1 5 2 hb gB m hI0 rfl pz 5 0 pz64 (by omega) (by omega) k1)) fun v Γ1 hR => ?_; obtain ⟨L1, M1, f1, rfl, rfl, hI1, hD1⟩ := hR; (try dsimp only [putF, List.cons_append, List.nil_append]))
   | (refine isC 20 ?_; refine WPl.cXs ((take_c 1 5 2 hb gB m hI1 hD1 pz 1 0 pz64 (by omega) (by omega) k2)) fun v Γ1 hR => ?_; obtain ⟨L2, M2, f2, rfl, rfl, hI2, hD2⟩ := hR; (try dsimp only [putF, List.cons_append, List.nil_append]))
   | (refine isC 26 ?_; refine WPl.cXs ((take_c 1 5 2 hb gB m hI2 hD2 pz 1 1 pz64 (by omega) (by omega) k3)) fun v Γ1 hR => ?_; obtain ⟨L3, M3, f3, rfl, rfl, hI3, hD3⟩ := hR; have hl3 := congrArg List.length hD3; rw [List.length_map] at hl3; dsimp only [List.length_cons, List.length_nil] at hl3; have c4 := blen_t gB m 1 5 2 f3 L3 M3 hI3 (hdO none L3) (lsO none L3); rw [hl3] at c4; (try dsimp only [putF, List.cons_append, List.nil_append]))
   | (refine isC 30 ?_; refine WPl.cTs (c4) ?_; (try dsimp only [putF, List.cons_append, List.nil_append]))
   | (refine isOp ?_; first | refine WPl.rd ?_ | refine WPl.sk ?_ | refine WPl.rdB ?_)
   | (refine isAl ?_; refine WPl.nw fun g => ?_)
   | (refine isSt ?_; first | refine WPl.st1 ?_ | refine WPl.stA ?_ | refine WPl.stEB ?_ | refine WPl.stRB ?_)
   | (show WPl _ _ _ _ _ _ _ (⟨_, .indexAddr _ _ _, _, _, _, _⟩ :: _) _; refine WPl.rdX (ReadR.indexE rfl rfl hasA (by first | assumption | omega)) ?_)
   | (show WPl _ _ _ _ _ _ _ (⟨_, .fieldAddr _ _ _, _, _, _, _⟩ :: _) _; refine WPl.rdX (ReadR.fieldE rfl hasA (by first | assumption | omega)) ?_)
   | (show WPl _ _ _ _ _ _ _ (⟨_, .load _ _, _, _, _, _⟩ :: _) _; first | refine WPl.rdX (ReadR.loadE rfl hasA (by assumption)) ?_ | refine WPl.rdX (ReadR.loadES (by assumption) (by first | assumption | omega) rfl hasA) ?_)
   | (show WPl _ _ _ _ _ _ _ (⟨_, .slice _ _ _ _ _, _, _, _, _⟩ :: _) _; first | refine WPl.rdX (ReadR.sliceH rfl rfl hasA (by omega)) ?_ | refine WPl.rdX (ReadR.sliceL rfl rfl hasA (by omega)) ?_ | refine WPl.rdX (ReadR.sliceLH rfl rfl rfl hasA (by omega) (by omega)) ?_)
   | (refine WPl.spQ (fun hc => ?_) (fun hc => ?_) <;> try exact prA)
   | fail)
  all_goals first | exact WPq.dV | exact WPq.dV (hc := by simp [resV]) | exact absurd rfl hc | simp at hc
/-- What is asked. -/
structure Ac where
  k : Int
  p : Pf
  n : Int
  now : Int
abbrev acC (a : Ac) : Ch := [(1, [.int .i64 a.k]), (1, [.bool a.p.1.six]), (16, u8s a.p.1.b), (1, [.int .i64 a.p.2]), (1, [.int .i64 a.n]), (1, [.int .u64 a.now])]
def acOk (a : Ac) : Prop := in64 a.k ∧ in64 a.p.2 ∧ in64 a.n ∧ 0 ≤ a.now ∧ a.now < 18446744073709551616
end Go.Proofs.Ytncgponcedkihaa
