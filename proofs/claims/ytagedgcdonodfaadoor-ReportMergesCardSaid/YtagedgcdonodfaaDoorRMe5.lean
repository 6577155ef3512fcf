/- What the row of reportMerges_card_holds needs: part 5. -/
import Derived.Test.YtagedgcdonodfaaDoorRMe4
import Derived.Test.YtagedgcdonodfaaDoorRMe3
import Derived.Lib.Bytealg
import Derived.Laws.Externs
/- Report: what is counted: contracts. -/
namespace Go.Proofs.YtagedgcdonodfaaDoor
instance iW1 : MapI Tryd.prog 49 whM := mapI_int (kT := 3) (eT := 3) (by kernel_rfl) (by kernel_rfl) (by kernel_rfl) (fun _ => rfl) (fun _ h => h) (by kernel_rfl)
instance iW2 : MapI Tryd.prog 48 whM := mapI_int (kT := 3) (eT := 3) (by kernel_rfl) (by kernel_rfl) (by kernel_rfl) (fun _ => rfl) (fun _ h => h) (by kernel_rfl)
abbrev plC (p : Int × Int) : Ch := [(1, [.int .i64 p.1]), (1, [.int .i64 p.2])]
instance iT1 : MapI Tryd.prog 50 toM :=
  mapI_of (kT := 56) (eT := 58) (ks := [some .i64, some .i64]) plC (fun _ => rfl) (by kernel_rfl) (have h : EqI Tryd.prog 56 _ := inferInstance; h) (by kernel_rfl) (by kernel_rfl) (by kernel_rfl) (by kernel_rfl) (of_decide_eq_true (by kernel_rfl)) (by kernel_rfl) (by kernel_rfl)
    (fun p hp => ⟨⟨⟨p.1, rfl⟩, ⟨p.2, rfl⟩, trivial⟩, fun v hv => by
      have hv : v ∈ [Value.int .i64 p.1, Value.int .i64 p.2] := hv
      simp only [List.mem_cons, List.not_mem_nil, or_false] at hv
      rcases hv with rfl | rfl
      · exact in64_wf hp.1
      · exact in64_wf hp.2⟩) (by kernel_rfl) (fun a b h => by
      obtain ⟨a1, a2⟩ := a
      obtain ⟨b1, b2⟩ := b
      simpa [flat_eq] using h)
/-- An answer in memory, and its bytes. -/
structure AR where
  ad : Option Addr
  cp : Nat
  a : An
  d : List UInt8
abbrev vA (r : AR) : Value := .slice r.ad r.a.ln r.cp
abbrev anC (r : AR) : Ch := [(1, [.int .i64 r.a.why]), (1, [vA r]), (1, [.int .i64 r.a.sv]), (1, [.int .i64 r.a.bk]), (1, [.bool r.a.nw]), (1, [.int .i64 r.a.er]), (1, [.int .i64 r.a.e2]), (1, [.int .i64 r.a.n]), (1, [.int .i64 r.a.m]), (1, [.bool r.a.on])]
abbrev vdC (r : AR) : Ch := [(1, [.int .i64 r.a.why]), (1, [vA r]), (1, [.int .i64 r.a.sv]), (1, [.int .i64 r.a.bk]), (1, [.bool r.a.nw]), (1, [.int .i64 r.a.er])]
def anW (r : AR) : Prop := in64 r.a.why ∧ in64 r.a.sv ∧ in64 r.a.bk ∧ in64 r.a.er
def ars (R : List AR) : List Value := (R.map fun r => flat (anC r)).flatten
instance anElt : EltN Tryd.prog 41 10 := ⟨by kernel_rfl⟩
theorem anC_len (r : AR) : (flat (anC r)).length = 10 := rfl
theorem ars_len (R : List AR) : (ars R).length = R.length * 10 := rows_len anC_len
theorem ars_at {R : List AR} {i : Nat} {r : AR} (h : R[i]? = some r) : ((ars R).drop (i * 10)).take 10 = flat (anC r) := rows_drop anC_len h
theorem ars_in {R : List AR} {i o : Nat} {r : AR} {u : Value} (h : R[i]? = some r) (ho : o < 10) (hu : (flat (anC r))[o]? = some u) : (ars R)[i * 10 + o]? = some u := rows_at anC_len h ho hu
/-- A report. -/
abbrev rpC (mW mE mT : Nat) : Ch := [(1, [.map (some mW)]), (1, [.map (some mE)]), (1, [.map (some mT)])]
abbrev rpA (gR mW mE mT : Nat) (W E : LN) (T : LT) : List Asn := [bx gR 52 (rpC mW mE mT), mp whM mW W, mp whM mE E, mp toM mT T]
open Go.RowKit
set_option linter.unusedSimpArgs false
set_option linter.unusedVariables false
set_option maxRecDepth 20000
set_option maxHeartbeats 4000000
attribute [local irreducible] WPc WPl WPq ReadR OpT BinR HasS bx rdN rowN Take Takes Prov Triple ResF BuildP Done ag Int.decLt Int.decLe Int.instDecidableEq
attribute [local irreducible] mp rmp rg rgo mput mget mfind mdel mhas ars
def RNewR : Value → List Asn → Prop := fun v Γ => ∃ gR mW mE mT, v = pB0 gR ∧ Γ = rpA gR mW mE mT [] [] []
theorem rnew_t : Triple Tryd.prog 7 #[] [] RNewR := by
  refine Triple.enter Tryd.func7 rfl Tryd.ntmps7 rfl (fun W => ?_)
  dsimp only [argsF, Nat.reduceAdd]
  repeat' (first
   | refine WPl.nil ?_ | refine WPq.then ?_ | refine WPq.thenR ?_ | refine WPq.thenE ?_ | refine WPq.blockN ?_ | refine WPq.blockR ?_ | refine WPq.blockE ?_ | refine WPq.blockO rfl ?_ | refine WPc.seq ?_ | refine WPc.block ?_ | refine WPc.ret ?_ | refine WPc.exit ?_ | refine WPc.skip ?_ | refine WPc.region ?_
   | (refine isCond ?_; first | refine WPc.cT ?_ | refine WPc.cF ?_ | (refine WPc.cQ (fun hc => ?_) (fun hc => ?_) <;> try exact prA))
   | (refine isD 1 ?_; refine WPl.mnew whM fun mW => ?_)
   | (refine isD 2 ?_; refine WPl.mnew whM fun mE => ?_)
   | (refine isD 3 ?_; refine WPl.mnew toM fun mT => ?_)
   | (refine isOp ?_; first | refine WPl.rd ?_ | refine WPl.sk ?_ | refine WPl.rdB ?_)
   | (refine isBx ?_; refine WPl.nw fun g => ?_)
   | (show WPl _ _ _ _ _ _ _ (⟨_, .indexAddr _ _ _, _, _, _, _⟩ :: _) _; refine WPl.rdX (ReadR.indexE rfl rfl hasA (by first | assumption | omega)) ?_)
   | (show WPl _ _ _ _ _ _ _ (⟨_, .fieldAddr _ _ _, _, _, _, _⟩ :: _) _; refine WPl.rdX (ReadR.fieldE rfl hasA (by first | assumption | omega)) ?_)
   | (show WPl _ _ _ _ _ _ _ (⟨_, .load _ _, _, _, _, _⟩ :: _) _; first | refine WPl.rdX (ReadR.loadE rfl hasA (by assumption)) ?_ | refine WPl.rdX (ReadR.loadES (by assumption) (by first | assumption | omega) rfl hasA) ?_)
   | (show WPl _ _ _ _ _ _ _ (⟨_, .slice _ _ _ _ _, _, _, _, _⟩ :: _) _; first | refine WPl.rdX (ReadR.sliceH rfl rfl hasA (by omega)) ?_ | refine WPl.rdX (ReadR.sliceL rfl rfl hasA (by omega)) ?_ | refine WPl.rdX (ReadR.sliceLH rfl rfl rfl hasA (by omega) (by omega)) ?_)
   | (refine WPl.spQ (fun hc => ?_) (fun hc => ?_) <;> try exact prA)
   | fail)
  exact WPq.dX (vs := [_]) [_, _, _, _] ⟨_, mW, mE, mT, rfl, rfl⟩
theorem more_t (m : Nat) (W : LN) (k by' : Int) (hk : in64 k) (h : in64 (mget whM W k + by')) : Triple Tryd.prog 19 #[.map (some m), .int .i64 k, .int .i64 by'] [mp whM m W] (RTurns (resV []) [mp whM m (mput W k (mget whM W k + by'))]) := by
  have hkw : whM.wf k := hk
  obtain ⟨c, hc⟩ : ∃ c, mget whM W k = c := ⟨_, rfl⟩
  have hget : whM.vc (mget whM W k) = .int .i64 c := by rw [hc]
  rw [hc] at h ⊢
  unfold in64 at h
  refine Triple.enter Tryd.func19 rfl Tryd.ntmps19 rfl (fun W => ?_)
  dsimp only [argsF, Nat.reduceAdd]
  repeat' (first
   | refine WPl.nil ?_ | refine WPq.then ?_ | refine WPq.thenR ?_ | refine WPq.thenE ?_ | refine WPq.blockN ?_ | refine WPq.blockR ?_ | refine WPq.blockE ?_ | refine WPq.blockO rfl ?_ | refine WPc.seq ?_ | refine WPc.block ?_ | refine WPc.ret ?_ | refine WPc.exit ?_ | refine WPc.skip ?_ | refine WPc.region ?_
   | (refine isCond ?_; first | refine WPc.cT ?_ | refine WPc.cF ?_ | (refine WPc.cQ (fun hc => ?_) (fun hc => ?_) <;> try exact prA))
   | (refine isD 8 ?_; refine WPl.rdX (ReadR.look (M := whM) (k := k) hkw rfl rfl memA hget) ?_)
   | (refine WPl.mput (k) ((c + by')) (hkw) ?_)
   | (refine isOp ?_; first | refine WPl.rd ?_ | refine WPl.sk ?_ | refine WPl.rdB ?_)
   | (show WPl _ _ _ _ _ _ _ (⟨_, .indexAddr _ _ _, _, _, _, _⟩ :: _) _; refine WPl.rdX (ReadR.indexE rfl rfl hasA (by first | assumption | omega)) ?_)
   | (show WPl _ _ _ _ _ _ _ (⟨_, .fieldAddr _ _ _, _, _, _, _⟩ :: _) _; refine WPl.rdX (ReadR.fieldE rfl hasA (by first | assumption | omega)) ?_)
   | (show WPl _ _ _ _ _ _ _ (⟨_, .load _ _, _, _, _, _⟩ :: _) _; first | refine WPl.rdX (ReadR.loadE rfl hasA (by assumption)) ?_ | refine WPl.rdX (ReadR.loadES (by assumption) (by first | assumption | omega) rfl hasA) ?_)
   | (show WPl _ _ _ _ _ _ _ (⟨_, .slice _ _ _ _ _, _, _, _, _⟩ :: _) _; first | refine WPl.rdX (ReadR.sliceH rfl rfl hasA (by omega)) ?_ | refine WPl.rdX (ReadR.sliceL rfl rfl hasA (by omega)) ?_ | refine WPl.rdX (ReadR.sliceLH rfl rfl rfl hasA (by omega) (by omega)) ?_)
   | (refine WPl.spQ (fun hc => ?_) (fun hc => ?_) <;> try exact prA)
   | fail)
  all_goals try (first | exact WPq.dTp | exact WPq.dTs | exact WPq.dV | exact WPq.dR | exact WPq.dR2 | exact WPq.dH | exact WPq.dBH | exact WPq.dT)
theorem goes_t (gR mW mE mT : Nat) (T : LT) (p q : Int × Int) (hp : in64 p.1 ∧ in64 p.2) (h1 : in64 ((mget toM T p).1 + q.1)) (h2 : in64 ((mget toM T p).2 + q.2)) :
    Triple Tryd.prog 20 #[pB0 gR, ag (plC p), ag (plC q)] [bx gR 52 (rpC mW mE mT), mp toM mT T] (RTurns (resV []) [bx gR 52 (rpC mW mE mT), mp toM mT (mput T p ((mget toM T p).1 + q.1, (mget toM T p).2 + q.2))]) := by
  have hkw : toM.wf p := hp
  obtain ⟨c, hc⟩ : ∃ c, mget toM T p = c := ⟨_, rfl⟩
  have hget : toM.vc (mget toM T p) = ag (plC c) := by rw [hc]
  rw [hc] at h1 h2 ⊢
  unfold in64 at h1 h2
  refine Triple.enter Tryd.func20 rfl Tryd.ntmps20 rfl (fun W => ?_)
  dsimp only [argsF, Nat.reduceAdd]
  repeat' (first
   | refine WPl.nil ?_ | refine WPq.then ?_ | refine WPq.thenR ?_ | refine WPq.thenE ?_ | refine WPq.blockN ?_ | refine WPq.blockR ?_ | refine WPq.blockE ?_ | refine WPq.blockO rfl ?_ | refine WPc.seq ?_ | refine WPc.block ?_ | refine WPc.ret ?_ | refine WPc.exit ?_ | refine WPc.skip ?_ | refine WPc.region ?_
   | (refine isReg 1 ?_; refine WPc.drA [([], [6, 11]), ([0], [6, 7, 11]), ([0, 1], [6, 7, 8, 11]), ([0, 1, 2], [6, 7, 8, 9, 11]), ([], [6, 7, 8, 9, 10]), ([0, 1, 2, 3, 4], [6, 7, 8, 9, 10, 11]), ([], [7, 8, 9, 10, 11, 12]), ([0, 1, 2, 3, 4, 5, 6], [6, 7, 8, 9, 10, 11, 12])] [(6, 7)] (Γx := []) ?_; dsimp only [prev0, List.length_nil, List.length_cons])
   | (refine gAny ?_; first | (refine gD 12 ?_; refine RGl.rdX (fun e hk => by (try dsimp only [bndR, ensR, oksR, fcutR, List.append_nil, List.nil_append, List.cons_append, List.append_assoc] at hk ⊢); exact ReadR.look (M := toM) (k := p) hkw rfl rfl memA hget) ?_) | (refine gOp ?_; first | refine RGl.rdA ?_ | refine RGl.rdX (fun e hk => by (try dsimp only [bndR, ensR, oksR, fcutR, List.append_nil, List.nil_append, List.cons_append, List.append_assoc] at hk ⊢); exact readB) ?_) | (refine gAl ?_; refine RGl.nwA ?_) | (refine gSt ?_; refine RGl.stA ?_) | (refine RGl.fin (fun e hk => ?_); (try dsimp only [bndA, ensAR, oksA, List.append_nil, List.nil_append, List.cons_append, List.append_assoc] at hk ⊢); (repeat (obtain ⟨hk1, hk⟩ := hk))) | fail)
   | (refine isCond ?_; first | refine WPc.cT ?_ | refine WPc.cF ?_ | (refine WPc.cQ (fun hc => ?_) (fun hc => ?_) <;> try exact prA))
   | (refine isOp ?_; first | refine WPl.rd ?_ | refine WPl.sk ?_ | refine WPl.rdB ?_)
   | (refine isAl ?_; refine WPl.nw fun g => ?_)
   | (refine isBx ?_; refine WPl.nw fun g => ?_)
   | (refine isSt ?_; first | refine WPl.st1 ?_ | refine WPl.stA ?_ | refine WPl.stEB ?_ | refine WPl.stRB ?_)
   | (show WPl _ _ _ _ _ _ _ (⟨_, .indexAddr _ _ _, _, _, _, _⟩ :: _) _; refine WPl.rdX (ReadR.indexE rfl rfl hasA (by first | assumption | omega)) ?_)
   | (show WPl _ _ _ _ _ _ _ (⟨_, .fieldAddr _ _ _, _, _, _, _⟩ :: _) _; refine WPl.rdX (ReadR.fieldE rfl hasA (by first | assumption | omega)) ?_)
   | (show WPl _ _ _ _ _ _ _ (⟨_, .load _ _, _, _, _, _⟩ :: _) _; first | refine WPl.rdX (ReadR.loadE rfl hasA (by assumption)) ?_ | refine WPl.rdX (ReadR.loadES (by assumption) (by first | assumption | omega) rfl hasA) ?_)
   | (show WPl _ _ _ _ _ _ _ (⟨_, .slice _ _ _ _ _, _, _, _, _⟩ :: _) _; first | refine WPl.rdX (ReadR.sliceH rfl rfl hasA (by omega)) ?_ | refine WPl.rdX (ReadR.sliceL rfl rfl hasA (by omega)) ?_ | refine WPl.rdX (ReadR.sliceLH rfl rfl rfl hasA (by omega) (by omega)) ?_)
   | (refine WPl.spQ (fun hc => ?_) (fun hc => ?_) <;> try exact prA)
   | fail)
  dsimp only [Nat.reduceAdd, appCh]
  generalize blk (e 6).1 = g6
  repeat' (first
   | refine WPl.nil ?_ | refine WPq.then ?_ | refine WPq.thenR ?_ | refine WPq.thenE ?_ | refine WPq.blockN ?_ | refine WPq.blockR ?_ | refine WPq.blockE ?_ | refine WPq.blockO rfl ?_ | refine WPc.seq ?_ | refine WPc.block ?_ | refine WPc.ret ?_ | refine WPc.exit ?_ | refine WPc.skip ?_ | refine WPc.region ?_
   | (refine isReg 2 ?_; refine WPc.drA [([17], [17, 18, 19, 20, 21, 22, 23, 24, 25, 26, 27, 28]), ([0, 17], [13, 17, 18, 19, 20, 21, 22, 23, 24, 25, 26, 27, 28]), ([0, 1, 17], [13, 14, 17, 18, 19, 20, 21, 22, 23, 24, 25, 26, 27, 28]), ([0, 1, 2, 17], [13, 14, 15, 17, 18, 19, 20, 21, 22, 23, 24, 25, 26, 27, 28]), ([17], [13, 14, 15, 16, 18, 19, 20, 21, 22, 23, 24, 25, 26, 27, 28]), ([17], [13, 14, 15, 16, 17, 20, 21, 23, 24, 25, 26, 27]), ([5, 17], [13, 14, 15, 16, 17, 18, 20, 21, 23, 24, 25, 26, 27]), ([17], [13, 14, 15, 16, 17, 18, 19, 23, 24, 25, 26, 27]), ([7, 17], [13, 14, 15, 16, 17, 18, 19, 20, 23, 24, 25, 26, 27]), ([5, 6, 7, 8, 17], [13, 14, 15, 16, 17, 18, 19, 20, 21, 23, 24, 25, 26, 27]), ([17], [13, 14, 15, 16, 17, 18, 19, 20, 21, 22, 25, 26]), ([10, 17], [13, 14, 15, 16, 17, 18, 19, 20, 21, 22, 23, 25, 26]), ([17], [13, 14, 15, 16, 17, 18, 19, 20, 21, 22, 23, 24]), ([12, 17], [13, 14, 15, 16, 17, 18, 19, 20, 21, 22, 23, 24, 25]), ([10, 11, 12, 13, 17], [13, 14, 15, 16, 17, 18, 19, 20, 21, 22, 23, 24, 25, 26]), ([5, 6, 7, 8, 9, 10, 11, 12, 13, 14, 17], [13, 14, 15, 16, 17, 18, 19, 20, 21, 22, 23, 24, 25, 26, 27]), ([0, 1, 2, 3, 4, 5, 6, 7, 8, 9, 10, 11, 12, 13, 14, 15, 17], [13, 14, 15, 16, 17, 18, 19, 20, 21, 22, 23, 24, 25, 26, 27, 28])] [(17, 16), (17, 0), (17, 1), (17, 2), (17, 3), (17, 4), (17, 5), (17, 6), (17, 7), (17, 8), (17, 9), (17, 10), (17, 11), (17, 12), (17, 13), (17, 14), (17, 15)] (Γx := [mp toM mT T]) (hox := ownsA) ?_; dsimp only [prev0, List.length_nil, List.length_cons])
   | (refine gAny ?_; first | (refine gOp ?_; refine RGl.turn (fun e hk => by (try dsimp only [bndR, ensR, oksR, fcutR, List.append_nil, List.nil_append, List.cons_append, List.append_assoc] at hk ⊢); exact OpT.mput (k := p) (v := (c.1 + q.1, c.2 + q.2)) (hkw) rfl rfl rfl takesA) ?_) | (refine gD 28 ?_; refine RGl.rdX (fun e hk => by (try dsimp only [bndR, ensR, oksR, fcutR, List.append_nil, List.nil_append, List.cons_append, List.append_assoc] at hk ⊢); exact ReadR.build (cs' := plC (c.1 + q.1, c.2 + q.2)) buildA) ?_) | (refine gOp ?_; first | refine RGl.rdA ?_ | refine RGl.rdX (fun e hk => by (try dsimp only [bndR, ensR, oksR, fcutR, List.append_nil, List.nil_append, List.cons_append, List.append_assoc] at hk ⊢); exact readB) ?_) | (refine RGl.fin (fun e hk => ?_); (try dsimp only [bndA, ensAR, oksA, List.append_nil, List.nil_append, List.cons_append, List.append_assoc] at hk ⊢); (repeat (obtain ⟨hk1, hk⟩ := hk))) | fail)
   | (refine isCond ?_; first | refine WPc.cT ?_ | refine WPc.cF ?_ | (refine WPc.cQ (fun hc => ?_) (fun hc => ?_) <;> try exact prA))
   | (refine WPl.mput (p) ((c.1 + q.1, c.2 + q.2)) (hkw) ?_)
   | (refine isOp ?_; first | refine WPl.rd ?_ | refine WPl.sk ?_ | refine WPl.rdB ?_)
   | (refine isAl ?_; refine WPl.nw fun g => ?_)
   | (refine isBx ?_; refine WPl.nw fun g => ?_)
   | (refine isSt ?_; first | refine WPl.st1 ?_ | refine WPl.stA ?_ | refine WPl.stEB ?_ | refine WPl.stRB ?_)
   | (show WPl _ _ _ _ _ _ _ (⟨_, .indexAddr _ _ _, _, _, _, _⟩ :: _) _; refine WPl.rdX (ReadR.indexE rfl rfl hasA (by first | assumption | omega)) ?_)
   | (show WPl _ _ _ _ _ _ _ (⟨_, .fieldAddr _ _ _, _, _, _, _⟩ :: _) _; refine WPl.rdX (ReadR.fieldE rfl hasA (by first | assumption | omega)) ?_)
   | (show WPl _ _ _ _ _ _ _ (⟨_, .load _ _, _, _, _, _⟩ :: _) _; first | refine WPl.rdX (ReadR.loadE rfl hasA (by assumption)) ?_ | refine WPl.rdX (ReadR.loadES (by assumption) (by first | assumption | omega) rfl hasA) ?_)
   | (show WPl _ _ _ _ _ _ _ (⟨_, .slice _ _ _ _ _, _, _, _, _⟩ :: _) _; first | refine WPl.rdX (ReadR.sliceH rfl rfl hasA (by omega)) ?_ | refine WPl.rdX (ReadR.sliceL rfl rfl hasA (by omega)) ?_ | refine WPl.rdX (ReadR.sliceLH rfl rfl rfl hasA (by omega) (by omega)) ?_)
   | (refine WPl.spQ (fun hc => ?_) (fun hc => ?_) <;> try exact prA)
   | fail)
  all_goals try (first | exact WPq.dTp | exact WPq.dTs | exact WPq.dV | exact WPq.dR | exact WPq.dR2 | exact WPq.dH | exact WPq.dBH | exact WPq.dT)
theorem why_t (gR mW mE mT : Nat) (W : LN) (k : Int) (hk : in64 k) : Triple Tryd.prog 11 #[pB0 gR, .int .i64 k] [rbx gR 52 (rpC mW mE mT), rmp whM mW W] (RVal (.int .i64 (mget whM W k))) := by
  have hkw : whM.wf k := hk
  obtain ⟨c, hc⟩ : ∃ c, mget whM W k = c := ⟨_, rfl⟩
  have hget : whM.vc (mget whM W k) = .int .i64 c := by rw [hc]
  rw [hc]
  refine Triple.enter Tryd.func11 rfl Tryd.ntmps11 rfl (fun W => ?_)
  dsimp only [argsF, Nat.reduceAdd]
  repeat' (first
   | refine WPl.nil ?_ | refine WPq.then ?_ | refine WPq.thenR ?_ | refine WPq.thenE ?_ | refine WPq.blockN ?_ | refine WPq.blockR ?_ | refine WPq.blockE ?_ | refine WPq.blockO rfl ?_ | refine WPc.seq ?_ | refine WPc.block ?_ | refine WPc.ret ?_ | refine WPc.exit ?_ | refine WPc.skip ?_ | refine WPc.region ?_
   | (refine isCond ?_; first | refine WPc.cT ?_ | refine WPc.cF ?_ | (refine WPc.cQ (fun hc => ?_) (fun hc => ?_) <;> try exact prA))
   | (refine isD 6 ?_; refine WPl.rdX (readP) ?_)
   | (refine isD 10 ?_; refine WPl.rdX (ReadR.loadO memA rfl rfl) ?_)
   | (refine isD 12 ?_; refine WPl.rdX (ReadR.lookM (M := whM) (k := k) hkw rfl rfl memA hget) ?_)
   | (refine isOp ?_; first | refine WPl.rd ?_ | refine WPl.sk ?_ | refine WPl.rdB ?_)
   | (show WPl _ _ _ _ _ _ _ (⟨_, .indexAddr _ _ _, _, _, _, _⟩ :: _) _; refine WPl.rdX (ReadR.indexE rfl rfl hasA (by first | assumption | omega)) ?_)
   | (show WPl _ _ _ _ _ _ _ (⟨_, .fieldAddr _ _ _, _, _, _, _⟩ :: _) _; refine WPl.rdX (ReadR.fieldE rfl hasA (by first | assumption | omega)) ?_)
   | (show WPl _ _ _ _ _ _ _ (⟨_, .load _ _, _, _, _, _⟩ :: _) _; first | refine WPl.rdX (ReadR.loadE rfl hasA (by assumption)) ?_ | refine WPl.rdX (ReadR.loadES (by assumption) (by first | assumption | omega) rfl hasA) ?_)
   | (show WPl _ _ _ _ _ _ _ (⟨_, .slice _ _ _ _ _, _, _, _, _⟩ :: _) _; first | refine WPl.rdX (ReadR.sliceH rfl rfl hasA (by omega)) ?_ | refine WPl.rdX (ReadR.sliceL rfl rfl hasA (by omega)) ?_ | refine WPl.rdX (ReadR.sliceLH rfl rfl rfl hasA (by omega) (by omega)) ?_)
   | (refine WPl.spQ (fun hc => ?_) (fun hc => ?_) <;> try exact prA)
   | fail)
  all_goals try (first | exact WPq.dTp | exact WPq.dTs | exact WPq.dV | exact WPq.dR | exact WPq.dR2 | exact WPq.dH | exact WPq.dBH | exact WPq.dT)
theorem errs_t (gR mW mE mT : Nat) (E : LN) (k : Int) (hk : in64 k) : Triple Tryd.prog 17 #[pB0 gR, .int .i64 k] [rbx gR 52 (rpC mW mE mT), rmp whM mE E] (RVal (.int .i64 (mget whM E k))) := by
  have hkw : whM.wf k := hk
  obtain ⟨c, hc⟩ : ∃ c, mget whM E k = c := ⟨_, rfl⟩
  have hget : whM.vc (mget whM E k) = .int .i64 c := by rw [hc]
  rw [hc]
  refine Triple.enter Tryd.func17 rfl Tryd.ntmps17 rfl (fun W => ?_)
  dsimp only [argsF, Nat.reduceAdd]
  repeat' (first
   | refine WPl.nil ?_ | refine WPq.then ?_ | refine WPq.thenR ?_ | refine WPq.thenE ?_ | refine WPq.blockN ?_ | refine WPq.blockR ?_ | refine WPq.blockE ?_ | refine WPq.blockO rfl ?_ | refine WPc.seq ?_ | refine WPc.block ?_ | refine WPc.ret ?_ | refine WPc.exit ?_ | refine WPc.skip ?_ | refine WPc.region ?_
   | (refine isCond ?_; first | refine WPc.cT ?_ | refine WPc.cF ?_ | (refine WPc.cQ (fun hc => ?_) (fun hc => ?_) <;> try exact prA))
   | (refine isD 6 ?_; refine WPl.rdX (readP) ?_)
   | (refine isD 10 ?_; refine WPl.rdX (ReadR.loadO memA rfl rfl) ?_)
   | (refine isD 12 ?_; refine WPl.rdX (ReadR.lookM (M := whM) (k := k) hkw rfl rfl memA hget) ?_)
   | (refine isOp ?_; first | refine WPl.rd ?_ | refine WPl.sk ?_ | refine WPl.rdB ?_)
   | (show WPl _ _ _ _ _ _ _ (⟨_, .indexAddr _ _ _, _, _, _, _⟩ :: _) _; refine WPl.rdX (ReadR.indexE rfl rfl hasA (by first | assumption | omega)) ?_)
   | (show WPl _ _ _ _ _ _ _ (⟨_, .fieldAddr _ _ _, _, _, _, _⟩ :: _) _; refine WPl.rdX (ReadR.fieldE rfl hasA (by first | assumption | omega)) ?_)
   | (show WPl _ _ _ _ _ _ _ (⟨_, .load _ _, _, _, _, _⟩ :: _) _; first | refine WPl.rdX (ReadR.loadE rfl hasA (by assumption)) ?_ | refine WPl.rdX (ReadR.loadES (by assumption) (by first | assumption | omega) rfl hasA) ?_)
   | (show WPl _ _ _ _ _ _ _ (⟨_, .slice _ _ _ _ _, _, _, _, _⟩ :: _) _; first | refine WPl.rdX (ReadR.sliceH rfl rfl hasA (by omega)) ?_ | refine WPl.rdX (ReadR.sliceL rfl rfl hasA (by omega)) ?_ | refine WPl.rdX (ReadR.sliceLH rfl rfl rfl hasA (by omega) (by omega)) ?_)
   | (refine WPl.spQ (fun hc => ?_) (fun hc => ?_) <;> try exact prA)
   | fail)
  all_goals try (first | exact WPq.dTp | exact WPq.dTs | exact WPq.dV | exact WPq.dR | exact WPq.dR2 | exact WPq.dH | exact WPq.dBH | exact WPq.dT)
theorem merge1_t (g : Nat) : Triple Tryd.prog 16 #[pB0 g, .pointer none] [] (RVal (resV [])) := by
  refine Triple.enter Tryd.func16 rfl Tryd.ntmps16 rfl (fun W => ?_)
  dsimp only [argsF, Nat.reduceAdd]
  repeat' (first
   | refine WPl.nil ?_ | refine WPq.then ?_ | refine WPq.thenR ?_ | refine WPq.thenE ?_ | refine WPq.blockN ?_ | refine WPq.blockR ?_ | refine WPq.blockE ?_ | refine WPq.blockO rfl ?_ | refine WPc.seq ?_ | refine WPc.block ?_ | refine WPc.ret ?_ | refine WPc.exit ?_ | refine WPc.skip ?_ | refine WPc.region ?_
   | (refine isCond ?_; first | refine WPc.cT ?_ | refine WPc.cF ?_ | (refine WPc.cQ (fun hc => ?_) (fun hc => ?_) <;> try exact prA))
   | (refine isD 14 ?_; refine WPl.rdX (readP) ?_)
   | (refine isD 17 ?_; refine WPl.rdX (readP) ?_)
   | (refine isOp ?_; first | refine WPl.rd ?_ | refine WPl.sk ?_ | refine WPl.rdB ?_)
   | (refine isAl ?_; refine WPl.nw fun g => ?_)
   | (refine isSt ?_; first | refine WPl.st1 ?_ | refine WPl.stA ?_ | refine WPl.stEB ?_ | refine WPl.stRB ?_)
   | (show WPl _ _ _ _ _ _ _ (⟨_, .indexAddr _ _ _, _, _, _, _⟩ :: _) _; refine WPl.rdX (ReadR.indexE rfl rfl hasA (by first | assumption | omega)) ?_)
   | (show WPl _ _ _ _ _ _ _ (⟨_, .fieldAddr _ _ _, _, _, _, _⟩ :: _) _; refine WPl.rdX (ReadR.fieldE rfl hasA (by first | assumption | omega)) ?_)
   | (show WPl _ _ _ _ _ _ _ (⟨_, .load _ _, _, _, _, _⟩ :: _) _; first | refine WPl.rdX (ReadR.loadE rfl hasA (by assumption)) ?_ | refine WPl.rdX (ReadR.loadES (by assumption) (by first | assumption | omega) rfl hasA) ?_)
   | (show WPl _ _ _ _ _ _ _ (⟨_, .slice _ _ _ _ _, _, _, _, _⟩ :: _) _; first | refine WPl.rdX (ReadR.sliceH rfl rfl hasA (by omega)) ?_ | refine WPl.rdX (ReadR.sliceL rfl rfl hasA (by omega)) ?_ | refine WPl.rdX (ReadR.sliceLH rfl rfl rfl hasA (by omega) (by omega)) ?_)
   | (refine WPl.spQ (fun hc => ?_) (fun hc => ?_) <;> try exact prA)
   | fail)
  all_goals try (first | exact WPq.dTp | exact WPq.dTs | exact WPq.dV | exact WPq.dR | exact WPq.dR2 | exact WPq.dH | exact WPq.dBH | exact WPq.dT)
/-- The sum of a map of counts. -/
theorem all_t (m : Nat) (C : LN) (hb : ∀ td : LN, td.Sublist C → in64 (sumV C - sumV td)) : Triple Tryd.prog 23 #[.map (some m)] [mp whM m C] (RTurns (.int .i64 (sumV C)) [mp whM m C]) := by
  refine Triple.enter Tryd.func23 rfl Tryd.ntmps23 rfl (fun W => ?_)
  dsimp only [argsF, Nat.reduceAdd]
  repeat' (first
   | refine WPl.nil ?_ | refine WPq.then ?_ | refine WPq.thenR ?_ | refine WPq.thenE ?_ | refine WPq.blockN ?_ | refine WPq.blockR ?_ | refine WPq.blockE ?_ | refine WPq.blockO rfl ?_ | refine WPc.seq ?_ | refine WPc.block ?_ | refine WPc.ret ?_ | refine WPc.exit ?_ | refine WPc.skip ?_ | refine WPc.region ?_
   | (refine isCond ?_; first | refine WPc.cT ?_ | refine WPc.cF ?_ | (refine WPc.cQ (fun hc => ?_) (fun hc => ?_) <;> try exact prA))
   | (refine isD 7 ?_; refine WPl.mrange fun r => ?_)
   | (refine isOp ?_; first | refine WPl.rd ?_ | refine WPl.sk ?_ | refine WPl.rdB ?_)
   | (show WPl _ _ _ _ _ _ _ (⟨_, .indexAddr _ _ _, _, _, _, _⟩ :: _) _; refine WPl.rdX (ReadR.indexE rfl rfl hasA (by first | assumption | omega)) ?_)
   | (show WPl _ _ _ _ _ _ _ (⟨_, .fieldAddr _ _ _, _, _, _, _⟩ :: _) _; refine WPl.rdX (ReadR.fieldE rfl hasA (by first | assumption | omega)) ?_)
   | (show WPl _ _ _ _ _ _ _ (⟨_, .load _ _, _, _, _, _⟩ :: _) _; first | refine WPl.rdX (ReadR.loadE rfl hasA (by assumption)) ?_ | refine WPl.rdX (ReadR.loadES (by assumption) (by first | assumption | omega) rfl hasA) ?_)
   | (show WPl _ _ _ _ _ _ _ (⟨_, .slice _ _ _ _ _, _, _, _, _⟩ :: _) _; first | refine WPl.rdX (ReadR.sliceH rfl rfl hasA (by omega)) ?_ | refine WPl.rdX (ReadR.sliceL rfl rfl hasA (by omega)) ?_ | refine WPl.rdX (ReadR.sliceLH rfl rfl rfl hasA (by omega) (by omega)) ?_)
   | (refine WPl.spQ (fun hc => ?_) (fun hc => ?_) <;> try exact prA)
   | fail)
  first | refine WPc.loop (σ := Int × LN × Option (Int × Int)) (fun st => st.1 + sumV st.2.1 = sumV C) (fun st => [rg whM m r C st.2.1 st.2.2]) (fun st => [(7, .pointer (some ⟨r, 0, none⟩)), (3, .int .i64 st.1)]) (fun st => st.2.1.length) (⟨0, C, none⟩) ?_ takesA frsA (fun st km hx hk => ?_)
  · show 0 + sumV C = sumV C
    omega
  obtain ⟨n, td, cu⟩ := st
  dsimp only at hx hk ⊢
  refine WPc.rgsub (M := whM) memA fun hsub hnd hwf => ?_
  repeat' (first
   | refine WPl.nil ?_ | refine WPq.then ?_ | refine WPq.thenR ?_ | refine WPq.thenE ?_ | refine WPq.blockN ?_ | refine WPq.blockR ?_ | refine WPq.blockE ?_ | refine WPq.blockO rfl ?_ | refine WPc.seq ?_ | refine WPc.block ?_ | refine WPc.ret ?_ | refine WPc.exit ?_ | refine WPc.skip ?_ | refine WPc.region ?_
   | (refine isCond ?_; first | refine WPc.cT ?_ | refine WPc.cF ?_ | (refine WPc.cQ (fun hc => ?_) (fun hc => ?_) <;> try exact prA))
   | (refine isD 8 ?_; refine WPl.mnext (M := whM) (fun k => .int .i64 k) (fun s => .int .i64 s) (fun h0 => ?_) (fun A y B hAB => ?_); rotate_left; have hs1 : (A ++ B).Sublist C := (by rw [hAB] at hsub; exact ((List.Sublist.refl A).append (List.sublist_cons_self y B)).trans hsub); have hs2 := hb _ hs1; have hs3 : sumV td = sumV (A ++ B) + y.2 := (by rw [hAB]; exact sumV_mid); unfold in64 at hs2; rotate_left)
   | (refine isD 10 ?_; refine WPl.rdX (ReadR.entry (kv := .int .i64 y.1) (vv := .int .i64 y.2) rfl rfl memA rfl) ?_)
   | (refine isOp ?_; first | refine WPl.rd ?_ | refine WPl.sk ?_ | refine WPl.rdB ?_)
   | (show WPl _ _ _ _ _ _ _ (⟨_, .indexAddr _ _ _, _, _, _, _⟩ :: _) _; refine WPl.rdX (ReadR.indexE rfl rfl hasA (by first | assumption | omega)) ?_)
   | (show WPl _ _ _ _ _ _ _ (⟨_, .fieldAddr _ _ _, _, _, _, _⟩ :: _) _; refine WPl.rdX (ReadR.fieldE rfl hasA (by first | assumption | omega)) ?_)
   | (show WPl _ _ _ _ _ _ _ (⟨_, .load _ _, _, _, _, _⟩ :: _) _; first | refine WPl.rdX (ReadR.loadE rfl hasA (by assumption)) ?_ | refine WPl.rdX (ReadR.loadES (by assumption) (by first | assumption | omega) rfl hasA) ?_)
   | (show WPl _ _ _ _ _ _ _ (⟨_, .slice _ _ _ _ _, _, _, _, _⟩ :: _) _; first | refine WPl.rdX (ReadR.sliceH rfl rfl hasA (by omega)) ?_ | refine WPl.rdX (ReadR.sliceL rfl rfl hasA (by omega)) ?_ | refine WPl.rdX (ReadR.sliceLH rfl rfl rfl hasA (by omega) (by omega)) ?_)
   | (refine WPl.spQ (fun hc => ?_) (fun hc => ?_) <;> try exact prA)
   | fail)
  · subst h0
    have hn : n = sumV C := by have : sumV [] = 0 := rfl; omega
    rw [hn]
    refine WPq.rgOut (M := whM) (m := m) (r := r) (l := C) (td := []) (c := cu) takeA ?_
    exact WPq.dTp
  · exact WPq.rnd (n + y.2, A ++ B, some y) (by dsimp only; omega) (by dsimp only; rw [hk, hAB]; simp)
end Go.Proofs.YtagedgcdonodfaaDoor
/- Report: answers that are counted: contracts. -/
namespace Go.Proofs.YtagedgcdonodfaaDoor
theorem in64_of {n : Int} (h1 : -9000000000000000000 ≤ n) (h2 : n ≤ 9000000000000000000) : in64 n := by unfold in64; omega
/-- What is counted is small. -/
theorem rep_w {l : List An} {C E : LN} {T : LT} (h : Rep l C E T) (k : Int) : 0 ≤ mget whM C k ∧ mget whM C k ≤ l.length := by
  rw [h.w.get]
  have := why_len (l := l) (k := k)
  omega
theorem rep_e {l : List An} {C E : LN} {T : LT} (h : Rep l C E T) (k : Int) : 0 ≤ mget whM E k ∧ mget whM E k ≤ l.length := by
  rw [h.e.get]
  have := err_len (l := l) (k := k)
  omega
theorem rep_t {l : List An} {C E : LN} {T : LT} (h : Rep l C E T) (hl : ∀ a ∈ l, a.ln ≤ 60) (p : Int × Int) : 0 ≤ (mget toM T p).1 ∧ (mget toM T p).1 ≤ l.length ∧ 0 ≤ (mget toM T p).2 ∧ (mget toM T p).2 ≤ 60 * l.length := by
  rw [h.t.get]
  have h1 := to_len (l := l) (p := p)
  have h2 := tob_len (p := p) hl
  dsimp only
  omega
theorem addW_eq (W : LN) (a : An) : addW W a = mput W a.why (mget whM W a.why + 1) := by unfold addW; simp
theorem addE_eq (E : LN) (a : An) (h : a.er ≠ 0) : addE E a = mput E a.er (mget whM E a.er + 1) := by unfold addE; rw [if_neg h]; simp
theorem addE_no (E : LN) (a : An) (h : a.er = 0) : addE E a = E := by unfold addE; rw [if_pos h]
theorem addT_eq (T : LT) (a : An) (h : a.why = 1) : addT T a = mput T (a.sv, a.bk) ((mget toM T (a.sv, a.bk)).1 + 1, (mget toM T (a.sv, a.bk)).2 + (a.ln : Int)) := by unfold addT; rw [if_pos h]; simp
theorem addT_no (T : LT) (a : An) (h : a.why ≠ 1) : addT T a = T := by unfold addT; rw [if_neg h]
def plL (R : List AR) : List An := R.map (·.a)
theorem plL_take {R : List AR} {i : Nat} {r : AR} (h : R[i]? = some r) : plL (R.take (i + 1)) = plL (R.take i) ++ [r.a] := by
  unfold plL
  rw [List.take_add_one, h]
  simp
open Go.RowKit
set_option linter.unusedSimpArgs false
set_option linter.unusedVariables false
set_option maxRecDepth 20000
set_option maxHeartbeats 2000000
attribute [local irreducible] WPc WPl WPq ReadR OpT BinR HasS bx rdN rowN Take Takes Prov Triple ResF BuildP Done ag Int.decLt Int.decLe Int.instDecidableEq
attribute [local irreducible] mp rmp rg rgo mput mget mfind mdel mhas ars
def RAdd (gR mW mE mT : Nat) (l : List An) (n : Nat) : Value → List Asn → Prop := fun v Γ => ∃ (C E : LN) (T : LT), v = .int .i64 (n : Int) ∧ Γ = rpA gR mW mE mT C E T ∧ Rep l C E T
theorem add_t (gR mW mE mT : Nat) (vl : Value) (R : List AR) (C E : LN) (T : LT) (hR : ∀ r ∈ R, anW r) (l0 : List An) (hrep : Rep l0 C E T) (hlen : l0.length + R.length ≤ 1000) (hln : ∀ r ∈ R, r.a.ln ≤ 60) (hl0 : ∀ a ∈ l0, a.ln ≤ 60) :
    Triple Tryd.prog 8 #[pB0 gR, vl] ([rdN vl R.length (ars R)] ++ rpA gR mW mE mT C E T) (RAdd gR mW mE mT (l0 ++ plL R) ((plL R).countP cntA)) := by
  have hlen2 := ars_len R
  show Triple _ _ _ [rdN vl R.length (ars R), bx gR 52 (rpC mW mE mT), mp whM mW C, mp whM mE E, mp toM mT T] _
  refine Triple.enter Tryd.func8 rfl Tryd.ntmps8 rfl (fun W => ?_)
  dsimp only [argsF, Nat.reduceAdd]
  repeat' (first
   | refine WPl.nil ?_ | refine WPq.then ?_ | refine WPq.thenR ?_ | refine WPq.thenE ?_ | refine WPq.blockN ?_ | refine WPq.blockR ?_ | refine WPq.blockE ?_ | refine WPq.blockO rfl ?_ | refine WPc.seq ?_ | refine WPc.block ?_ | refine WPc.ret ?_ | refine WPc.exit ?_ | refine WPc.skip ?_ | refine WPc.region ?_
   | (refine isCond ?_; first | refine WPc.cT ?_ | refine WPc.cF ?_ | (refine WPc.cQ (fun hc => ?_) (fun hc => ?_) <;> try exact prA))
   | (refine isD 10 ?_; refine WPl.rdX (readP) ?_)
   | (refine isOp ?_; first | refine WPl.rd ?_ | refine WPl.sk ?_ | refine WPl.rdB ?_)
   | (refine isAl ?_; refine WPl.nw fun g => ?_)
   | (refine isSt ?_; first | refine WPl.st1 ?_ | refine WPl.stA ?_ | refine WPl.stEB ?_ | refine WPl.stRB ?_)
   | (show WPl _ _ _ _ _ _ _ (⟨_, .indexAddr _ _ _, _, _, _, _⟩ :: _) _; refine WPl.rdX (ReadR.indexE rfl rfl hasA (by first | assumption | omega)) ?_)
   | (show WPl _ _ _ _ _ _ _ (⟨_, .fieldAddr _ _ _, _, _, _, _⟩ :: _) _; refine WPl.rdX (ReadR.fieldE rfl hasA (by first | assumption | omega)) ?_)
   | (show WPl _ _ _ _ _ _ _ (⟨_, .load _ _, _, _, _, _⟩ :: _) _; first | refine WPl.rdX (ReadR.loadE rfl hasA (by assumption)) ?_ | refine WPl.rdX (ReadR.loadES (by assumption) (by first | assumption | omega) rfl hasA) ?_)
   | (show WPl _ _ _ _ _ _ _ (⟨_, .slice _ _ _ _ _, _, _, _, _⟩ :: _) _; first | refine WPl.rdX (ReadR.sliceH rfl rfl hasA (by omega)) ?_ | refine WPl.rdX (ReadR.sliceL rfl rfl hasA (by omega)) ?_ | refine WPl.rdX (ReadR.sliceLH rfl rfl rfl hasA (by omega) (by omega)) ?_)
   | (refine WPl.spQ (fun hc => ?_) (fun hc => ?_) <;> try exact prA)
   | fail)
  first | refine WPc.loop (σ := Nat × LN × LN × LT × Int) (fun st => st.1 ≤ R.length ∧ Rep (l0 ++ plL (R.take st.1)) st.2.1 st.2.2.1 st.2.2.2.1 ∧ st.2.2.2.2 = ((plL (R.take st.1)).countP cntA : Nat)) (fun st => [rdN vl R.length (ars R), bx gR 52 (rpC mW mE mT), mp whM mW st.2.1, mp whM mE st.2.2.1, mp toM mT st.2.2.2.1]) (fun st => [(0, pB0 gR), (5, .int .i64 st.2.2.2.2), (11, vl), (12, .int .i64 (R.length : Int)), (13, .int .i64 (st.1 : Int))]) (fun st => R.length - st.1) (⟨0, C, E, T, 0⟩) ?_ takesA frsA (fun st km hx hk => ?_)
  · refine ⟨Nat.zero_le _, ?_, by simp [plL]⟩
    simpa [plL] using hrep
  obtain ⟨i, C, E, T, q⟩ := st
  obtain ⟨hi, hrp, hq⟩ := hx
  dsimp only at hi hrp hq hk ⊢
  by_cases hin : i < R.length
  · obtain ⟨r, hr⟩ : ∃ r, R[i]? = some r := ⟨_, List.getElem?_eq_getElem hin⟩
    have hmem := List.mem_of_getElem? hr
    obtain ⟨w1, w2, w3, w4⟩ := hR r hmem
    have hrl := hln r hmem
    have htk := plL_take hr
    have hat := ars_at hr
    have hlt' : (i : Int) < (R.length : Int) := by omega
    have hct : (plL (R.take i)).countP cntA ≤ 1000 := by
      have h1 : (plL (R.take i)).countP cntA ≤ (plL (R.take i)).length := List.countP_le_length
      have h2 : (plL (R.take i)).length = (R.take i).length := by unfold plL; rw [List.length_map]
      have h3 : (R.take i).length ≤ R.length := by rw [List.length_take]; omega
      omega
    have hll : (l0 ++ plL (R.take i)).length ≤ 1000 := by
      have h2 : (plL (R.take i)).length = (R.take i).length := by unfold plL; rw [List.length_map]
      have h3 : (R.take i).length ≤ R.length := by rw [List.length_take]; omega
      rw [List.length_append]; omega
    have hla : ∀ a ∈ l0 ++ plL (R.take i), a.ln ≤ 60 := fun a ha => by
      rcases List.mem_append.1 ha with ha | ha
      · exact hl0 a ha
      · obtain ⟨q, hq, rfl⟩ := List.mem_map.1 ha
        exact hln q (List.mem_of_mem_take hq)
    have b1 := rep_w hrp r.a.why
    have b2 := rep_e hrp r.a.er
    have b3 := rep_t hrp hla (r.a.sv, r.a.bk)
    have c35 := more_t mW C r.a.why 1 w1 (in64_of (by omega) (by omega))
    have c45 := more_t mE E r.a.er 1 w4 (in64_of (by omega) (by omega))
    have c59 := goes_t gR mW mE mT T (r.a.sv, r.a.bk) (1, (r.a.ln : Int)) ⟨w2, w3⟩ (in64_of (by dsimp only; omega) (by dsimp only; omega)) (in64_of (by dsimp only; omega) (by dsimp only; omega))
    dsimp only at c59
    have hal : l0 ++ plL (R.take i) ++ [r.a] = l0 ++ plL (R.take (i + 1)) := by rw [htk, List.append_assoc]
    by_cases hc : cntA r.a = true
    · have hn := hrp.add hc
      rw [hal, addW_eq] at hn
      have hq2 : q + 1 = ((plL (R.take (i + 1))).countP cntA : Nat) := by rw [hq, htk, List.countP_append]; simp [hc]
      have hc2 := hc
      unfold cntA at hc2
      simp only [Bool.and_eq_true, decide_eq_true_eq] at hc2
      by_cases he : r.a.er = 0
      · rw [addE_no _ _ he] at hn
        by_cases hw : r.a.why = 1
        · rw [addT_eq _ _ hw] at hn
          repeat' (first
           | refine WPl.nil ?_ | refine WPq.then ?_ | refine WPq.thenR ?_ | refine WPq.thenE ?_ | refine WPq.blockN ?_ | refine WPq.blockR ?_ | refine WPq.blockE ?_ | refine WPq.blockO rfl ?_ | refine WPc.seq ?_ | refine WPc.block ?_ | refine WPc.ret ?_ | refine WPc.exit ?_ | refine WPc.skip ?_ | refine WPc.region ?_
           | (refine isReg 10 ?_; refine WPc.drA [([7], [33, 34]), ([0, 7], [29, 33, 34]), ([0, 1, 7], [29, 30, 33, 34]), ([0, 1, 2, 7], [29, 30, 31, 33, 34]), ([7], [29, 30, 31, 32]), ([4, 7], [29, 30, 31, 32, 33]), ([0, 1, 2, 3, 4, 5, 7], [29, 30, 31, 32, 33, 34])] [(7, 6), (7, 0), (7, 1), (7, 2), (7, 3), (7, 4), (7, 5)] (Γx := [mp whM mW C]) (hox := ownsA) ?_; dsimp only [prev0, List.length_nil, List.length_cons])
           | (refine isReg 12 ?_; refine WPc.drA [([7], [43, 44]), ([0, 7], [39, 43, 44]), ([0, 1, 7], [39, 40, 43, 44]), ([0, 1, 2, 7], [39, 40, 41, 43, 44]), ([7], [39, 40, 41, 42]), ([4, 7], [39, 40, 41, 42, 43]), ([0, 1, 2, 3, 4, 5, 7], [39, 40, 41, 42, 43, 44])] [(7, 6), (7, 0), (7, 1), (7, 2), (7, 3), (7, 4), (7, 5)] (Γx := [mp whM mE E]) (hox := ownsA) ?_; dsimp only [prev0, List.length_nil, List.length_cons])
           | (refine gAny ?_; first | (refine gC 35 ?_; refine RGl.turns (fun e hk => by (try dsimp only [bndR, ensR, oksR, fcutR, List.append_nil, List.nil_append, List.cons_append, List.append_assoc] at hk ⊢); exact OpT.callTs (c35)) ?_) | (refine gC 45 ?_; refine RGl.turns (fun e hk => by (try dsimp only [bndR, ensR, oksR, fcutR, List.append_nil, List.nil_append, List.cons_append, List.append_assoc] at hk ⊢); exact OpT.callTs (c45)) ?_) | (refine gC 59 ?_; refine RGl.turns (fun e hk => by (try dsimp only [bndR, ensR, oksR, fcutR, List.append_nil, List.nil_append, List.cons_append, List.append_assoc] at hk ⊢); exact OpT.callTs (c59)) ?_) | (refine gD 14 ?_; refine RGl.rdX (fun e hk => by (try dsimp only [bndR, ensR, oksR, fcutR, List.append_nil, List.nil_append, List.cons_append, List.append_assoc] at hk ⊢); exact ReadR.binE rfl rfl BinR.lss (congrArg Value.bool (decide_eq_true hlt'))) ?_) | (refine gD 15 ?_; refine RGl.rdX (fun e hk => by (try dsimp only [bndR, ensR, oksR, fcutR, List.append_nil, List.nil_append, List.cons_append, List.append_assoc] at hk ⊢); exact ReadR.indexE (i := i) rfl rfl hasA (by omega)) ?_) | (refine gD 16 ?_; refine RGl.rdX (fun e hk => by (try dsimp only [bndR, ensR, oksR, fcutR, List.append_nil, List.nil_append, List.cons_append, List.append_assoc] at hk ⊢); exact ReadR.loadES (cs := anC r) hat (by omega) rfl hasA) ?_) | (refine gD 21 ?_; refine RGl.rdX (fun e hk => by (try dsimp only [bndR, ensR, oksR, fcutR, List.append_nil, List.nil_append, List.cons_append, List.append_assoc] at hk ⊢); exact ReadR.binE rfl rfl BinR.lss (congrArg Value.bool (decide_eq_false (show ¬ r.a.why < 1 by omega)))) ?_) | (refine gD 25 ?_; refine RGl.rdX (fun e hk => by (try dsimp only [bndR, ensR, oksR, fcutR, List.append_nil, List.nil_append, List.cons_append, List.append_assoc] at hk ⊢); exact ReadR.binE rfl rfl BinR.gtr (congrArg Value.bool (decide_eq_false (show ¬ 7 < r.a.why by omega)))) ?_) | (refine gD 57 ?_; refine RGl.rdX (fun e hk => by (try dsimp only [bndR, ensR, oksR, fcutR, List.append_nil, List.nil_append, List.cons_append, List.append_assoc] at hk ⊢); exact ReadR.lenLit rfl) ?_) | (refine gD 38 ?_; refine RGl.rdX (fun e hk => by (try dsimp only [bndR, ensR, oksR, fcutR, List.append_nil, List.nil_append, List.cons_append, List.append_assoc] at hk ⊢); exact ReadR.binE rfl rfl BinR.neq (congrArg (fun q => Value.bool (!q)) (decide_eq_true he))) ?_) | (refine gD 48 ?_; refine RGl.rdX (fun e hk => by (try dsimp only [bndR, ensR, oksR, fcutR, List.append_nil, List.nil_append, List.cons_append, List.append_assoc] at hk ⊢); exact ReadR.binE rfl rfl BinR.eql (congrArg Value.bool (decide_eq_true hw))) ?_) | (refine gOp ?_; first | refine RGl.rdA ?_ | refine RGl.rdX (fun e hk => by (try dsimp only [bndR, ensR, oksR, fcutR, List.append_nil, List.nil_append, List.cons_append, List.append_assoc] at hk ⊢); exact readB) ?_) | (refine RGl.fin (fun e hk => ?_); (try dsimp only [bndA, ensAR, oksA, List.append_nil, List.nil_append, List.cons_append, List.append_assoc] at hk ⊢); (repeat (obtain ⟨hk1, hk⟩ := hk))) | fail)
           | (refine isCond ?_; first | refine WPc.cT ?_ | refine WPc.cF ?_ | (refine WPc.cQ (fun hc => ?_) (fun hc => ?_) <;> try exact prA))
           | (refine isD 14 ?_; refine WPl.rdX (ReadR.binE rfl rfl BinR.lss (congrArg Value.bool (decide_eq_true hlt'))) ?_)
           | (refine isD 15 ?_; refine WPl.rdX (ReadR.indexE (i := i) rfl rfl hasA (by omega)) ?_)
           | (refine isD 16 ?_; refine WPl.rdX (ReadR.loadES (cs := anC r) hat (by omega) rfl hasA) ?_)
           | (refine isD 21 ?_; refine WPl.rdX (ReadR.binE rfl rfl BinR.lss (congrArg Value.bool (decide_eq_false (show ¬ r.a.why < 1 by omega)))) ?_)
           | (refine isD 25 ?_; refine WPl.rdX (ReadR.binE rfl rfl BinR.gtr (congrArg Value.bool (decide_eq_false (show ¬ 7 < r.a.why by omega)))) ?_)
           | (refine isC 35 ?_; refine WPl.cTs (c35) ?_; (try dsimp only [putF, List.cons_append, List.nil_append]))
           | (refine isC 45 ?_; refine WPl.cTs (c45) ?_; (try dsimp only [putF, List.cons_append, List.nil_append]))
           | (refine isC 59 ?_; refine WPl.cTs (c59) ?_; (try dsimp only [putF, List.cons_append, List.nil_append]))
           | (refine isD 57 ?_; refine WPl.rdX (ReadR.lenLit rfl) ?_)
           | (refine isD 38 ?_; refine WPl.rdX (ReadR.binE rfl rfl BinR.neq (congrArg (fun q => Value.bool (!q)) (decide_eq_true he))) ?_)
           | (refine isD 48 ?_; refine WPl.rdX (ReadR.binE rfl rfl BinR.eql (congrArg Value.bool (decide_eq_true hw))) ?_)
           | (refine isOp ?_; first | refine WPl.rd ?_ | refine WPl.sk ?_ | refine WPl.rdB ?_)
           | (refine isAl ?_; refine WPl.nw fun g => ?_)
           | (refine isSt ?_; first | refine WPl.st1 ?_ | refine WPl.stA ?_ | refine WPl.stEB ?_ | refine WPl.stRB ?_)
           | (show WPl _ _ _ _ _ _ _ (⟨_, .indexAddr _ _ _, _, _, _, _⟩ :: _) _; refine WPl.rdX (ReadR.indexE rfl rfl hasA (by first | assumption | omega)) ?_)
           | (show WPl _ _ _ _ _ _ _ (⟨_, .fieldAddr _ _ _, _, _, _, _⟩ :: _) _; refine WPl.rdX (ReadR.fieldE rfl hasA (by first | assumption | omega)) ?_)
           | (show WPl _ _ _ _ _ _ _ (⟨_, .load _ _, _, _, _, _⟩ :: _) _; first | refine WPl.rdX (ReadR.loadE rfl hasA (by assumption)) ?_ | refine WPl.rdX (ReadR.loadES (by assumption) (by first | assumption | omega) rfl hasA) ?_)
           | (show WPl _ _ _ _ _ _ _ (⟨_, .slice _ _ _ _ _, _, _, _, _⟩ :: _) _; first | refine WPl.rdX (ReadR.sliceH rfl rfl hasA (by omega)) ?_ | refine WPl.rdX (ReadR.sliceL rfl rfl hasA (by omega)) ?_ | refine WPl.rdX (ReadR.sliceLH rfl rfl rfl hasA (by omega) (by omega)) ?_)
           | (refine WPl.spQ (fun hc => ?_) (fun hc => ?_) <;> try exact prA)
           | fail)
          exact WPq.rnd (i + 1, _, _, _, q + 1) ⟨by dsimp only; omega, hn, hq2⟩ (by dsimp only; omega)
        · rw [addT_no _ _ hw] at hn
          repeat' (first
           | refine WPl.nil ?_ | refine WPq.then ?_ | refine WPq.thenR ?_ | refine WPq.thenE ?_ | refine WPq.blockN ?_ | refine WPq.blockR ?_ | refine WPq.blockE ?_ | refine WPq.blockO rfl ?_ | refine WPc.seq ?_ | refine WPc.block ?_ | refine WPc.ret ?_ | refine WPc.exit ?_ | refine WPc.skip ?_ | refine WPc.region ?_
           | (refine isReg 10 ?_; refine WPc.drA [([7], [33, 34]), ([0, 7], [29, 33, 34]), ([0, 1, 7], [29, 30, 33, 34]), ([0, 1, 2, 7], [29, 30, 31, 33, 34]), ([7], [29, 30, 31, 32]), ([4, 7], [29, 30, 31, 32, 33]), ([0, 1, 2, 3, 4, 5, 7], [29, 30, 31, 32, 33, 34])] [(7, 6), (7, 0), (7, 1), (7, 2), (7, 3), (7, 4), (7, 5)] (Γx := [mp whM mW C]) (hox := ownsA) ?_; dsimp only [prev0, List.length_nil, List.length_cons])
           | (refine isReg 12 ?_; refine WPc.drA [([7], [43, 44]), ([0, 7], [39, 43, 44]), ([0, 1, 7], [39, 40, 43, 44]), ([0, 1, 2, 7], [39, 40, 41, 43, 44]), ([7], [39, 40, 41, 42]), ([4, 7], [39, 40, 41, 42, 43]), ([0, 1, 2, 3, 4, 5, 7], [39, 40, 41, 42, 43, 44])] [(7, 6), (7, 0), (7, 1), (7, 2), (7, 3), (7, 4), (7, 5)] (Γx := [mp whM mE E]) (hox := ownsA) ?_; dsimp only [prev0, List.length_nil, List.length_cons])
           | (refine gAny ?_; first | (refine gC 35 ?_; refine RGl.turns (fun e hk => by (try dsimp only [bndR, ensR, oksR, fcutR, List.append_nil, List.nil_append, List.cons_append, List.append_assoc] at hk ⊢); exact OpT.callTs (c35)) ?_) | (refine gC 45 ?_; refine RGl.turns (fun e hk => by (try dsimp only [bndR, ensR, oksR, fcutR, List.append_nil, List.nil_append, List.cons_append, List.append_assoc] at hk ⊢); exact OpT.callTs (c45)) ?_) | (refine gC 59 ?_; refine RGl.turns (fun e hk => by (try dsimp only [bndR, ensR, oksR, fcutR, List.append_nil, List.nil_append, List.cons_append, List.append_assoc] at hk ⊢); exact OpT.callTs (c59)) ?_) | (refine gD 14 ?_; refine RGl.rdX (fun e hk => by (try dsimp only [bndR, ensR, oksR, fcutR, List.append_nil, List.nil_append, List.cons_append, List.append_assoc] at hk ⊢); exact ReadR.binE rfl rfl BinR.lss (congrArg Value.bool (decide_eq_true hlt'))) ?_) | (refine gD 15 ?_; refine RGl.rdX (fun e hk => by (try dsimp only [bndR, ensR, oksR, fcutR, List.append_nil, List.nil_append, List.cons_append, List.append_assoc] at hk ⊢); exact ReadR.indexE (i := i) rfl rfl hasA (by omega)) ?_) | (refine gD 16 ?_; refine RGl.rdX (fun e hk => by (try dsimp only [bndR, ensR, oksR, fcutR, List.append_nil, List.nil_append, List.cons_append, List.append_assoc] at hk ⊢); exact ReadR.loadES (cs := anC r) hat (by omega) rfl hasA) ?_) | (refine gD 21 ?_; refine RGl.rdX (fun e hk => by (try dsimp only [bndR, ensR, oksR, fcutR, List.append_nil, List.nil_append, List.cons_append, List.append_assoc] at hk ⊢); exact ReadR.binE rfl rfl BinR.lss (congrArg Value.bool (decide_eq_false (show ¬ r.a.why < 1 by omega)))) ?_) | (refine gD 25 ?_; refine RGl.rdX (fun e hk => by (try dsimp only [bndR, ensR, oksR, fcutR, List.append_nil, List.nil_append, List.cons_append, List.append_assoc] at hk ⊢); exact ReadR.binE rfl rfl BinR.gtr (congrArg Value.bool (decide_eq_false (show ¬ 7 < r.a.why by omega)))) ?_) | (refine gD 57 ?_; refine RGl.rdX (fun e hk => by (try dsimp only [bndR, ensR, oksR, fcutR, List.append_nil, List.nil_append, List.cons_append, List.append_assoc] at hk ⊢); exact ReadR.lenLit rfl) ?_) | (refine gD 38 ?_; refine RGl.rdX (fun e hk => by (try dsimp only [bndR, ensR, oksR, fcutR, List.append_nil, List.nil_append, List.cons_append, List.append_assoc] at hk ⊢); exact ReadR.binE rfl rfl BinR.neq (congrArg (fun q => Value.bool (!q)) (decide_eq_true he))) ?_) | (refine gD 48 ?_; refine RGl.rdX (fun e hk => by (try dsimp only [bndR, ensR, oksR, fcutR, List.append_nil, List.nil_append, List.cons_append, List.append_assoc] at hk ⊢); exact ReadR.binE rfl rfl BinR.eql (congrArg Value.bool (decide_eq_false hw))) ?_) | (refine gOp ?_; first | refine RGl.rdA ?_ | refine RGl.rdX (fun e hk => by (try dsimp only [bndR, ensR, oksR, fcutR, List.append_nil, List.nil_append, List.cons_append, List.append_assoc] at hk ⊢); exact readB) ?_) | (refine RGl.fin (fun e hk => ?_); (try dsimp only [bndA, ensAR, oksA, List.append_nil, List.nil_append, List.cons_append, List.append_assoc] at hk ⊢); (repeat (obtain ⟨hk1, hk⟩ := hk))) | fail)
           | (refine isCond ?_; first | refine WPc.cT ?_ | refine WPc.cF ?_ | (refine WPc.cQ (fun hc => ?_) (fun hc => ?_) <;> try exact prA))
           | (refine isD 14 ?_; refine WPl.rdX (ReadR.binE rfl rfl BinR.lss (congrArg Value.bool (decide_eq_true hlt'))) ?_)
           | (refine isD 15 ?_; refine WPl.rdX (ReadR.indexE (i := i) rfl rfl hasA (by omega)) ?_)
           | (refine isD 16 ?_; refine WPl.rdX (ReadR.loadES (cs := anC r) hat (by omega) rfl hasA) ?_)
           | (refine isD 21 ?_; refine WPl.rdX (ReadR.binE rfl rfl BinR.lss (congrArg Value.bool (decide_eq_false (show ¬ r.a.why < 1 by omega)))) ?_)
           | (refine isD 25 ?_; refine WPl.rdX (ReadR.binE rfl rfl BinR.gtr (congrArg Value.bool (decide_eq_false (show ¬ 7 < r.a.why by omega)))) ?_)
           | (refine isC 35 ?_; refine WPl.cTs (c35) ?_; (try dsimp only [putF, List.cons_append, List.nil_append]))
           | (refine isC 45 ?_; refine WPl.cTs (c45) ?_; (try dsimp only [putF, List.cons_append, List.nil_append]))
           | (refine isC 59 ?_; refine WPl.cTs (c59) ?_; (try dsimp only [putF, List.cons_append, List.nil_append]))
           | (refine isD 57 ?_; refine WPl.rdX (ReadR.lenLit rfl) ?_)
           | (refine isD 38 ?_; refine WPl.rdX (ReadR.binE rfl rfl BinR.neq (congrArg (fun q => Value.bool (!q)) (decide_eq_true he))) ?_)
           | (refine isD 48 ?_; refine WPl.rdX (ReadR.binE rfl rfl BinR.eql (congrArg Value.bool (decide_eq_false hw))) ?_)
           | (refine isOp ?_; first | refine WPl.rd ?_ | refine WPl.sk ?_ | refine WPl.rdB ?_)
           | (refine isAl ?_; refine WPl.nw fun g => ?_)
           | (refine isSt ?_; first | refine WPl.st1 ?_ | refine WPl.stA ?_ | refine WPl.stEB ?_ | refine WPl.stRB ?_)
           | (show WPl _ _ _ _ _ _ _ (⟨_, .indexAddr _ _ _, _, _, _, _⟩ :: _) _; refine WPl.rdX (ReadR.indexE rfl rfl hasA (by first | assumption | omega)) ?_)
           | (show WPl _ _ _ _ _ _ _ (⟨_, .fieldAddr _ _ _, _, _, _, _⟩ :: _) _; refine WPl.rdX (ReadR.fieldE rfl hasA (by first | assumption | omega)) ?_)
           | (show WPl _ _ _ _ _ _ _ (⟨_, .load _ _, _, _, _, _⟩ :: _) _; first | refine WPl.rdX (ReadR.loadE rfl hasA (by assumption)) ?_ | refine WPl.rdX (ReadR.loadES (by assumption) (by first | assumption | omega) rfl hasA) ?_)
           | (show WPl _ _ _ _ _ _ _ (⟨_, .slice _ _ _ _ _, _, _, _, _⟩ :: _) _; first | refine WPl.rdX (ReadR.sliceH rfl rfl hasA (by omega)) ?_ | refine WPl.rdX (ReadR.sliceL rfl rfl hasA (by omega)) ?_ | refine WPl.rdX (ReadR.sliceLH rfl rfl rfl hasA (by omega) (by omega)) ?_)
           | (refine WPl.spQ (fun hc => ?_) (fun hc => ?_) <;> try exact prA)
           | fail)
          exact WPq.rnd (i + 1, _, _, _, q + 1) ⟨by dsimp only; omega, hn, hq2⟩ (by dsimp only; omega)
      · rw [addE_eq _ _ he] at hn
        by_cases hw : r.a.why = 1
        · rw [addT_eq _ _ hw] at hn
          repeat' (first
           | refine WPl.nil ?_ | refine WPq.then ?_ | refine WPq.thenR ?_ | refine WPq.thenE ?_ | refine WPq.blockN ?_ | refine WPq.blockR ?_ | refine WPq.blockE ?_ | refine WPq.blockO rfl ?_ | refine WPc.seq ?_ | refine WPc.block ?_ | refine WPc.ret ?_ | refine WPc.exit ?_ | refine WPc.skip ?_ | refine WPc.region ?_
           | (refine isReg 10 ?_; refine WPc.drA [([7], [33, 34]), ([0, 7], [29, 33, 34]), ([0, 1, 7], [29, 30, 33, 34]), ([0, 1, 2, 7], [29, 30, 31, 33, 34]), ([7], [29, 30, 31, 32]), ([4, 7], [29, 30, 31, 32, 33]), ([0, 1, 2, 3, 4, 5, 7], [29, 30, 31, 32, 33, 34])] [(7, 6), (7, 0), (7, 1), (7, 2), (7, 3), (7, 4), (7, 5)] (Γx := [mp whM mW C]) (hox := ownsA) ?_; dsimp only [prev0, List.length_nil, List.length_cons])
           | (refine isReg 12 ?_; refine WPc.drA [([7], [43, 44]), ([0, 7], [39, 43, 44]), ([0, 1, 7], [39, 40, 43, 44]), ([0, 1, 2, 7], [39, 40, 41, 43, 44]), ([7], [39, 40, 41, 42]), ([4, 7], [39, 40, 41, 42, 43]), ([0, 1, 2, 3, 4, 5, 7], [39, 40, 41, 42, 43, 44])] [(7, 6), (7, 0), (7, 1), (7, 2), (7, 3), (7, 4), (7, 5)] (Γx := [mp whM mE E]) (hox := ownsA) ?_; dsimp only [prev0, List.length_nil, List.length_cons])
           | (refine gAny ?_; first | (refine gC 35 ?_; refine RGl.turns (fun e hk => by (try dsimp only [bndR, ensR, oksR, fcutR, List.append_nil, List.nil_append, List.cons_append, List.append_assoc] at hk ⊢); exact OpT.callTs (c35)) ?_) | (refine gC 45 ?_; refine RGl.turns (fun e hk => by (try dsimp only [bndR, ensR, oksR, fcutR, List.append_nil, List.nil_append, List.cons_append, List.append_assoc] at hk ⊢); exact OpT.callTs (c45)) ?_) | (refine gC 59 ?_; refine RGl.turns (fun e hk => by (try dsimp only [bndR, ensR, oksR, fcutR, List.append_nil, List.nil_append, List.cons_append, List.append_assoc] at hk ⊢); exact OpT.callTs (c59)) ?_) | (refine gD 14 ?_; refine RGl.rdX (fun e hk => by (try dsimp only [bndR, ensR, oksR, fcutR, List.append_nil, List.nil_append, List.cons_append, List.append_assoc] at hk ⊢); exact ReadR.binE rfl rfl BinR.lss (congrArg Value.bool (decide_eq_true hlt'))) ?_) | (refine gD 15 ?_; refine RGl.rdX (fun e hk => by (try dsimp only [bndR, ensR, oksR, fcutR, List.append_nil, List.nil_append, List.cons_append, List.append_assoc] at hk ⊢); exact ReadR.indexE (i := i) rfl rfl hasA (by omega)) ?_) | (refine gD 16 ?_; refine RGl.rdX (fun e hk => by (try dsimp only [bndR, ensR, oksR, fcutR, List.append_nil, List.nil_append, List.cons_append, List.append_assoc] at hk ⊢); exact ReadR.loadES (cs := anC r) hat (by omega) rfl hasA) ?_) | (refine gD 21 ?_; refine RGl.rdX (fun e hk => by (try dsimp only [bndR, ensR, oksR, fcutR, List.append_nil, List.nil_append, List.cons_append, List.append_assoc] at hk ⊢); exact ReadR.binE rfl rfl BinR.lss (congrArg Value.bool (decide_eq_false (show ¬ r.a.why < 1 by omega)))) ?_) | (refine gD 25 ?_; refine RGl.rdX (fun e hk => by (try dsimp only [bndR, ensR, oksR, fcutR, List.append_nil, List.nil_append, List.cons_append, List.append_assoc] at hk ⊢); exact ReadR.binE rfl rfl BinR.gtr (congrArg Value.bool (decide_eq_false (show ¬ 7 < r.a.why by omega)))) ?_) | (refine gD 57 ?_; refine RGl.rdX (fun e hk => by (try dsimp only [bndR, ensR, oksR, fcutR, List.append_nil, List.nil_append, List.cons_append, List.append_assoc] at hk ⊢); exact ReadR.lenLit rfl) ?_) | (refine gD 38 ?_; refine RGl.rdX (fun e hk => by (try dsimp only [bndR, ensR, oksR, fcutR, List.append_nil, List.nil_append, List.cons_append, List.append_assoc] at hk ⊢); exact ReadR.binE rfl rfl BinR.neq (congrArg (fun q => Value.bool (!q)) (decide_eq_false he))) ?_) | (refine gD 48 ?_; refine RGl.rdX (fun e hk => by (try dsimp only [bndR, ensR, oksR, fcutR, List.append_nil, List.nil_append, List.cons_append, List.append_assoc] at hk ⊢); exact ReadR.binE rfl rfl BinR.eql (congrArg Value.bool (decide_eq_true hw))) ?_) | (refine gOp ?_; first | refine RGl.rdA ?_ | refine RGl.rdX (fun e hk => by (try dsimp only [bndR, ensR, oksR, fcutR, List.append_nil, List.nil_append, List.cons_append, List.append_assoc] at hk ⊢); exact readB) ?_) | (refine RGl.fin (fun e hk => ?_); (try dsimp only [bndA, ensAR, oksA, List.append_nil, List.nil_append, List.cons_append, List.append_assoc] at hk ⊢); (repeat (obtain ⟨hk1, hk⟩ := hk))) | fail)
           | (refine isCond ?_; first | refine WPc.cT ?_ | refine WPc.cF ?_ | (refine WPc.cQ (fun hc => ?_) (fun hc => ?_) <;> try exact prA))
           | (refine isD 14 ?_; refine WPl.rdX (ReadR.binE rfl rfl BinR.lss (congrArg Value.bool (decide_eq_true hlt'))) ?_)
           | (refine isD 15 ?_; refine WPl.rdX (ReadR.indexE (i := i) rfl rfl hasA (by omega)) ?_)
           | (refine isD 16 ?_; refine WPl.rdX (ReadR.loadES (cs := anC r) hat (by omega) rfl hasA) ?_)
           | (refine isD 21 ?_; refine WPl.rdX (ReadR.binE rfl rfl BinR.lss (congrArg Value.bool (decide_eq_false (show ¬ r.a.why < 1 by omega)))) ?_)
           | (refine isD 25 ?_; refine WPl.rdX (ReadR.binE rfl rfl BinR.gtr (congrArg Value.bool (decide_eq_false (show ¬ 7 < r.a.why by omega)))) ?_)
           | (refine isC 35 ?_; refine WPl.cTs (c35) ?_; (try dsimp only [putF, List.cons_append, List.nil_append]))
           | (refine isC 45 ?_; refine WPl.cTs (c45) ?_; (try dsimp only [putF, List.cons_append, List.nil_append]))
           | (refine isC 59 ?_; refine WPl.cTs (c59) ?_; (try dsimp only [putF, List.cons_append, List.nil_append]))
           | (refine isD 57 ?_; refine WPl.rdX (ReadR.lenLit rfl) ?_)
           | (refine isD 38 ?_; refine WPl.rdX (ReadR.binE rfl rfl BinR.neq (congrArg (fun q => Value.bool (!q)) (decide_eq_false he))) ?_)
           | (refine isD 48 ?_; refine WPl.rdX (ReadR.binE rfl rfl BinR.eql (congrArg Value.bool (decide_eq_true hw))) ?_)
           | (refine isOp ?_; first | refine WPl.rd ?_ | refine WPl.sk ?_ | refine WPl.rdB ?_)
           | (refine isAl ?_; refine WPl.nw fun g => ?_)
           | (refine isSt ?_; first | refine WPl.st1 ?_ | refine WPl.stA ?_ | refine WPl.stEB ?_ | refine WPl.stRB ?_)
           | (show WPl _ _ _ _ _ _ _ (⟨_, .indexAddr _ _ _, _, _, _, _⟩ :: _) _; refine WPl.rdX (ReadR.indexE rfl rfl hasA (by first | assumption | omega)) ?_)
           | (show WPl _ _ _ _ _ _ _ (⟨_, .fieldAddr _ _ _, _, _, _, _⟩ :: _) _; refine WPl.rdX (ReadR.fieldE rfl hasA (by first | assumption | omega)) ?_)
           | (show WPl _ _ _ _ _ _ _ (⟨_, .load _ _, _, _, _, _⟩ :: _) _; first | refine WPl.rdX (ReadR.loadE rfl hasA (by assumption)) ?_ | refine WPl.rdX (ReadR.loadES (by assumption) (by first | assumption | omega) rfl hasA) ?_)
           | (show WPl _ _ _ _ _ _ _ (⟨_, .slice _ _ _ _ _, _, _, _, _⟩ :: _) _; first | refine WPl.rdX (ReadR.sliceH rfl rfl hasA (by omega)) ?_ | refine WPl.rdX (ReadR.sliceL rfl rfl hasA (by omega)) ?_ | refine WPl.rdX (ReadR.sliceLH rfl rfl rfl hasA (by omega) (by omega)) ?_)
           | (refine WPl.spQ (fun hc => ?_) (fun hc => ?_) <;> try exact prA)
           | fail)
          exact WPq.rnd (i + 1, _, _, _, q + 1) ⟨by dsimp only; omega, hn, hq2⟩ (by dsimp only; omega)
        · rw [addT_no _ _ hw] at hn
          repeat' (first
           | refine WPl.nil ?_ | refine WPq.then ?_ | refine WPq.thenR ?_ | refine WPq.thenE ?_ | refine WPq.blockN ?_ | refine WPq.blockR ?_ | refine WPq.blockE ?_ | refine WPq.blockO rfl ?_ | refine WPc.seq ?_ | refine WPc.block ?_ | refine WPc.ret ?_ | refine WPc.exit ?_ | refine WPc.skip ?_ | refine WPc.region ?_
           | (refine isReg 10 ?_; refine WPc.drA [([7], [33, 34]), ([0, 7], [29, 33, 34]), ([0, 1, 7], [29, 30, 33, 34]), ([0, 1, 2, 7], [29, 30, 31, 33, 34]), ([7], [29, 30, 31, 32]), ([4, 7], [29, 30, 31, 32, 33]), ([0, 1, 2, 3, 4, 5, 7], [29, 30, 31, 32, 33, 34])] [(7, 6), (7, 0), (7, 1), (7, 2), (7, 3), (7, 4), (7, 5)] (Γx := [mp whM mW C]) (hox := ownsA) ?_; dsimp only [prev0, List.length_nil, List.length_cons])
           | (refine isReg 12 ?_; refine WPc.drA [([7], [43, 44]), ([0, 7], [39, 43, 44]), ([0, 1, 7], [39, 40, 43, 44]), ([0, 1, 2, 7], [39, 40, 41, 43, 44]), ([7], [39, 40, 41, 42]), ([4, 7], [39, 40, 41, 42, 43]), ([0, 1, 2, 3, 4, 5, 7], [39, 40, 41, 42, 43, 44])] [(7, 6), (7, 0), (7, 1), (7, 2), (7, 3), (7, 4), (7, 5)] (Γx := [mp whM mE E]) (hox := ownsA) ?_; dsimp only [prev0, List.length_nil, List.length_cons])
           | (refine gAny ?_; first | (refine gC 35 ?_; refine RGl.turns (fun e hk => by (try dsimp only [bndR, ensR, oksR, fcutR, List.append_nil, List.nil_append, List.cons_append, List.append_assoc] at hk ⊢); exact OpT.callTs (c35)) ?_) | (refine gC 45 ?_; refine RGl.turns (fun e hk => by (try dsimp only [bndR, ensR, oksR, fcutR, List.append_nil, List.nil_append, List.cons_append, List.append_assoc] at hk ⊢); exact OpT.callTs (c45)) ?_) | (refine gC 59 ?_; refine RGl.turns (fun e hk => by (try dsimp only [bndR, ensR, oksR, fcutR, List.append_nil, List.nil_append, List.cons_append, List.append_assoc] at hk ⊢); exact OpT.callTs (c59)) ?_) | (refine gD 14 ?_; refine RGl.rdX (fun e hk => by (try dsimp only [bndR, ensR, oksR, fcutR, List.append_nil, List.nil_append, List.cons_append, List.append_assoc] at hk ⊢); exact ReadR.binE rfl rfl BinR.lss (congrArg Value.bool (decide_eq_true hlt'))) ?_) | (refine gD 15 ?_; refine RGl.rdX (fun e hk => by (try dsimp only [bndR, ensR, oksR, fcutR, List.append_nil, List.nil_append, List.cons_append, List.append_assoc] at hk ⊢); exact ReadR.indexE (i := i) rfl rfl hasA (by omega)) ?_) | (refine gD 16 ?_; refine RGl.rdX (fun e hk => by (try dsimp only [bndR, ensR, oksR, fcutR, List.append_nil, List.nil_append, List.cons_append, List.append_assoc] at hk ⊢); exact ReadR.loadES (cs := anC r) hat (by omega) rfl hasA) ?_) | (refine gD 21 ?_; refine RGl.rdX (fun e hk => by (try dsimp only [bndR, ensR, oksR, fcutR, List.append_nil, List.nil_append, List.cons_append, List.append_assoc] at hk ⊢); exact ReadR.binE rfl rfl BinR.lss (congrArg Value.bool (decide_eq_false (show ¬ r.a.why < 1 by omega)))) ?_) | (refine gD 25 ?_; refine RGl.rdX (fun e hk => by (try dsimp only [bndR, ensR, oksR, fcutR, List.append_nil, List.nil_append, List.cons_append, List.append_assoc] at hk ⊢); exact ReadR.binE rfl rfl BinR.gtr (congrArg Value.bool (decide_eq_false (show ¬ 7 < r.a.why by omega)))) ?_) | (refine gD 57 ?_; refine RGl.rdX (fun e hk => by (try dsimp only [bndR, ensR, oksR, fcutR, List.append_nil, List.nil_append, List.cons_append, List.append_assoc] at hk ⊢); exact ReadR.lenLit rfl) ?_) | (refine gD 38 ?_; refine RGl.rdX (fun e hk => by (try dsimp only [bndR, ensR, oksR, fcutR, List.append_nil, List.nil_append, List.cons_append, List.append_assoc] at hk ⊢); exact ReadR.binE rfl rfl BinR.neq (congrArg (fun q => Value.bool (!q)) (decide_eq_false he))) ?_) | (refine gD 48 ?_; refine RGl.rdX (fun e hk => by (try dsimp only [bndR, ensR, oksR, fcutR, List.append_nil, List.nil_append, List.cons_append, List.append_assoc] at hk ⊢); exact ReadR.binE rfl rfl BinR.eql (congrArg Value.bool (decide_eq_false hw))) ?_) | (refine gOp ?_; first | refine RGl.rdA ?_ | refine RGl.rdX (fun e hk => by (try dsimp only [bndR, ensR, oksR, fcutR, List.append_nil, List.nil_append, List.cons_append, List.append_assoc] at hk ⊢); exact readB) ?_) | (refine RGl.fin (fun e hk => ?_); (try dsimp only [bndA, ensAR, oksA, List.append_nil, List.nil_append, List.cons_append, List.append_assoc] at hk ⊢); (repeat (obtain ⟨hk1, hk⟩ := hk))) | fail)
           | (refine isCond ?_; first | refine WPc.cT ?_ | refine WPc.cF ?_ | (refine WPc.cQ (fun hc => ?_) (fun hc => ?_) <;> try exact prA))
           | (refine isD 14 ?_; refine WPl.rdX (ReadR.binE rfl rfl BinR.lss (congrArg Value.bool (decide_eq_true hlt'))) ?_)
           | (refine isD 15 ?_; refine WPl.rdX (ReadR.indexE (i := i) rfl rfl hasA (by omega)) ?_)
           | (refine isD 16 ?_; refine WPl.rdX (ReadR.loadES (cs := anC r) hat (by omega) rfl hasA) ?_)
           | (refine isD 21 ?_; refine WPl.rdX (ReadR.binE rfl rfl BinR.lss (congrArg Value.bool (decide_eq_false (show ¬ r.a.why < 1 by omega)))) ?_)
           | (refine isD 25 ?_; refine WPl.rdX (ReadR.binE rfl rfl BinR.gtr (congrArg Value.bool (decide_eq_false (show ¬ 7 < r.a.why by omega)))) ?_)
           | (refine isC 35 ?_; refine WPl.cTs (c35) ?_; (try dsimp only [putF, List.cons_append, List.nil_append]))
           | (refine isC 45 ?_; refine WPl.cTs (c45) ?_; (try dsimp only [putF, List.cons_append, List.nil_append]))
           | (refine isC 59 ?_; refine WPl.cTs (c59) ?_; (try dsimp only [putF, List.cons_append, List.nil_append]))
           | (refine isD 57 ?_; refine WPl.rdX (ReadR.lenLit rfl) ?_)
           | (refine isD 38 ?_; refine WPl.rdX (ReadR.binE rfl rfl BinR.neq (congrArg (fun q => Value.bool (!q)) (decide_eq_false he))) ?_)
           | (refine isD 48 ?_; refine WPl.rdX (ReadR.binE rfl rfl BinR.eql (congrArg Value.bool (decide_eq_false hw))) ?_)
           | (refine isOp ?_; first | refine WPl.rd ?_ | refine WPl.sk ?_ | refine WPl.rdB ?_)
           | (refine isAl ?_; refine WPl.nw fun g => ?_)
           | (refine isSt ?_; first | refine WPl.st1 ?_ | refine WPl.stA ?_ | refine WPl.stEB ?_ | refine WPl.stRB ?_)
           | (show WPl _ _ _ _ _ _ _ (⟨_, .indexAddr _ _ _, _, _, _, _⟩ :: _) _; refine WPl.rdX (ReadR.indexE rfl rfl hasA (by first | assumption | omega)) ?_)
           | (show WPl _ _ _ _ _ _ _ (⟨_, .fieldAddr _ _ _, _, _, _, _⟩ :: _) _; refine WPl.rdX (ReadR.fieldE rfl hasA (by first | assumption | omega)) ?_)
           | (show WPl _ _ _ _ _ _ _ (⟨_, .load _ _, _, _, _, _⟩ :: _) _; first | refine WPl.rdX (ReadR.loadE rfl hasA (by assumption)) ?_ | refine WPl.rdX (ReadR.loadES (by assumption) (by first | assumption | omega) rfl hasA) ?_)
           | (show WPl _ _ _ _ _ _ _ (⟨_, .slice _ _ _ _ _, _, _, _, _⟩ :: _) _; first | refine WPl.rdX (ReadR.sliceH rfl rfl hasA (by omega)) ?_ | refine WPl.rdX (ReadR.sliceL rfl rfl hasA (by omega)) ?_ | refine WPl.rdX (ReadR.sliceLH rfl rfl rfl hasA (by omega) (by omega)) ?_)
           | (refine WPl.spQ (fun hc => ?_) (fun hc => ?_) <;> try exact prA)
           | fail)
          exact WPq.rnd (i + 1, _, _, _, q + 1) ⟨by dsimp only; omega, hn, hq2⟩ (by dsimp only; omega)
    · have hc' : cntA r.a = false := by simpa using hc
      have hn := hrp.skip hc'
      rw [hal] at hn
      have hq2 : q = ((plL (R.take (i + 1))).countP cntA : Nat) := by rw [hq, htk, List.countP_append]; simp [hc']
      have hc2 := hc'
      unfold cntA at hc2
      simp only [Bool.and_eq_false_iff, decide_eq_false_iff_not] at hc2
      by_cases h1 : r.a.why < 1
      · skip
        repeat' (first
         | refine WPl.nil ?_ | refine WPq.then ?_ | refine WPq.thenR ?_ | refine WPq.thenE ?_ | refine WPq.blockN ?_ | refine WPq.blockR ?_ | refine WPq.blockE ?_ | refine WPq.blockO rfl ?_ | refine WPc.seq ?_ | refine WPc.block ?_ | refine WPc.ret ?_ | refine WPc.exit ?_ | refine WPc.skip ?_ | refine WPc.region ?_
         | (refine isCond ?_; first | refine WPc.cT ?_ | refine WPc.cF ?_ | (refine WPc.cQ (fun hc => ?_) (fun hc => ?_) <;> try exact prA))
         | (refine isD 14 ?_; refine WPl.rdX (ReadR.binE rfl rfl BinR.lss (congrArg Value.bool (decide_eq_true hlt'))) ?_)
         | (refine isD 15 ?_; refine WPl.rdX (ReadR.indexE (i := i) rfl rfl hasA (by omega)) ?_)
         | (refine isD 16 ?_; refine WPl.rdX (ReadR.loadES (cs := anC r) hat (by omega) rfl hasA) ?_)
         | (refine isD 21 ?_; refine WPl.rdX (ReadR.binE rfl rfl BinR.lss (congrArg Value.bool (decide_eq_true h1))) ?_)
         | (refine isOp ?_; first | refine WPl.rd ?_ | refine WPl.sk ?_ | refine WPl.rdB ?_)
         | (refine isAl ?_; refine WPl.nw fun g => ?_)
         | (refine isSt ?_; first | refine WPl.st1 ?_ | refine WPl.stA ?_ | refine WPl.stEB ?_ | refine WPl.stRB ?_)
         | (show WPl _ _ _ _ _ _ _ (⟨_, .indexAddr _ _ _, _, _, _, _⟩ :: _) _; refine WPl.rdX (ReadR.indexE rfl rfl hasA (by first | assumption | omega)) ?_)
         | (show WPl _ _ _ _ _ _ _ (⟨_, .fieldAddr _ _ _, _, _, _, _⟩ :: _) _; refine WPl.rdX (ReadR.fieldE rfl hasA (by first | assumption | omega)) ?_)
         | (show WPl _ _ _ _ _ _ _ (⟨_, .load _ _, _, _, _, _⟩ :: _) _; first | refine WPl.rdX (ReadR.loadE rfl hasA (by assumption)) ?_ | refine WPl.rdX (ReadR.loadES (by assumption) (by first | assumption | omega) rfl hasA) ?_)
         | (show WPl _ _ _ _ _ _ _ (⟨_, .slice _ _ _ _ _, _, _, _, _⟩ :: _) _; first | refine WPl.rdX (ReadR.sliceH rfl rfl hasA (by omega)) ?_ | refine WPl.rdX (ReadR.sliceL rfl rfl hasA (by omega)) ?_ | refine WPl.rdX (ReadR.sliceLH rfl rfl rfl hasA (by omega) (by omega)) ?_)
         | (refine WPl.spQ (fun hc => ?_) (fun hc => ?_) <;> try exact prA)
         | fail)
        exact WPq.rnd (i + 1, _, _, _, q) ⟨by dsimp only; omega, hn, hq2⟩ (by dsimp only; omega)
      · skip
        repeat' (first
         | refine WPl.nil ?_ | refine WPq.then ?_ | refine WPq.thenR ?_ | refine WPq.thenE ?_ | refine WPq.blockN ?_ | refine WPq.blockR ?_ | refine WPq.blockE ?_ | refine WPq.blockO rfl ?_ | refine WPc.seq ?_ | refine WPc.block ?_ | refine WPc.ret ?_ | refine WPc.exit ?_ | refine WPc.skip ?_ | refine WPc.region ?_
         | (refine isCond ?_; first | refine WPc.cT ?_ | refine WPc.cF ?_ | (refine WPc.cQ (fun hc => ?_) (fun hc => ?_) <;> try exact prA))
         | (refine isD 14 ?_; refine WPl.rdX (ReadR.binE rfl rfl BinR.lss (congrArg Value.bool (decide_eq_true hlt'))) ?_)
         | (refine isD 15 ?_; refine WPl.rdX (ReadR.indexE (i := i) rfl rfl hasA (by omega)) ?_)
         | (refine isD 16 ?_; refine WPl.rdX (ReadR.loadES (cs := anC r) hat (by omega) rfl hasA) ?_)
         | (refine isD 21 ?_; refine WPl.rdX (ReadR.binE rfl rfl BinR.lss (congrArg Value.bool (decide_eq_false h1))) ?_)
         | (refine isD 25 ?_; refine WPl.rdX (ReadR.binE rfl rfl BinR.gtr (congrArg Value.bool (decide_eq_true (show 7 < r.a.why by omega)))) ?_)
         | (refine isOp ?_; first | refine WPl.rd ?_ | refine WPl.sk ?_ | refine WPl.rdB ?_)
         | (refine isAl ?_; refine WPl.nw fun g => ?_)
         | (refine isSt ?_; first | refine WPl.st1 ?_ | refine WPl.stA ?_ | refine WPl.stEB ?_ | refine WPl.stRB ?_)
         | (show WPl _ _ _ _ _ _ _ (⟨_, .indexAddr _ _ _, _, _, _, _⟩ :: _) _; refine WPl.rdX (ReadR.indexE rfl rfl hasA (by first | assumption | omega)) ?_)
         | (show WPl _ _ _ _ _ _ _ (⟨_, .fieldAddr _ _ _, _, _, _, _⟩ :: _) _; refine WPl.rdX (ReadR.fieldE rfl hasA (by first | assumption | omega)) ?_)
         | (show WPl _ _ _ _ _ _ _ (⟨_, .load _ _, _, _, _, _⟩ :: _) _; first | refine WPl.rdX (ReadR.loadE rfl hasA (by assumption)) ?_ | refine WPl.rdX (ReadR.loadES (by assumption) (by first | assumption | omega) rfl hasA) ?_)
         | (show WPl _ _ _ _ _ _ _ (⟨_, .slice _ _ _ _ _, _, _, _, _⟩ :: _) _; first | refine WPl.rdX (ReadR.sliceH rfl rfl hasA (by omega)) ?_ | refine WPl.rdX (ReadR.sliceL rfl rfl hasA (by omega)) ?_ | refine WPl.rdX (ReadR.sliceLH rfl rfl rfl hasA (by omega) (by omega)) ?_)
         | (refine WPl.spQ (fun hc => ?_) (fun hc => ?_) <;> try exact prA)
         | fail)
        exact WPq.rnd (i + 1, _, _, _, q) ⟨by dsimp only; omega, hn, hq2⟩ (by dsimp only; omega)
  · have hie : i = R.length := by omega
    subst hie
    rw [List.take_length] at hrp hq
    repeat' (first
     | refine WPl.nil ?_ | refine WPq.then ?_ | refine WPq.thenR ?_ | refine WPq.thenE ?_ | refine WPq.blockN ?_ | refine WPq.blockR ?_ | refine WPq.blockE ?_ | refine WPq.blockO rfl ?_ | refine WPc.seq ?_ | refine WPc.block ?_ | refine WPc.ret ?_ | refine WPc.exit ?_ | refine WPc.skip ?_ | refine WPc.region ?_
     | (refine isCond ?_; first | refine WPc.cT ?_ | refine WPc.cF ?_ | (refine WPc.cQ (fun hc => ?_) (fun hc => ?_) <;> try exact prA))
     | (refine isD 14 ?_; refine WPl.rdX (ReadR.binE rfl rfl BinR.lss (congrArg Value.bool (decide_eq_false (show ¬ (R.length : Int) < (R.length : Int) by omega)))) ?_)
     | (refine isOp ?_; first | refine WPl.rd ?_ | refine WPl.sk ?_ | refine WPl.rdB ?_)
     | (refine isAl ?_; refine WPl.nw fun g => ?_)
     | (refine isSt ?_; first | refine WPl.st1 ?_ | refine WPl.stA ?_ | refine WPl.stEB ?_ | refine WPl.stRB ?_)
     | (show WPl _ _ _ _ _ _ _ (⟨_, .indexAddr _ _ _, _, _, _, _⟩ :: _) _; refine WPl.rdX (ReadR.indexE rfl rfl hasA (by first | assumption | omega)) ?_)
     | (show WPl _ _ _ _ _ _ _ (⟨_, .fieldAddr _ _ _, _, _, _, _⟩ :: _) _; refine WPl.rdX (ReadR.fieldE rfl hasA (by first | assumption | omega)) ?_)
     | (show WPl _ _ _ _ _ _ _ (⟨_, .load _ _, _, _, _, _⟩ :: _) _; first | refine WPl.rdX (ReadR.loadE rfl hasA (by assumption)) ?_ | refine WPl.rdX (ReadR.loadES (by assumption) (by first | assumption | omega) rfl hasA) ?_)
     | (show WPl _ _ _ _ _ _ _ (⟨_, .slice _ _ _ _ _, _, _, _, _⟩ :: _) _; first | refine WPl.rdX (ReadR.sliceH rfl rfl hasA (by omega)) ?_ | refine WPl.rdX (ReadR.sliceL rfl rfl hasA (by omega)) ?_ | refine WPl.rdX (ReadR.sliceLH rfl rfl rfl hasA (by omega) (by omega)) ?_)
     | (refine WPl.spQ (fun hc => ?_) (fun hc => ?_) <;> try exact prA)
     | fail)
    exact WPq.dX (vs := [.int .i64 q]) [_, _, _, _] ⟨C, E, T, by rw [hq]; rfl, rfl, hrp⟩
end Go.Proofs.YtagedgcdonodfaaDoor
/- Orders by which lists are sorted; bytes compared. -/
namespace Go.Proofs.YtagedgcdonodfaaDoor
open Go.RowKit Go.Sort Go.Lib
set_option linter.unusedSimpArgs false
set_option linter.unusedVariables false
/-- A comparison: total, and it leads on. -/
structure TC {α : Type} (f : α → α → Int) : Prop where
  flip : ∀ x y, f x y < 0 ↔ 0 < f y x
  trans : ∀ x y z, f x y ≤ 0 → f y z ≤ 0 → f x z ≤ 0
section
variable {α β : Type} {f g : α → α → Int}
theorem TC.swo (h : TC f) : SWO (ltOf f) where
  irrefl x := by
    have := h.flip x x
    simp only [ltOf, decide_eq_false_iff_not]; omega
  trans x y z h1 h2 := by
    simp only [ltOf, decide_eq_true_eq] at *
    have a1 := h.trans x y z (by omega) (by omega)
    rcases Int.lt_or_le (f x z) 0 with h3 | h3
    · exact h3
    · have f1 := h.flip y z
      have f2 := h.flip z x
      have f3 := h.flip x z
      have := h.trans z x y (by omega) (by omega)
      omega
  ntrans x y z h1 h2 := by
    simp only [ltOf, decide_eq_false_iff_not] at *
    have f1 := h.flip x y
    have f2 := h.flip y x
    have f3 := h.flip y z
    have f4 := h.flip z y
    have f5 := h.flip x z
    have f6 := h.flip z x
    have := h.trans z y x (by omega) (by omega)
    omega
theorem TC.zero (h : TC f) {x y : α} : f x y = 0 ↔ f y x = 0 := by
  have f1 := h.flip x y
  have f2 := h.flip y x
  omega
theorem TC.pull (h : TC f) (k : β → α) : TC (fun x y => f (k x) (k y)) := ⟨fun x y => h.flip _ _, fun x y z => h.trans _ _ _⟩
def lexC (f g : α → α → Int) (x y : α) : Int := if f x y ≠ 0 then f x y else g x y
theorem TC.lex (h : TC f) (k : TC g) : TC (lexC f g) := by
  constructor
  · intro x y
    have a1 := h.flip x y
    have a2 := h.flip y x
    have b1 := k.flip x y
    unfold lexC
    split <;> split <;> omega
  · intro x y z
    have a1 := h.trans x y z
    have a2 := h.trans z x y
    have a3 := h.trans y z x
    have f1 := h.flip x y
    have f2 := h.flip y x
    have f3 := h.flip y z
    have f4 := h.flip z y
    have f5 := h.flip x z
    have f6 := h.flip z x
    have b1 := k.trans x y z
    unfold lexC
    split <;> split <;> split <;> omega
theorem TC.int : TC compareInt where
  flip x y := by unfold compareInt; repeat' split
                 all_goals omega
  trans x y z := by unfold compareInt; repeat' split
                    all_goals omega
theorem cb_neg : ∀ a b : List UInt8, compareBytes a b = - compareBytes b a
  | [], [] => rfl
  | [], _ :: _ => by simp [compareBytes]
  | _ :: _, [] => by simp [compareBytes]
  | a :: l, b :: m => by
    unfold compareBytes
    have ih := cb_neg l m
    by_cases h1 : a < b
    · have h2 : ¬ b < a := fun h => by have := UInt8.lt_iff_toNat_lt.1 h1; have := UInt8.lt_iff_toNat_lt.1 h; omega
      simp [h1, h2]
    · by_cases h2 : b < a
      · simp [h1, h2]
      · simp [h1, h2, ih]
theorem u8_eq {a b : UInt8} (h1 : ¬ a < b) (h2 : ¬ b < a) : a = b := by
  apply UInt8.toNat_inj.1
  rw [UInt8.lt_iff_toNat_lt] at h1 h2
  omega
theorem cb_trans : ∀ a b c : List UInt8, compareBytes a b ≤ 0 → compareBytes b c ≤ 0 → compareBytes a c ≤ 0
  | [], _, [], _, _ => by simp [compareBytes]
  | [], _, _ :: _, _, _ => by simp [compareBytes]
  | _ :: _, [], _, h, _ => by simp [compareBytes] at h
  | _ :: _, _ :: _, [], _, h => by simp [compareBytes] at h
  | a :: l, b :: m, c :: n, h1, h2 => by
    have ih := cb_trans l m n
    rw [compareBytes.eq_4] at h1 h2 ⊢
    by_cases x1 : a < b
    · by_cases x2 : b < c
      · have : a < c := by rw [UInt8.lt_iff_toNat_lt] at *; omega
        simp [this]
      · by_cases x3 : c < b
        · simp [x2, x3] at h2
        · have := u8_eq x2 x3
          subst this
          simp [x1]
    · by_cases x4 : b < a
      · simp [x1, x4] at h1
      · have := u8_eq x1 x4
        subst this
        simp only [x1, if_false] at h1
        by_cases x2 : a < c
        · simp [x2]
        · by_cases x3 : c < a
          · simp [x2, x3] at h2
          · simp only [x2, x3, if_false] at h2 ⊢
            exact ih h1 h2
theorem TC.bytes : TC compareBytes := ⟨fun x y => by have := cb_neg x y; omega, cb_trans⟩
def boolC (a b : Bool) : Int := if a = b then 0 else if b then -1 else 1
theorem TC.bool : TC boolC := ⟨by decide, by decide⟩
/-- Addresses. -/
def adrC : Adr → Adr → Int := lexC (fun a b => boolC a.six b.six) (fun a b => compareBytes a.b b.b)
def adrLt (a b : Adr) : Bool := if a.six ≠ b.six then b.six else decide (compareBytes a.b b.b < 0)
end
end Go.Proofs.YtagedgcdonodfaaDoor
/- Report: which of two tallies stands ahead: what the sort is handed. -/
namespace Go.Proofs.YtagedgcdonodfaaDoor
open Go.RowKit
set_option linter.unusedSimpArgs false
set_option linter.unusedVariables false
/-- What grows alone. -/
def GrowE (w w' : World) : Prop := ∃ q os, w' = Sort.grow (w.drewN q) os
theorem GrowE.refl (w : World) : GrowE w w := ⟨0, #[], by simp [Sort.grow, World.drewN]⟩
theorem GrowE.trans {a b c : World} (h : GrowE a b) (k : GrowE b c) : GrowE a c := by
  obtain ⟨q, os, rfl⟩ := h
  obtain ⟨q', os', rfl⟩ := k
  exact ⟨q + q', os ++ os', by simp [Sort.grow, World.drewN, Nat.add_assoc, Array.append_assoc]⟩
theorem GrowE.cell {w w' : World} (h : GrowE w w') {a : Addr} {v : Value} (hc : w.cell? a = some v) : w'.cell? a = some v := by
  obtain ⟨q, os, rfl⟩ := h
  unfold World.cell? at hc ⊢
  simp only [Sort.grow, World.drewN]
  cases hb : w.heap[a.block]? with
  | none => rw [hb] at hc; cases hc
  | some o =>
    have hlt := (Array.getElem?_eq_some_iff.1 hb).1
    rw [hb] at hc
    rw [Array.getElem?_append_left hlt, hb]
    exact hc
theorem GrowE.alloc {w : World} (o : Obj) : GrowE w (w.alloc o) := ⟨0, #[o], by unfold Sort.grow World.drewN World.alloc; simp⟩
theorem GrowE.drew {w : World} : GrowE w w.drew := ⟨1, #[], by unfold Sort.grow World.drewN World.drew; simp⟩
theorem or_any (g c : Nat) (a b : Int) (w : World) (h0 : w.cell? ⟨g, 0, none⟩ = some (.int .i64 a)) (h1 : w.cell? ⟨g, 1, none⟩ = some (.int .i64 b)) (hc : 2 ≤ c) :
    Calls Tryd.prog 37 #[.slice (some ⟨g, 0, none⟩) 2 c] w fun e w' => e = .returned (.int .i64 (if a ≠ 0 then a else b)) ∧ w' = w := by
  go_enter Tryd.func37, Tryd.ntmps37
  go_wp2
  go_loop [8] (fun i => ∃ k : Nat, k ≤ 2 ∧ i = .int .i64 k ∧ (1 ≤ k → a = 0) ∧ (2 ≤ k → b = 0)) (fun i => 2 - (intOf i).toNat)
  case atStart => exact ⟨0, by omega, rfl, by omega, by omega⟩
  case round =>
    obtain ⟨k, hk, rfl, ha, hb⟩ := hrel
    have H0 : w.cell? ((⟨g, 0, none⟩ : Addr).add 0) = some (.int .i64 a) := h0
    have H1 : w.cell? ((⟨g, 0, none⟩ : Addr).add 1) = some (.int .i64 b) := h1
    obtain rfl | rfl | rfl : k = 0 ∨ k = 1 ∨ k = 2 := by omega
    · by_cases h : a = 0
      · subst h
        go_wp2
        go_round
        case rel => exact ⟨1, by omega, rfl, by simp, by omega⟩
        case measure => simp [intOf]
      · go_wp2
        go_ret
        exact ⟨by first | rfl | simp | simp [h], rfl⟩
    · obtain rfl := ha (Nat.le_refl _)
      by_cases h : b = 0
      · subst h
        go_wp2
        go_round
        case rel => exact ⟨2, by omega, rfl, by simp, by simp⟩
        case measure => simp [intOf]
      · go_wp2
        go_ret
        exact ⟨by first | rfl | simp, rfl⟩
    · obtain rfl := ha (by omega)
      obtain rfl := hb (by omega)
      go_wp2
      go_ret
      exact ⟨by first | rfl | simp, rfl⟩
theorem alloc2 (w : World) (a b : Array Value) (t : TypeId) (i : Nat) (v : Value) : (a[i]? = some v → ((w.alloc (.cells a t)).alloc (.cells b t)).cell? ⟨w.heap.size, i, none⟩ = some v) ∧ (b[i]? = some v → ((w.alloc (.cells a t)).alloc (.cells b t)).cell? ⟨w.heap.size + 1, i, none⟩ = some v) := by
  have h1 : ((w.alloc (.cells a t)).alloc (.cells b t)).heap[w.heap.size + 1]? = some (.cells b t (0, 0)) := by
    have hs : (w.alloc (.cells a t)).heap.size = w.heap.size + 1 := by simp
    have := alloc_new (w.alloc (.cells a t)) (.cells b t)
    rwa [hs] at this
  have h0 : ((w.alloc (.cells a t)).alloc (.cells b t)).heap[w.heap.size]? = some (.cells a t (0, 0)) := by
    rw [Lib.alloc_old _ _ _ (by simp)]
    exact alloc_new _ _
  constructor
  · intro h; unfold World.cell?; dsimp only; rw [h0]; simpa using h
  · intro h; unfold World.cell?; dsimp only; rw [h1]; simpa using h
abbrev TE := (Int × Int) × (Int × Int)
def tlV (x : TE) : List Value := [.int .i64 x.1.1, .int .i64 x.1.2, .int .i64 x.2.1, .int .i64 x.2.2]
def cfT (x y : TE) : Int := if Lib.compareInt x.1.1 y.1.1 ≠ 0 then Lib.compareInt x.1.1 y.1.1 else Lib.compareInt x.1.2 y.1.2
/-- A slice of two ints. -/
def IsTwo (a b : Int) : Value → World → Prop := fun v w => ∃ g c, v = .slice (some ⟨g, 0, none⟩) 2 c ∧ 2 ≤ c ∧ w.cell? ⟨g, 0, none⟩ = some (.int .i64 a) ∧ w.cell? ⟨g, 1, none⟩ = some (.int .i64 b)
theorem keep_two (a b : Int) : ∀ v w w', GrowE w w' → IsTwo a b v w → IsTwo a b v w' := by
  rintro v w w' h ⟨g, c, hv, hc, h0, h1⟩
  exact ⟨g, c, hv, hc, h.cell h0, h.cell h1⟩
theorem run_two {P : Program} {T e : TypeId} {z : Value} {bytes : Nat} [hT : SliI P T e] [he : EltI P e z bytes] (a b : Int) (w : World) : (Instr.buildSlice T 2 #[(0, .int .i64 a), (1, .int .i64 b)]).run P w = .ok (.slice (some ⟨w.heap.size, 0, none⟩) 2 2) (w.alloc (.cells #[.int .i64 a, .int .i64 b] e)) := by
  obtain ⟨i0, hi, hz0, hz1, hz2⟩ := info_parts he.info
  have hsz : (sizeOf e).run P w = .ok 1 w := by simp [sizeOf, typeInfo, hi, hz1]
  have hz : (zeroValue e).run P w = .ok z w := by simp [zeroValue, typeInfo, hi, hz0]
  have hfill : ∀ c : Array Value, c.size = 2 → Instr.fill (fun i => some (i, 1)) c [(0, .int .i64 a), (1, .int .i64 b)] = some #[.int .i64 a, .int .i64 b] := by
    intro c hc
    have := fill_row (n := 0) (F := []) (a := { tmps := #[], defers := [] }) ⟨rfl, rfl, fun t v h => by simp [lkT] at h⟩ [(0, .const (.int .i64 a)), (1, .const (.int .i64 b))] [.int .i64 a, .int .i64 b] 0 [] c.toList evpA (by simp [Value.oneCell']) rfl (by simp [hc])
    simpa [Act.eval] using this
  unfold Instr.buildSlice
  simp only [Sem.run_bind, run_underlying hT.und, Result.andThen_ok, hsz, Nat.mul_one, Sem.run_ite]
  rw [if_neg (by omega)]
  simp only [show (2 : Nat) ≠ 0 by omega, if_false, Sem.run_bind, hz, Result.andThen_ok, Sem.run_pure]
  rw [hfill _ (by simp)]
  simp [newRow, newObj, Sem.run]
set_option maxRecDepth 100000 in
theorem tal_any (x y : TE) (w : World) : Calls Tryd.prog 36 #[.agg (tlV x).toArray, .agg (tlV y).toArray] w fun e w' => e = .returned (.int .i64 (cfT x y)) ∧ GrowE w w' := by
  obtain ⟨⟨x1, x2⟩, ⟨x3, x4⟩⟩ := x
  obtain ⟨⟨y1, y2⟩, ⟨y3, y4⟩⟩ := y
  unfold tlV cfT
  dsimp only
  obtain ⟨ca, hca⟩ : ∃ c, c = Lib.compareInt x1 y1 := ⟨_, rfl⟩
  obtain ⟨cb, hcb⟩ : ∃ c, c = Lib.compareInt x2 y2 := ⟨_, rfl⟩
  rw [← hca, ← hcb]
  obtain ⟨cr, hcr⟩ : ∃ c, c = if ca ≠ 0 then ca else cb := ⟨_, rfl⟩
  rw [← hcr]
  have kA : ∀ W, Calls Tryd.prog 38 #[.int .i64 x1, .int .i64 y1] W fun e w' => e = .returned (.int .i64 ca) ∧ w' = W := fun W => by rw [hca]; exact Any.cmp_Compare_int Tryd.cmpI x1 y1 W
  have kB : ∀ W, Calls Tryd.prog 38 #[.int .i64 x2, .int .i64 y2] W fun e w' => e = .returned (.int .i64 cb) ∧ w' = W := fun W => by rw [hcb]; exact Any.cmp_Compare_int Tryd.cmpI x2 y2 W
  have kO : ∀ W v, IsTwo ca cb v W → Calls Tryd.prog 37 #[v] W fun e w' => e = .returned (.int .i64 cr) ∧ w' = W := fun W v h => by
    obtain ⟨g, c, rfl, hc, h0, h1⟩ := h
    rw [hcr]; exact or_any g c ca cb W h0 h1 hc
  clear hca hcb hcr
  go_enter Tryd.func36, Tryd.ntmps36
  go_wp2
  have hE0 : GrowE w ((w.alloc (.cells #[.int .i64 x1, .int .i64 x2, .int .i64 x3, .int .i64 x4] 31)).alloc (.cells #[.int .i64 y1, .int .i64 y2, .int .i64 y3, .int .i64 y4] 31)) := (GrowE.alloc _).trans (GrowE.alloc _)
  have hc1 : ((w.alloc (.cells #[.int .i64 x1, .int .i64 x2, .int .i64 x3, .int .i64 x4] 31)).alloc (.cells #[.int .i64 y1, .int .i64 y2, .int .i64 y3, .int .i64 y4] 31)).cell? ⟨w.heap.size, 0, none⟩ = some (.int .i64 x1) := (alloc2 _ _ _ _ _ _).1 rfl
  have hc2 : ((w.alloc (.cells #[.int .i64 x1, .int .i64 x2, .int .i64 x3, .int .i64 x4] 31)).alloc (.cells #[.int .i64 y1, .int .i64 y2, .int .i64 y3, .int .i64 y4] 31)).cell? ⟨w.heap.size, 1, none⟩ = some (.int .i64 x2) := (alloc2 _ _ _ _ _ _).1 rfl
  have hc3 : ((w.alloc (.cells #[.int .i64 x1, .int .i64 x2, .int .i64 x3, .int .i64 x4] 31)).alloc (.cells #[.int .i64 y1, .int .i64 y2, .int .i64 y3, .int .i64 y4] 31)).cell? ⟨w.heap.size + 1, 0, none⟩ = some (.int .i64 y1) := (alloc2 _ _ _ _ _ _).2 rfl
  have hc4 : ((w.alloc (.cells #[.int .i64 x1, .int .i64 x2, .int .i64 x3, .int .i64 x4] 31)).alloc (.cells #[.int .i64 y1, .int .i64 y2, .int .i64 y3, .int .i64 y4] 31)).cell? ⟨w.heap.size + 1, 1, none⟩ = some (.int .i64 y2) := (alloc2 _ _ _ _ _ _).2 rfl
  generalize (w.alloc (.cells #[.int .i64 x1, .int .i64 x2, .int .i64 x3, .int .i64 x4] 31)).alloc (.cells #[.int .i64 y1, .int .i64 y2, .int .i64 y3, .int .i64 y4] 31) = W2 at *
  generalize w.heap.size = g at *
  refine wp_region_rel (by kernel_rfl) GrowE GrowE.refl (fun _ _ _ h k => h.trans k) [Is (.pointer (some ⟨g, 0, none⟩)), Is (.int .i64 x1), Is (.pointer (some ⟨g + 1, 0, none⟩)), Is (.int .i64 y1), Is (.int .i64 ca), Is (.pointer (some ⟨g, 1, none⟩)), Is (.int .i64 x2), Is (.pointer (some ⟨g + 1, 1, none⟩)), Is (.int .i64 y2), Is (.int .i64 cb), IsTwo ca cb, Is (.int .i64 cr), Is (.int .i64 cr)]
    ⟨keep_is _, keep_is _, keep_is _, keep_is _, keep_is _, keep_is _, keep_is _, keep_is _, keep_is _, keep_is _, keep_two _ _, keep_is _, keep_is _, trivial⟩ (by kernel_rfl) ?_ ⟨?_, ?_, ?_, ?_, ?_, ?_, ?_, ?_, ?_, ?_, ?_, ?_, ?_, trivial⟩
  · intro W hE
    simp only [behind, Act.put, Is, List.map_cons, List.map_nil, forall_eq, List.setIfInBounds_toArray, List.set_cons_succ, List.set_cons_zero, List.dropLast_cons_cons, List.dropLast_singleton]
    intro v hv
    go_wp2
    go_ret
    exact ⟨rfl, hE0.trans (GrowE.drew.trans hE)⟩
  all_goals intro ρ W hE hout ha; try simp [-List.append_assoc, ahead, factAt, valAt, Region.binds, Is] at ha
  all_goals have h1W := (GrowE.drew.trans hE).cell hc1
  all_goals have h2W := (GrowE.drew.trans hE).cell hc2
  all_goals have h3W := (GrowE.drew.trans hE).cell hc3
  all_goals have h4W := (GrowE.drew.trans hE).cell hc4
  all_goals try (refine Does.of_run rfl (w' := W) ?_ ⟨GrowE.refl _, rfl⟩; simp [execOp, Act.eval, hout, dstsOf, List.dropLast, ha, go_sem, h1W, h2W, h3W, h4W]; done)
  · refine Does.of_call rfl (by simp [execOp, Act.eval, hout, dstsOf, ha, go_sem]) ((kA W).mono ?_)
    rintro e w' ⟨rfl, rfl⟩
    exact ⟨_, rfl, GrowE.refl _, rfl⟩
  · refine Does.of_call rfl (by simp [execOp, Act.eval, hout, dstsOf, ha, go_sem]) ((kB W).mono ?_)
    rintro e w' ⟨rfl, rfl⟩
    exact ⟨_, rfl, GrowE.refl _, rfl⟩
  · refine Does.of_run rfl (v := .slice (some ⟨W.heap.size, 0, none⟩) 2 2) (w' := W.alloc (.cells #[.int .i64 ca, .int .i64 cb] 3)) ?_ ⟨GrowE.alloc _, _, _, rfl, Nat.le_refl _, ?_, ?_⟩
    · have := run_two (P := Tryd.prog) (T := 72) (e := 3) ca cb W
      simp [execOp, Act.eval, hout, dstsOf, ha, go_sem, this]
    · have := alloc_new W (.cells #[.int .i64 ca, .int .i64 cb] 3)
      unfold World.cell?; dsimp only; rw [this]; rfl
    · have := alloc_new W (.cells #[.int .i64 ca, .int .i64 cb] 3)
      unfold World.cell?; dsimp only; rw [this]; rfl
  · refine Does.of_call rfl (by simp [execOp, Act.eval, hout, dstsOf, ha, go_sem]) ((kO W _ ha.1).mono ?_)
    rintro e w' ⟨rfl, rfl⟩
    exact ⟨_, rfl, GrowE.refl _, rfl⟩
end Go.Proofs.YtagedgcdonodfaaDoor
/- Report: tallies: contracts. -/
namespace Go.Proofs.YtagedgcdonodfaaDoor
abbrev tlC (x : TE) : Ch := [(1, [.int .i64 x.1.1]), (1, [.int .i64 x.1.2]), (1, [.int .i64 x.2.1]), (1, [.int .i64 x.2.2])]
def tls (S : LT) : List Value := (S.map fun x => flat (tlC x)).flatten
theorem tlC_len (x : TE) : (flat (tlC x)).length = 4 := rfl
theorem tlC_fok (x : TE) : FOk (tlC x) := .one1 rfl (.one1 rfl (.one1 rfl (.one1 rfl .nil)))
theorem tls_len (S : LT) : (tls S).length = S.length * 4 := rows_len tlC_len
theorem tls_at {S : LT} {i : Nat} {x : TE} (h : S[i]? = some x) : ((tls S).drop (i * 4)).take 4 = flat (tlC x) := rows_drop tlC_len h
theorem tls_in {S : LT} {i o : Nat} {x : TE} {u : Value} (h : S[i]? = some x) (ho : o < 4) (hu : (flat (tlC x))[o]? = some u) : (tls S)[i * 4 + o]? = some u := rows_at tlC_len h ho hu
theorem tls_snoc (S : LT) (x : TE) : tls S ++ flat (tlC x) = tls (S ++ [x]) := by unfold tls; simp
instance tlElt : EltN Tryd.prog 31 4 := ⟨by kernel_rfl⟩
theorem cfT_tc : TC cfT := TC.lex (f := fun x y : TE => Lib.compareInt x.1.1 y.1.1) (g := fun x y : TE => Lib.compareInt x.1.2 y.1.2) (TC.int.pull (fun x : TE => x.1.1)) (TC.int.pull (fun x : TE => x.1.2))
theorem cfT_lt (x y : TE) : ltOf cfT x y = ltP x.1 y.1 := by
  unfold ltOf cfT ltP Lib.compareInt
  rw [Bool.eq_iff_iff]
  simp only [decide_eq_true_eq, Bool.or_eq_true, Bool.and_eq_true]
  (repeat' split) <;> omega
theorem sortTl_t (v : Value) (l : LT) (hl : l.length ≤ 100000) : Triple Tryd.prog 35 #[v, .func (.func 36) #[] #[]] [rowN 31 4 v l.length (tls l)] (RSortP 31 4 (fun x => flat (tlC x)) cfT v l) :=
  sortPg_t Tryd.sortF35 (fun w => TyI.run_isAgg (P := Tryd.prog) (T := 31) w) (fun w => TyI.run_sizeOf (P := Tryd.prog) (T := 31) w) (fun x => flat (tlC x)) tlC_len (fun x v hv => (tlC_fok x).one v hv) cfT cfT_tc.swo 36 (by kernel_rfl) (fun x y w => tal_any x y w) v l (by omega)
open Go.RowKit
set_option linter.unusedSimpArgs false
set_option linter.unusedVariables false
set_option maxRecDepth 20000
set_option maxHeartbeats 2000000
attribute [local irreducible] WPc WPl WPq ReadR OpT BinR HasS bx rdN rowN Take Takes Prov Triple ResF BuildP Done ag Int.decLt Int.decLe Int.instDecidableEq
attribute [local irreducible] mp rmp rg rgo mput mget mfind mdel mhas tls
def RTal (gR mW mE mT : Nat) (T : LT) : Value → List Asn → Prop := fun v Γ => ∃ S : LT, v.oneCell' = true ∧ Γ = [bx gR 52 (rpC mW mE mT), mp toM mT T, rowN 31 4 v S.length (tls S)] ∧ S.Perm T ∧ S.Pairwise fun x y => ltP y.1 x.1 = false
theorem tallies_t (gR mW mE mT : Nat) (T : LT) (hT : T.length ≤ 10000) : Triple Tryd.prog 22 #[pB0 gR] [bx gR 52 (rpC mW mE mT), mp toM mT T] (RTal gR mW mE mT T) := by
  refine Triple.enter Tryd.func22 rfl Tryd.ntmps22 rfl (fun W => ?_)
  dsimp only [argsF, Nat.reduceAdd]
  refine WPc.nilRowN 31 4 ?_
  rw [show rowN 31 4 (.slice none 0 0) 0 [] = rowN 31 4 (.slice none 0 0) ([] : LT).length (tls []) from by with_unfolding_all rfl]
  repeat' (first
   | refine WPl.nil ?_ | refine WPq.then ?_ | refine WPq.thenR ?_ | refine WPq.thenE ?_ | refine WPq.blockN ?_ | refine WPq.blockR ?_ | refine WPq.blockE ?_ | refine WPq.blockO rfl ?_ | refine WPc.seq ?_ | refine WPc.block ?_ | refine WPc.ret ?_ | refine WPc.exit ?_ | refine WPc.skip ?_ | refine WPc.region ?_
   | (refine isCond ?_; first | refine WPc.cT ?_ | refine WPc.cF ?_ | (refine WPc.cQ (fun hc => ?_) (fun hc => ?_) <;> try exact prA))
   | (refine isD 7 ?_; refine WPl.rdX (readP) ?_)
   | (refine isD 10 ?_; refine WPl.mrange fun r => ?_)
   | (refine isOp ?_; first | refine WPl.rd ?_ | refine WPl.sk ?_ | refine WPl.rdB ?_)
   | (refine isAl ?_; refine WPl.nw fun g => ?_)
   | (refine isSt ?_; first | refine WPl.st1 ?_ | refine WPl.stA ?_ | refine WPl.stEB ?_ | refine WPl.stRB ?_)
   | (show WPl _ _ _ _ _ _ _ (⟨_, .indexAddr _ _ _, _, _, _, _⟩ :: _) _; refine WPl.rdX (ReadR.indexE rfl rfl hasA (by first | assumption | omega)) ?_)
   | (show WPl _ _ _ _ _ _ _ (⟨_, .fieldAddr _ _ _, _, _, _, _⟩ :: _) _; refine WPl.rdX (ReadR.fieldE rfl hasA (by first | assumption | omega)) ?_)
   | (show WPl _ _ _ _ _ _ _ (⟨_, .load _ _, _, _, _, _⟩ :: _) _; first | refine WPl.rdX (ReadR.loadE rfl hasA (by assumption)) ?_ | refine WPl.rdX (ReadR.loadES (by assumption) (by first | assumption | omega) rfl hasA) ?_)
   | (show WPl _ _ _ _ _ _ _ (⟨_, .slice _ _ _ _ _, _, _, _, _⟩ :: _) _; first | refine WPl.rdX (ReadR.sliceH rfl rfl hasA (by omega)) ?_ | refine WPl.rdX (ReadR.sliceL rfl rfl hasA (by omega)) ?_ | refine WPl.rdX (ReadR.sliceLH rfl rfl rfl hasA (by omega) (by omega)) ?_)
   | (refine WPl.spQ (fun hc => ?_) (fun hc => ?_) <;> try exact prA)
   | fail)
  first | refine WPc.loop (σ := LT × LT × Option TE × Value) (fun st => (st.2.1 ++ st.1).Perm T ∧ st.2.2.2.oneCell' = true) (fun st => [rowN 31 4 st.2.2.2 st.2.1.length (tls st.2.1), bx gR 52 (rpC mW mE mT), rg toM mT r T st.1 st.2.2.1]) (fun st => [(0, pB0 gR), (3, st.2.2.2), (10, .pointer (some ⟨r, 0, none⟩))]) (fun st => st.1.length) (⟨T, [], none, .slice none 0 0⟩) ?_ takesA frsA (fun st km hx hk => ?_)
  · exact ⟨.refl _, rfl⟩
  obtain ⟨td, S, cu, vo⟩ := st
  obtain ⟨hp, hone⟩ := hx
  dsimp only at hp hone hk ⊢
  have hol : S.length ≤ 10000 := by
    have h1 := hp.length_eq
    simp at h1; omega
  repeat' (first
   | refine WPl.nil ?_ | refine WPq.then ?_ | refine WPq.thenR ?_ | refine WPq.thenE ?_ | refine WPq.blockN ?_ | refine WPq.blockR ?_ | refine WPq.blockE ?_ | refine WPq.blockO rfl ?_ | refine WPc.seq ?_ | refine WPc.block ?_ | refine WPc.ret ?_ | refine WPc.exit ?_ | refine WPc.skip ?_ | refine WPc.region ?_
   | (refine isCond ?_; first | refine WPc.cT ?_ | refine WPc.cF ?_ | (refine WPc.cQ (fun hc => ?_) (fun hc => ?_) <;> try exact prA))
   | (refine isD 11 ?_; refine WPl.mnext (M := toM) (fun k => ag (plC k)) (fun s => ag (plC s)) (fun h0 => ?_) (fun A y B hAB => ?_))
   | (refine isD 13 ?_; refine WPl.rdX (ReadR.entry (kv := ag (plC y.1)) (vv := ag (plC y.2)) rfl rfl memA rfl) ?_)
   | (refine isC 29 ?_; refine WPl.cXs (sortTl_t vo S (by omega)) fun v Γ1 hR => ?_; obtain ⟨S', rfl, rfl, hpo, hso⟩ := hR; (try dsimp only [putF, List.cons_append, List.nil_append]))
   | (refine isD 25 ?_; refine WPl.rdX (ReadR.build (cs' := tlC y) buildA) ?_)
   | (refine isD 26 ?_; refine WPl.litS1 fun wv hwv => ?_)
   | (refine isD 27 ?_; refine WPl.appN (m := S.length) (m2 := 1) (xs := tls S) (ys := flat (tlC y)) (by rw [tlC_len]) (tlC_fok y).one (by omega) fun v2 hv2 => ?_)
   | (refine isOp ?_; first | refine WPl.rd ?_ | refine WPl.sk ?_ | refine WPl.rdB ?_)
   | (refine isAl ?_; refine WPl.nw fun g => ?_)
   | (refine isSt ?_; first | refine WPl.st1 ?_ | refine WPl.stA ?_ | refine WPl.stEB ?_ | refine WPl.stRB ?_)
   | (show WPl _ _ _ _ _ _ _ (⟨_, .indexAddr _ _ _, _, _, _, _⟩ :: _) _; refine WPl.rdX (ReadR.indexE rfl rfl hasA (by first | assumption | omega)) ?_)
   | (show WPl _ _ _ _ _ _ _ (⟨_, .fieldAddr _ _ _, _, _, _, _⟩ :: _) _; refine WPl.rdX (ReadR.fieldE rfl hasA (by first | assumption | omega)) ?_)
   | (show WPl _ _ _ _ _ _ _ (⟨_, .load _ _, _, _, _, _⟩ :: _) _; first | refine WPl.rdX (ReadR.loadE rfl hasA (by assumption)) ?_ | refine WPl.rdX (ReadR.loadES (by assumption) (by first | assumption | omega) rfl hasA) ?_)
   | (show WPl _ _ _ _ _ _ _ (⟨_, .slice _ _ _ _ _, _, _, _, _⟩ :: _) _; first | refine WPl.rdX (ReadR.sliceH rfl rfl hasA (by omega)) ?_ | refine WPl.rdX (ReadR.sliceL rfl rfl hasA (by omega)) ?_ | refine WPl.rdX (ReadR.sliceLH rfl rfl rfl hasA (by omega) (by omega)) ?_)
   | (refine WPl.spQ (fun hc => ?_) (fun hc => ?_) <;> try exact prA)
   | fail)
  · subst h0
    rw [List.append_nil] at hp
    rw [show (S'.map fun x => flat (tlC x)).flatten = tls S' from by with_unfolding_all rfl]
    refine WPq.rgOut (M := toM) (m := mT) (r := r) (l := T) (td := []) (c := cu) takeA ?_
    refine WPq.dX (vs := [_]) [bx gR 52 (rpC mW mE mT), mp toM mT T, rowN 31 4 vo S'.length (tls S')] ⟨S', hone, rfl, hpo.trans hp, ?_⟩
    exact hso.imp fun {x y} h => by rw [cfT_lt] at h; exact h
  · have e2 : S.length + 1 = (S ++ [y]).length := by simp
    rw [tls_snoc, e2]
    exact WPq.rnd (A ++ B, S ++ [y], some y, v2) ⟨by
      refine List.Perm.trans ?_ hp
      dsimp only
      rw [hAB, List.append_assoc]
      exact List.Perm.append_left S (by exact (List.perm_middle (l₁ := A) (l₂ := B) (a := y)).symm), hv2⟩ (by dsimp only; rw [hk, hAB]; simp)
theorem talliesP_t (gR mW mE mT : Nat) (T : LT) (hT : T.length ≤ 10000) : Triple Tryd.prog 10 #[pB0 gR] [bx gR 52 (rpC mW mE mT), mp toM mT T] (RTal gR mW mE mT T) := by
  have c6 := tallies_t gR mW mE mT T hT
  refine Triple.enter Tryd.func10 rfl Tryd.ntmps10 rfl (fun W => ?_)
  dsimp only [argsF, Nat.reduceAdd]
  repeat' (first
   | refine WPl.nil ?_ | refine WPq.then ?_ | refine WPq.thenR ?_ | refine WPq.thenE ?_ | refine WPq.blockN ?_ | refine WPq.blockR ?_ | refine WPq.blockE ?_ | refine WPq.blockO rfl ?_ | refine WPc.seq ?_ | refine WPc.block ?_ | refine WPc.ret ?_ | refine WPc.exit ?_ | refine WPc.skip ?_ | refine WPc.region ?_
   | (refine isCond ?_; first | refine WPc.cT ?_ | refine WPc.cF ?_ | (refine WPc.cQ (fun hc => ?_) (fun hc => ?_) <;> try exact prA))
   | (refine isD 4 ?_; refine WPl.rdX (readP) ?_)
   | (refine isC 6 ?_; refine WPl.cXs (c6) fun v6 Γ1 hR => ?_; obtain ⟨S, hv, rfl, h1, h2⟩ := hR; (try dsimp only [putF, List.cons_append, List.nil_append]))
   | (refine isOp ?_; first | refine WPl.rd ?_ | refine WPl.sk ?_ | refine WPl.rdB ?_)
   | (show WPl _ _ _ _ _ _ _ (⟨_, .indexAddr _ _ _, _, _, _, _⟩ :: _) _; refine WPl.rdX (ReadR.indexE rfl rfl hasA (by first | assumption | omega)) ?_)
   | (show WPl _ _ _ _ _ _ _ (⟨_, .fieldAddr _ _ _, _, _, _, _⟩ :: _) _; refine WPl.rdX (ReadR.fieldE rfl hasA (by first | assumption | omega)) ?_)
   | (show WPl _ _ _ _ _ _ _ (⟨_, .load _ _, _, _, _, _⟩ :: _) _; first | refine WPl.rdX (ReadR.loadE rfl hasA (by assumption)) ?_ | refine WPl.rdX (ReadR.loadES (by assumption) (by first | assumption | omega) rfl hasA) ?_)
   | (show WPl _ _ _ _ _ _ _ (⟨_, .slice _ _ _ _ _, _, _, _, _⟩ :: _) _; first | refine WPl.rdX (ReadR.sliceH rfl rfl hasA (by omega)) ?_ | refine WPl.rdX (ReadR.sliceL rfl rfl hasA (by omega)) ?_ | refine WPl.rdX (ReadR.sliceLH rfl rfl rfl hasA (by omega) (by omega)) ?_)
   | (refine WPl.spQ (fun hc => ?_) (fun hc => ?_) <;> try exact prA)
   | fail)
  exact WPq.dX (vs := [v6]) [_, _, _] ⟨S, hv, rfl, h1, h2⟩
theorem packets_t (gR mW mE mT : Nat) (C : LN) (hb : ∀ td : LN, td.Sublist C → in64 (sumV C - sumV td)) : Triple Tryd.prog 12 #[pB0 gR] [bx gR 52 (rpC mW mE mT), mp whM mW C] (RTurns (.int .i64 (sumV C)) [bx gR 52 (rpC mW mE mT), mp whM mW C]) := by
  have c9 := all_t mW C hb
  refine Triple.enter Tryd.func12 rfl Tryd.ntmps12 rfl (fun W => ?_)
  dsimp only [argsF, Nat.reduceAdd]
  repeat' (first
   | refine WPl.nil ?_ | refine WPq.then ?_ | refine WPq.thenR ?_ | refine WPq.thenE ?_ | refine WPq.blockN ?_ | refine WPq.blockR ?_ | refine WPq.blockE ?_ | refine WPq.blockO rfl ?_ | refine WPc.seq ?_ | refine WPc.block ?_ | refine WPc.ret ?_ | refine WPc.exit ?_ | refine WPc.skip ?_ | refine WPc.region ?_
   | (refine isCond ?_; first | refine WPc.cT ?_ | refine WPc.cF ?_ | (refine WPc.cQ (fun hc => ?_) (fun hc => ?_) <;> try exact prA))
   | (refine isD 4 ?_; refine WPl.rdX (readP) ?_)
   | (refine isC 9 ?_; refine WPl.cTs (c9) ?_; (try dsimp only [putF, List.cons_append, List.nil_append]))
   | (refine isOp ?_; first | refine WPl.rd ?_ | refine WPl.sk ?_ | refine WPl.rdB ?_)
   | (show WPl _ _ _ _ _ _ _ (⟨_, .indexAddr _ _ _, _, _, _, _⟩ :: _) _; refine WPl.rdX (ReadR.indexE rfl rfl hasA (by first | assumption | omega)) ?_)
   | (show WPl _ _ _ _ _ _ _ (⟨_, .fieldAddr _ _ _, _, _, _, _⟩ :: _) _; refine WPl.rdX (ReadR.fieldE rfl hasA (by first | assumption | omega)) ?_)
   | (show WPl _ _ _ _ _ _ _ (⟨_, .load _ _, _, _, _, _⟩ :: _) _; first | refine WPl.rdX (ReadR.loadE rfl hasA (by assumption)) ?_ | refine WPl.rdX (ReadR.loadES (by assumption) (by first | assumption | omega) rfl hasA) ?_)
   | (show WPl _ _ _ _ _ _ _ (⟨_, .slice _ _ _ _ _, _, _, _, _⟩ :: _) _; first | refine WPl.rdX (ReadR.sliceH rfl rfl hasA (by omega)) ?_ | refine WPl.rdX (ReadR.sliceL rfl rfl hasA (by omega)) ?_ | refine WPl.rdX (ReadR.sliceLH rfl rfl rfl hasA (by omega) (by omega)) ?_)
   | (refine WPl.spQ (fun hc => ?_) (fun hc => ?_) <;> try exact prA)
   | fail)
  all_goals try (first | exact WPq.dTp | exact WPq.dTs | exact WPq.dV | exact WPq.dR | exact WPq.dR2 | exact WPq.dH | exact WPq.dBH | exact WPq.dT)
theorem names_t : Triple Tryd.prog 33 #[] [tS] (RRow 9 1 8 (wordsL.map sV)) := by
  have c1 := fields_t
  refine Triple.enter Tryd.func33 rfl Tryd.ntmps33 rfl (fun W => ?_)
  dsimp only [argsF, Nat.reduceAdd]
  repeat' (first
   | refine WPl.nil ?_ | refine WPq.then ?_ | refine WPq.thenR ?_ | refine WPq.thenE ?_ | refine WPq.blockN ?_ | refine WPq.blockR ?_ | refine WPq.blockE ?_ | refine WPq.blockO rfl ?_ | refine WPc.seq ?_ | refine WPc.block ?_ | refine WPc.ret ?_ | refine WPc.exit ?_ | refine WPc.skip ?_ | refine WPc.region ?_
   | (refine isCond ?_; first | refine WPc.cT ?_ | refine WPc.cF ?_ | (refine WPc.cQ (fun hc => ?_) (fun hc => ?_) <;> try exact prA))
   | (refine isC 1 ?_; refine WPl.cR c1 (fun v1 hv1 => ?_) (hΔ := provsR))
   | (refine isOp ?_; first | refine WPl.rd ?_ | refine WPl.sk ?_ | refine WPl.rdB ?_)
   | (show WPl _ _ _ _ _ _ _ (⟨_, .indexAddr _ _ _, _, _, _, _⟩ :: _) _; refine WPl.rdX (ReadR.indexE rfl rfl hasA (by first | assumption | omega)) ?_)
   | (show WPl _ _ _ _ _ _ _ (⟨_, .fieldAddr _ _ _, _, _, _, _⟩ :: _) _; refine WPl.rdX (ReadR.fieldE rfl hasA (by first | assumption | omega)) ?_)
   | (show WPl _ _ _ _ _ _ _ (⟨_, .load _ _, _, _, _, _⟩ :: _) _; first | refine WPl.rdX (ReadR.loadE rfl hasA (by assumption)) ?_ | refine WPl.rdX (ReadR.loadES (by assumption) (by first | assumption | omega) rfl hasA) ?_)
   | (show WPl _ _ _ _ _ _ _ (⟨_, .slice _ _ _ _ _, _, _, _, _⟩ :: _) _; first | refine WPl.rdX (ReadR.sliceH rfl rfl hasA (by omega)) ?_ | refine WPl.rdX (ReadR.sliceL rfl rfl hasA (by omega)) ?_ | refine WPl.rdX (ReadR.sliceLH rfl rfl rfl hasA (by omega) (by omega)) ?_)
   | (refine WPl.spQ (fun hc => ?_) (fun hc => ?_) <;> try exact prA)
   | fail)
  all_goals try (first | exact WPq.dTp | exact WPq.dTs | exact WPq.dV | exact WPq.dR | exact WPq.dR2 | exact WPq.dH | exact WPq.dBH | exact WPq.dT)
theorem rising_t (m : Nat) (C : LN) (hC : C.length ≤ 100000) : Triple Tryd.prog 32 #[.map (some m)] [rmp whM m C] (RRow 3 1 C.length (intsV ((C.map (·.1)).mergeSort leB))) := by
  have c4 := keys_t m
  have c5 := fun g4 => sorted_t (M := whM) (fun _ => rfl) (fun _ h => h) g4 m C (by omega)
  refine Triple.enter Tryd.func32 rfl Tryd.ntmps32 rfl (fun W => ?_)
  dsimp only [argsF, Nat.reduceAdd]
  repeat' (first
   | refine WPl.nil ?_ | refine WPq.then ?_ | refine WPq.thenR ?_ | refine WPq.thenE ?_ | refine WPq.blockN ?_ | refine WPq.blockR ?_ | refine WPq.blockE ?_ | refine WPq.blockO rfl ?_ | refine WPc.seq ?_ | refine WPc.block ?_ | refine WPc.ret ?_ | refine WPc.exit ?_ | refine WPc.skip ?_ | refine WPc.region ?_
   | (refine isCond ?_; first | refine WPc.cT ?_ | refine WPc.cF ?_ | (refine WPc.cQ (fun hc => ?_) (fun hc => ?_) <;> try exact prA))
   | (refine isC 4 ?_; refine WPl.cXs (c4) fun v Γ1 hR => ?_; obtain ⟨g4, rfl, rfl⟩ := hR; (try dsimp only [putF, List.cons_append, List.nil_append]))
   | (refine isC 5 ?_; refine WPl.cR (c5 _) (fun v5 hv5 => ?_) (hΔ := provsM))
   | (refine isOp ?_; first | refine WPl.rd ?_ | refine WPl.sk ?_ | refine WPl.rdB ?_)
   | (show WPl _ _ _ _ _ _ _ (⟨_, .indexAddr _ _ _, _, _, _, _⟩ :: _) _; refine WPl.rdX (ReadR.indexE rfl rfl hasA (by first | assumption | omega)) ?_)
   | (show WPl _ _ _ _ _ _ _ (⟨_, .fieldAddr _ _ _, _, _, _, _⟩ :: _) _; refine WPl.rdX (ReadR.fieldE rfl hasA (by first | assumption | omega)) ?_)
   | (show WPl _ _ _ _ _ _ _ (⟨_, .load _ _, _, _, _, _⟩ :: _) _; first | refine WPl.rdX (ReadR.loadE rfl hasA (by assumption)) ?_ | refine WPl.rdX (ReadR.loadES (by assumption) (by first | assumption | omega) rfl hasA) ?_)
   | (show WPl _ _ _ _ _ _ _ (⟨_, .slice _ _ _ _ _, _, _, _, _⟩ :: _) _; first | refine WPl.rdX (ReadR.sliceH rfl rfl hasA (by omega)) ?_ | refine WPl.rdX (ReadR.sliceL rfl rfl hasA (by omega)) ?_ | refine WPl.rdX (ReadR.sliceLH rfl rfl rfl hasA (by omega) (by omega)) ?_)
   | (refine WPl.spQ (fun hc => ?_) (fun hc => ?_) <;> try exact prA)
   | fail)
  all_goals try (first | exact WPq.dTp | exact WPq.dTs | exact WPq.dV | exact WPq.dR | exact WPq.dR2 | exact WPq.dH | exact WPq.dBH | exact WPq.dT)
end Go.Proofs.YtagedgcdonodfaaDoor
