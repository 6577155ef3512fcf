/- Reference of layer 33 (bucket): Take: contract. -/
import Derived.Test.YtncgponcedkihaaRy
import Derived.Test.YtncgponcedkihaaSp
import Derived.Test.YtncgponcedkihaaRg
namespace Go.Proofs.Ytncgponcedkihaa
abbrev ordRt1 : List (List Nat × List Nat) := [([20], [33, 34, 35, 36, 37, 38, 39, 40, 41, 42, 43, 44, 45, 46, 47, 48]), ([20], [32, 34, 35, 36, 37, 38, 39, 41, 42, 43, 44, 45, 46, 47]), ([20], [32, 33, 38, 41, 42, 43, 44, 45, 46, 47]), ([2, 20], [32, 33, 34, 38, 41, 42, 43, 44, 45, 46, 47]), ([2, 3, 20], [32, 33, 34, 35, 38, 41, 42, 43, 44, 45, 46, 47]), ([2, 3, 4, 20], [32, 33, 34, 35, 36, 38, 41, 42, 43, 44, 45, 46, 47]), ([20], [32, 33, 34, 35, 36, 37, 41, 42, 43, 44, 45, 46, 47]), ([2, 3, 4, 5, 6, 20], [32, 33, 34, 35, 36, 37, 38, 41, 42, 43, 44, 45, 46, 47]), ([1, 2, 3, 4, 5, 6, 7, 20], [32, 33, 34, 35, 36, 37, 38, 39, 41, 42, 43, 44, 45, 46, 47]), ([20], [32, 33, 34, 35, 36, 37, 38, 39, 40, 45, 46]), ([9, 20], [32, 33, 34, 35, 36, 37, 38, 39, 40, 41, 45, 46]), ([9, 10, 20], [32, 33, 34, 35, 36, 37, 38, 39, 40, 41, 42, 45, 46]), ([9, 10, 11, 20], [32, 33, 34, 35, 36, 37, 38, 39, 40, 41, 42, 43, 45, 46]), ([20], [32, 33, 34, 35, 36, 37, 38, 39, 40, 41, 42, 43, 44]), ([13, 20], [32, 33, 34, 35, 36, 37, 38, 39, 40, 41, 42, 43, 44, 45]), ([9, 10, 11, 12, 13, 14, 20], [32, 33, 34, 35, 36, 37, 38, 39, 40, 41, 42, 43, 44, 45, 46]), ([1, 2, 3, 4, 5, 6, 7, 8, 9, 10, 11, 12, 13, 14, 15, 20], [32, 33, 34, 35, 36, 37, 38, 39, 40, 41, 42, 43, 44, 45, 46, 47]), ([0, 1, 2, 3, 4, 5, 6, 7, 8, 9, 10, 11, 12, 13, 14, 15, 16, 20], [32, 33, 34, 35, 36, 37, 38, 39, 40, 41, 42, 43, 44, 45, 46, 47, 48]), ([0, 1, 2, 3, 4, 5, 6, 7, 8, 9, 10, 11, 12, 13, 14, 15, 16, 17, 20], [32, 33, 34, 35, 36, 37, 38, 39, 40, 41, 42, 43, 44, 45, 46, 47, 48, 49]), ([0, 1, 2, 3, 4, 5, 6, 7, 8, 9, 10, 11, 12, 13, 14, 15, 16, 17, 18, 20], [32, 33, 34, 35, 36, 37, 38, 39, 40, 41, 42, 43, 44, 45, 46, 47, 48, 49, 50])]
abbrev ordRt2 : List (List Nat × List Nat) := [([15], [63, 64, 65, 66, 67, 68, 69, 70, 71, 72, 73]), ([15], [62, 67, 68, 69, 70, 71, 72]), ([1, 15], [62, 63, 67, 68, 69, 70, 71, 72]), ([1, 2, 15], [62, 63, 64, 67, 68, 69, 70, 71, 72]), ([1, 2, 3, 15], [62, 63, 64, 65, 67, 68, 69, 70, 71, 72]), ([15], [62, 63, 64, 65, 66]), ([5, 15], [62, 63, 64, 65, 66, 67]), ([5, 6, 15], [62, 63, 64, 65, 66, 67, 68]), ([5, 6, 7, 15], [62, 63, 64, 65, 66, 67, 68, 69]), ([5, 6, 7, 8, 15], [62, 63, 64, 65, 66, 67, 68, 69, 70]), ([5, 6, 7, 8, 9, 15], [62, 63, 64, 65, 66, 67, 68, 69, 70, 71]), ([1, 2, 3, 4, 5, 6, 7, 8, 9, 10, 15], [62, 63, 64, 65, 66, 67, 68, 69, 70, 71, 72]), ([0, 1, 2, 3, 4, 5, 6, 7, 8, 9, 10, 11, 15], [62, 63, 64, 65, 66, 67, 68, 69, 70, 71, 72, 73]), ([0, 1, 2, 3, 4, 5, 6, 7, 8, 9, 10, 11, 12, 15], [62, 63, 64, 65, 66, 67, 68, 69, 70, 71, 72, 73, 74]), ([0, 1, 2, 3, 4, 5, 6, 7, 8, 9, 10, 11, 12, 13, 15], [62, 63, 64, 65, 66, 67, 68, 69, 70, 71, 72, 73, 74, 75])]
open Go.RowKit
set_option linter.unusedSimpArgs false
set_option linter.unusedVariables false
set_option maxRecDepth 20000
set_option maxHeartbeats 4000000
attribute [local irreducible] WPc WPl WPq ReadR OpT BinR HasS bx rdN rowN Take Takes Prov Triple ResF BuildP Done ag Int.decLt Int.decLe Int.instDecidableEq
theorem subv_one {sz : Nat} {v : Value} {k n : Nat} (h : v.oneCell' = true) : (subv sz v k n).oneCell' = true := by
  unfold subv
  split
  · rfl
  · exact h
attribute [local irreducible] crs
section
variable (gX : Nat) (per burst : Int) (clients : Nat) (vL : Value) (D : List Cl)
def RTk (D' : List Cl) (r : Bool) : Value → List Asn → Prop := fun v Γ => v = .bool r ∧ ∃ vL', vL'.oneCell' = true ∧ Γ = [bx gX 48 (xcc per burst (clients : Int) vL'), rowN 51 20 vL' D'.length (crs D')]
theorem kept_some {D : List Cl} {p : Pf} {c : Cl} {i : Nat} {burst now : Int} {clients : Nat} (hf : D.find? (fun c => decide (c.p = p)) = some c) (h : D.eraseP (fun c => decide (c.p = p)) = D.take i ++ D.drop (i + 1)) : keptD burst clients D p now = (c, D.take i ++ D.drop (i + 1)) := by unfold keptD; rw [hf, ← h]
theorem kept_full {D : List Cl} {p : Pf} {burst now : Int} {clients : Nat} (hf : D.find? (fun c => decide (c.p = p)) = none) (h : clients ≤ D.length) : keptD burst clients D p now = (⟨p, burst, now⟩, D.dropLast) := by unfold keptD; rw [hf]; dsimp only; rw [if_pos h]
theorem kept_new {D : List Cl} {p : Pf} {burst now : Int} {clients : Nat} (hf : D.find? (fun c => decide (c.p = p)) = none) (h : ¬ clients ≤ D.length) : keptD burst clients D p now = (⟨p, burst, now⟩, D) := by unfold keptD; rw [hf]; dsimp only; rw [if_neg h]
theorem fin_eq {v : Value} {c' : Cl} {D2 : List Cl} : [bx gX 48 (xcc per burst (clients : Int) v), rowN 51 20 v (1 + D2.length) (flat (rcC c') ++ crs D2)] = [bx gX 48 (xcc per burst (clients : Int) v), rowN 51 20 v (c' :: D2).length (crs (c' :: D2))] := by
  have e1 : 1 + D2.length = (c' :: D2).length := by rw [List.length_cons]; omega
  have e2 : flat (rcC c') ++ crs D2 = crs (c' :: D2) := by rw [← crs_one, ← crs_app]; rfl
  rw [e1, e2]
abbrev TkS := Nat × Cl × List Cl × Value × Nat × List Value
def tkOk (burst : Int) (clients : Nat) (D : List Cl) (p : Pf) (now : Int) (s : TkS) : Prop := keptD burst clients D p now = (s.2.1, s.2.2.1) ∧ s.2.2.2.1.oneCell' = true ∧ s.2.2.2.2.1 = s.2.2.1.length ∧ s.2.2.2.2.2 = crs s.2.2.1 ∧ (0 ≤ s.2.1.tok ∧ s.2.1.tok ≤ burst ∧ 0 ≤ s.2.1.at' ∧ s.2.1.at' < 18446744073709551616) ∧ s.2.2.1.length ≤ D.length
theorem rtake_t (hvL : vL.oneCell' = true) (p : Pf) (n now : Int) (hD : D.length ≤ 100000) (hok : ∀ c ∈ D, 0 ≤ c.tok ∧ c.tok ≤ burst ∧ 0 ≤ c.at' ∧ c.at' < 18446744073709551616) (p1 : 0 ≤ per) (p2 : per ≤ 1048576) (b0 : 0 ≤ burst) (b2 : burst ≤ 1073741824) (hc1 : 1 ≤ clients) (hc2 : clients ≤ 1000) (n1 : 0 ≤ now) (n2 : now < 18446744073709551616) (hn64 : in64 n) :
    Triple Try.prog 23 #[hP' gX, ag (pfc p), .int .i64 n, .int .u64 now] [bx gX 48 (xcc per burst (clients : Int) vL), rowN 51 20 vL D.length (crs D)] (RTk gX per burst clients (takeD per burst clients D p n now).1 (takeD per burst clients D p n now).2) := by
  have l1 := p.1.len
  unfold in64 at hn64
  have c1 := rat_t gX per burst (clients : Int) vL D p hD
  obtain ⟨ai, hai⟩ : ∃ ai, ai = atD D p := ⟨_, rfl⟩
  rw [← hai] at c1
  have hcl := crs_len (D := D)
  refine Triple.enter Try.func23 rfl Try.ntmps23 rfl (fun W => ?_)
  dsimp only [argsF, Nat.reduceAdd]
  repeat' (first
   | (refine isSeqR 2 ?_; refine WPc.join (σ := TkS) (fun st => tkOk burst clients D p now st) (fun st => [bx gX 48 (xcc per burst (clients : Int) st.2.2.2.1), rowN 51 20 st.2.2.2.1 st.2.2.2.2.1 st.2.2.2.2.2, bx st.1 51 (rcC st.2.1)]) (fun st => [(0, hP' gX), (2, .int .i64 n), (3, .int .u64 now), (9, .pointer (some ⟨st.1, 0, none⟩))]) ?_ (fun st hx => ?_))
   | (refine isSeq1 2 ?_; refine Held.it ?_)
   | (refine isSeq1 7 ?_; refine Held.it ?_)
   | refine WPl.nil ?_ | refine WPq.then ?_ | refine WPq.thenR ?_ | refine WPq.thenE ?_ | refine WPq.blockN ?_ | refine WPq.blockR ?_ | refine WPq.blockE ?_ | refine WPq.blockO rfl ?_ | refine WPc.seq ?_ | refine WPc.block ?_ | refine WPc.ret ?_ | refine WPc.exit ?_ | refine WPc.skip ?_ | refine WPc.region ?_
   | (refine isReg 1 ?_; refine WPc.drA [([], [9, 13, 14, 15, 16, 17, 18, 20, 21, 22]), ([], [9, 12, 18, 20, 21, 22]), ([1], [9, 12, 13, 18, 20, 21, 22]), ([1, 2], [9, 12, 13, 14, 18, 20, 21, 22]), ([1, 2, 3], [9, 12, 13, 14, 15, 18, 20, 21, 22]), ([1, 2, 3, 4], [9, 12, 13, 14, 15, 16, 18, 20, 21, 22]), ([], [9, 12, 13, 14, 15, 16, 17, 20, 21, 22]), ([0, 1, 2, 3, 4, 5, 6], [9, 12, 13, 14, 15, 16, 17, 18, 20, 21, 22]), ([], [9, 12, 13, 14, 15, 16, 17, 18, 19, 21]), ([], [9, 12, 13, 14, 15, 16, 17, 18, 19, 20]), ([8, 9], [9, 12, 13, 14, 15, 16, 17, 18, 19, 20, 21]), ([], [12, 13, 14, 15, 16, 17, 18, 19, 20, 21, 22]), ([0, 1, 2, 3, 4, 5, 6, 7, 8, 9, 10, 11], [9, 12, 13, 14, 15, 16, 17, 18, 19, 20, 21, 22]), ([0, 1, 2, 3, 4, 5, 6, 7, 8, 9, 10, 11, 12], [9, 12, 13, 14, 15, 16, 17, 18, 19, 20, 21, 22])] [(11, 12)] (Γx := []) ?_; dsimp only [prev0, List.length_nil, List.length_cons])
   | (refine gAny ?_; first | (refine gC 22 ?_; refine RGl.vl (fun e hk => OpT.callN (c1) (hΔ := by (try dsimp only [bndR, ensR, oksR, fcutR, List.append_nil, List.nil_append, List.cons_append, List.append_assoc] at hk ⊢); exact provsX)) ?_) | (refine gOp ?_; first | refine RGl.rdA ?_ | refine RGl.rdX (fun e hk => by (try dsimp only [bndR, ensR, oksR, fcutR, List.append_nil, List.nil_append, List.cons_append, List.append_assoc] at hk ⊢); exact readB) ?_) | (refine gAl ?_; refine RGl.nwA ?_) | (refine gSt ?_; refine RGl.stA ?_) | (refine RGl.fin (fun e hk => ?_); (try dsimp only [bndA, ensAR, oksA, List.append_nil, List.nil_append, List.cons_append, List.append_assoc] at hk ⊢); (repeat (obtain ⟨hk1, hk⟩ := hk))) | fail)
   | (refine isCond ?_; first | refine WPc.cT ?_ | refine WPc.cF ?_ | (refine WPc.cQ (fun hc => ?_) (fun hc => ?_) <;> try exact prA))
   | (refine isC 22 ?_; refine WPl.cV (c1) ?_ (hΔ := provsX))
   | (refine isOp ?_; first | refine WPl.rd ?_ | refine WPl.sk ?_ | refine WPl.rdB ?_)
   | (refine isAl ?_; refine WPl.nw fun g => ?_)
   | (refine isBx ?_; refine WPl.nw fun g => ?_)
   | (refine isSt ?_; first | refine WPl.st1 ?_ | refine WPl.stA ?_ | refine WPl.stEB ?_ | refine WPl.stRB ?_)
   | (show WPl _ _ _ _ _ _ _ (⟨_, .indexAddr _ _ _, _, _, _, _⟩ :: _) _; refine WPl.rdX (ReadR.indexE rfl rfl hasA (by first | assumption | omega)) ?_)
   | (show WPl _ _ _ _ _ _ _ (⟨_, .fieldAddr _ _ _, _, _, _, _⟩ :: _) _; refine WPl.rdX (ReadR.fieldE rfl hasA (by first | assumption | omega)) ?_)
   | (show WPl _ _ _ _ _ _ _ (⟨_, .load _ _, _, _, _, _⟩ :: _) _; first | refine WPl.rdX (ReadR.loadE rfl hasA (by assumption)) ?_ | refine WPl.rdX (ReadR.loadES (by assumption) (by first | assumption | omega) rfl hasA) ?_)
   | (show WPl _ _ _ _ _ _ _ (⟨_, .slice _ _ _ _ _, _, _, _, _⟩ :: _) _; first | refine WPl.rdX (ReadR.sliceH rfl rfl hasA (by omega)) ?_ | refine WPl.rdX (ReadR.sliceL rfl rfl hasA (by omega)) ?_ | refine WPl.rdX (ReadR.sliceLH rfl rfl rfl hasA (by omega) (by omega)) ?_)
   | (refine WPl.spQ (fun hc => ?_) (fun hc => ?_) <;> try exact prA)
   | fail)
  · refine ⟨?_⟩
    generalize blk (e 11).1 = g9
    cases hf : D.find? (fun c => decide (c.p = p)) with
    | some cx =>
      obtain ⟨i, h1, h2, h4⟩ := atD_some hf
      rw [h1] at hai
      have hil := (List.getElem?_eq_some_iff.1 h2).1
      have hi0 : ai ≥ 0 := by omega
      subst hai
      have h3 := crs_at h2
      have l2 := cx.p.1.len
      have hq := hok cx (List.mem_of_getElem? h2)
      have hT := crs_take (D := D) (i := i)
      have hU := crs_drop (D := D) (i := i + 1) (k := D.length - (i + 1)) (by omega)
      repeat' (first
       | refine WPl.nil ?_ | refine WPq.then ?_ | refine WPq.thenR ?_ | refine WPq.thenE ?_ | refine WPq.blockN ?_ | refine WPq.blockR ?_ | refine WPq.blockE ?_ | refine WPq.blockO rfl ?_ | refine WPc.seq ?_ | refine WPc.block ?_ | refine WPc.ret ?_ | refine WPc.exit ?_ | refine WPc.skip ?_ | refine WPc.region ?_
       | (refine isReg 4 ?_; refine WPc.drA ordRt1 [(1, 8), (8, 16), (20, 19), (20, 0), (20, 1), (20, 2), (20, 3), (20, 4), (20, 5), (20, 6), (20, 7), (20, 8), (20, 9), (20, 10), (20, 11), (20, 12), (20, 13), (20, 14), (20, 15), (20, 16), (20, 17), (20, 18)] (Γx := [bx gX 48 (xcc per burst (clients : Int) vL)]) ?_; dsimp only [prev0, List.length_nil, List.length_cons])
       | (refine gAny ?_; first | (refine gD 33 ?_; refine RGl.row (Γ1 := fun _ => []) (fun e hk => by (try dsimp only [bndR, ensR, oksR, fcutR, List.append_nil, List.nil_append, List.cons_append, List.append_assoc] at hk ⊢); exact OpT.buildS0) ?_) | (refine gD 40 ?_; refine RGl.row (Γ1 := fun e => [rowN 51 20 (e 1).1 0 ([])]) (m := fun _ => 0 + i) (xs := fun _ => crs (D.take i)) (fun e hk => by (try dsimp only [bndR, ensR, oksR, fcutR, List.append_nil, List.nil_append, List.cons_append, List.append_assoc] at hk ⊢); exact OpT.appendN (m := 0) (m2 := i) (xs := []) (ys := crs (D.take i)) rfl rfl takesA (hT ▸ HasS.sub (k := 0) (n := i) (sz := 20) hasA crs_len (by omega)) (by rw [crs_len, List.length_take]; congr 1; omega) crs_cell (by omega)) ?_) | (refine gD 48 ?_; refine RGl.row (Γ1 := fun e => [rowN 51 20 (e 8).1 (0 + i) ((crs (D.take i)))]) (m := fun _ => (0 + i) + (D.length - (i + 1))) (xs := fun _ => (crs (D.take i)) ++ crs (D.drop (i + 1))) (fun e hk => by (try dsimp only [bndR, ensR, oksR, fcutR, List.append_nil, List.nil_append, List.cons_append, List.append_assoc] at hk ⊢); exact OpT.appendN (m := (0 + i)) (m2 := (D.length - (i + 1))) (xs := (crs (D.take i))) (ys := crs (D.drop (i + 1))) rfl rfl takesA (hU ▸ HasS.sub (k := i + 1) (n := D.length - (i + 1)) (sz := 20) hasA crs_len (by omega)) (by rw [crs_len, List.length_drop]) crs_cell (by omega)) ?_) | (refine gSt ?_; refine RGl.turn (fun e hk => by (try dsimp only [bndR, ensR, oksR, fcutR, List.append_nil, List.nil_append, List.cons_append, List.append_assoc] at hk ⊢); exact OpT.store1 rfl rfl takesA (by (repeat (obtain ⟨hk1, hk⟩ := hk)) <;> assumption) (by dsimp only [sel, takeCh, upd, dropCh, appCh, setAt, chAt, Option.map_some, List.cons_append, List.nil_append, Nat.reduceSub, Nat.reduceAdd] <;> exact rfl)) ?_) | (refine gD 24 ?_; refine RGl.rdX (fun e hk => by (try dsimp only [bndR, ensR, oksR, fcutR, List.append_nil, List.nil_append, List.cons_append, List.append_assoc] at hk ⊢); exact ReadR.binE rfl rfl BinR.geq (congrArg Value.bool (decide_eq_true hi0))) ?_) | (refine gD 30 ?_; refine RGl.rdX (fun e hk => by (try dsimp only [bndR, ensR, oksR, fcutR, List.append_nil, List.nil_append, List.cons_append, List.append_assoc] at hk ⊢); exact ReadR.indexE (i := i) rfl rfl hasA hil) ?_) | (refine gD 31 ?_; refine RGl.rdX (fun e hk => by (try dsimp only [bndR, ensR, oksR, fcutR, List.append_nil, List.nil_append, List.cons_append, List.append_assoc] at hk ⊢); exact ReadR.loadES (cs := rcC cx) h3 (by omega) rfl hasA) ?_) | (refine gD 39 ?_; refine RGl.rdX (fun e hk => by (try dsimp only [bndR, ensR, oksR, fcutR, List.append_nil, List.nil_append, List.cons_append, List.append_assoc] at hk ⊢); exact ReadR.sliceH (j := i) rfl rfl hasA (by omega)) ?_) | (refine gD 47 ?_; refine RGl.rdX (fun e hk => by (try dsimp only [bndR, ensR, oksR, fcutR, List.append_nil, List.nil_append, List.cons_append, List.append_assoc] at hk ⊢); exact ReadR.sliceL (i := i + 1) rfl rfl hasA (by omega)) ?_) | (refine gOp ?_; first | refine RGl.rdA ?_ | refine RGl.rdX (fun e hk => by (try dsimp only [bndR, ensR, oksR, fcutR, List.append_nil, List.nil_append, List.cons_append, List.append_assoc] at hk ⊢); exact readB) ?_) | (refine gLit ?_; refine RGl.litA ?_) | (refine gApp ?_; refine RGl.appA ?_) | (refine gSt ?_; refine RGl.stA ?_) | (refine RGl.fin (fun e hk => ?_); (try dsimp only [bndA, ensAR, oksA, List.append_nil, List.nil_append, List.cons_append, List.append_assoc] at hk ⊢); (repeat (obtain ⟨hk1, hk⟩ := hk))) | fail)
       | (refine isCond ?_; first | refine WPc.cT ?_ | refine WPc.cF ?_ | (refine WPc.cQ (fun hc => ?_) (fun hc => ?_) <;> try exact prA))
       | (refine isD 24 ?_; refine WPl.rdX (ReadR.binE rfl rfl BinR.geq (congrArg Value.bool (decide_eq_true hi0))) ?_)
       | (refine isD 30 ?_; refine WPl.rdX (ReadR.indexE (i := i) rfl rfl hasA hil) ?_)
       | (refine isD 31 ?_; refine WPl.rdX (ReadR.loadES (cs := rcC cx) h3 (by omega) rfl hasA) ?_)
       | (refine isD 39 ?_; refine WPl.rdX (ReadR.sliceH (j := i) rfl rfl hasA (by omega)) ?_)
       | (refine isD 47 ?_; refine WPl.rdX (ReadR.sliceL (i := i + 1) rfl rfl hasA (by omega)) ?_)
       | (refine isOp ?_; first | refine WPl.rd ?_ | refine WPl.sk ?_ | refine WPl.rdB ?_)
       | (refine isAl ?_; refine WPl.nw fun g => ?_)
       | (refine isBx ?_; refine WPl.nw fun g => ?_)
       | (refine isSt ?_; first | refine WPl.st1 ?_ | refine WPl.stA ?_ | refine WPl.stEB ?_ | refine WPl.stRB ?_)
       | (show WPl _ _ _ _ _ _ _ (⟨_, .indexAddr _ _ _, _, _, _, _⟩ :: _) _; refine WPl.rdX (ReadR.indexE rfl rfl hasA (by first | assumption | omega)) ?_)
       | (show WPl _ _ _ _ _ _ _ (⟨_, .fieldAddr _ _ _, _, _, _, _⟩ :: _) _; refine WPl.rdX (ReadR.fieldE rfl hasA (by first | assumption | omega)) ?_)
       | (show WPl _ _ _ _ _ _ _ (⟨_, .load _ _, _, _, _, _⟩ :: _) _; first | refine WPl.rdX (ReadR.loadE rfl hasA (by assumption)) ?_ | refine WPl.rdX (ReadR.loadES (by assumption) (by first | assumption | omega) rfl hasA) ?_)
       | (show WPl _ _ _ _ _ _ _ (⟨_, .slice _ _ _ _ _, _, _, _, _⟩ :: _) _; first | refine WPl.rdX (ReadR.sliceH rfl rfl hasA (by omega)) ?_ | refine WPl.rdX (ReadR.sliceL rfl rfl hasA (by omega)) ?_ | refine WPl.rdX (ReadR.sliceLH rfl rfl rfl hasA (by omega) (by omega)) ?_)
       | (refine WPl.spQ (fun hc => ?_) (fun hc => ?_) <;> try exact prA)
       | fail)
      exact WPq.join (g9, cx, D.take i ++ D.drop (i + 1), (e 16).1, 0 + i + (D.length - (i + 1)), crs (D.take i) ++ crs (D.drop (i + 1))) ⟨kept_some hf h4, by assumption, by dsimp only; rw [List.length_append, List.length_take, List.length_drop]; omega, by dsimp only; rw [crs_app], hq, by dsimp only; rw [List.length_append, List.length_take, List.length_drop]; omega⟩
    | none =>
      rw [atD_none hf] at hai
      have hneg : ¬ ai ≥ 0 := by omega
      by_cases hfull : clients ≤ D.length
      · have hfull' : (D.length : Int) ≥ (clients : Int) := by omega
        obtain ⟨j, hj⟩ : ∃ j, j = D.length - 1 := ⟨_, rfl⟩
        have hj2 : (D.length : Int) - 1 = (j : Int) := by omega
        have hsv := subv_one (sz := 20) (k := 0) (n := j) hvL
        have hjl : j ≤ D.length := by omega
        repeat' (first
         | refine WPl.nil ?_ | refine WPq.then ?_ | refine WPq.thenR ?_ | refine WPq.thenE ?_ | refine WPq.blockN ?_ | refine WPq.blockR ?_ | refine WPq.blockE ?_ | refine WPq.blockO rfl ?_ | refine WPc.seq ?_ | refine WPc.block ?_ | refine WPc.ret ?_ | refine WPc.exit ?_ | refine WPc.skip ?_ | refine WPc.region ?_
         | (refine isReg 5 ?_; refine WPc.drA [([], [56, 57, 58, 59, 60]), ([0], [51, 56, 57, 58, 59, 60]), ([0, 1], [51, 52, 56, 57, 58, 59, 60]), ([0, 1, 2], [51, 52, 53, 56, 57, 58, 59, 60]), ([0, 1, 2, 3], [51, 52, 53, 54, 56, 57, 58, 59, 60]), ([], [51, 52, 53, 54, 55]), ([5], [51, 52, 53, 54, 55, 56]), ([5, 6], [51, 52, 53, 54, 55, 56, 57]), ([5, 6, 7], [51, 52, 53, 54, 55, 56, 57, 58]), ([5, 6, 7, 8], [51, 52, 53, 54, 55, 56, 57, 58, 59]), ([0, 1, 2, 3, 4, 5, 6, 7, 8, 9], [51, 52, 53, 54, 55, 56, 57, 58, 59, 60])] [] (Γx := []) ?_; dsimp only [prev0, List.length_nil, List.length_cons])
         | (refine isReg 6 ?_; refine WPc.drA ordRt2 [(15, 14), (15, 0), (15, 1), (15, 2), (15, 3), (15, 4), (15, 5), (15, 6), (15, 7), (15, 8), (15, 9), (15, 10), (15, 11), (15, 12), (15, 13)] (Γx := [bx gX 48 (xcc per burst (clients : Int) vL)]) ?_; dsimp only [prev0, List.length_nil, List.length_cons])
         | (refine gAny ?_; first | (refine gSt ?_; refine RGl.turn (fun e hk => by (try dsimp only [bndR, ensR, oksR, fcutR, List.append_nil, List.nil_append, List.cons_append, List.append_assoc] at hk ⊢); exact OpT.store1 rfl rfl takesA (by (repeat (obtain ⟨hk1, hk⟩ := hk)) <;> assumption) (by dsimp only [sel, takeCh, upd, dropCh, appCh, setAt, chAt, Option.map_some, List.cons_append, List.nil_append, Nat.reduceSub, Nat.reduceAdd] <;> exact rfl)) ?_) | (refine gD 24 ?_; refine RGl.rdX (fun e hk => by (try dsimp only [bndR, ensR, oksR, fcutR, List.append_nil, List.nil_append, List.cons_append, List.append_assoc] at hk ⊢); exact ReadR.binE rfl rfl BinR.geq (congrArg Value.bool (decide_eq_false hneg))) ?_) | (refine gD 61 ?_; refine RGl.rdX (fun e hk => by (try dsimp only [bndR, ensR, oksR, fcutR, List.append_nil, List.nil_append, List.cons_append, List.append_assoc] at hk ⊢); exact ReadR.binE rfl rfl BinR.geq (congrArg Value.bool (decide_eq_true hfull'))) ?_) | (refine gD 72 ?_; refine RGl.rdX (fun e hk => by (try dsimp only [bndR, ensR, oksR, fcutR, List.append_nil, List.nil_append, List.cons_append, List.append_assoc] at hk ⊢); exact ReadR.binE rfl rfl (BinR.subI (by omega) (by omega)) (congrArg (Value.int .i64) hj2)) ?_) | (refine gD 73 ?_; refine RGl.rdX (fun e hk => by (try dsimp only [bndR, ensR, oksR, fcutR, List.append_nil, List.nil_append, List.cons_append, List.append_assoc] at hk ⊢); exact ReadR.sliceH (j := j) rfl rfl hasA hjl) ?_) | (refine gOp ?_; first | refine RGl.rdA ?_ | refine RGl.rdX (fun e hk => by (try dsimp only [bndR, ensR, oksR, fcutR, List.append_nil, List.nil_append, List.cons_append, List.append_assoc] at hk ⊢); exact readB) ?_) | (refine gSt ?_; refine RGl.stA ?_) | (refine RGl.fin (fun e hk => ?_); (try dsimp only [bndA, ensAR, oksA, List.append_nil, List.nil_append, List.cons_append, List.append_assoc] at hk ⊢); (repeat (obtain ⟨hk1, hk⟩ := hk))) | fail)
         | (refine isCond ?_; first | refine WPc.cT ?_ | refine WPc.cF ?_ | (refine WPc.cQ (fun hc => ?_) (fun hc => ?_) <;> try exact prA))
         | (refine isD 24 ?_; refine WPl.rdX (ReadR.binE rfl rfl BinR.geq (congrArg Value.bool (decide_eq_false hneg))) ?_)
         | (refine isD 61 ?_; refine WPl.rdX (ReadR.binE rfl rfl BinR.geq (congrArg Value.bool (decide_eq_true hfull'))) ?_)
         | (refine isD 72 ?_; refine WPl.rdX (ReadR.binE rfl rfl (BinR.subI (by omega) (by omega)) (congrArg (Value.int .i64) hj2)) ?_)
         | (refine isD 73 ?_; refine WPl.rdX (ReadR.sliceH (j := j) rfl rfl hasA hjl) ?_)
         | (refine isOp ?_; first | refine WPl.rd ?_ | refine WPl.sk ?_ | refine WPl.rdB ?_)
         | (refine isAl ?_; refine WPl.nw fun g => ?_)
         | (refine isBx ?_; refine WPl.nw fun g => ?_)
         | (refine isSt ?_; first | refine WPl.st1 ?_ | refine WPl.stA ?_ | refine WPl.stEB ?_ | refine WPl.stRB ?_)
         | (show WPl _ _ _ _ _ _ _ (⟨_, .indexAddr _ _ _, _, _, _, _⟩ :: _) _; refine WPl.rdX (ReadR.indexE rfl rfl hasA (by first | assumption | omega)) ?_)
         | (show WPl _ _ _ _ _ _ _ (⟨_, .fieldAddr _ _ _, _, _, _, _⟩ :: _) _; refine WPl.rdX (ReadR.fieldE rfl hasA (by first | assumption | omega)) ?_)
         | (show WPl _ _ _ _ _ _ _ (⟨_, .load _ _, _, _, _, _⟩ :: _) _; first | refine WPl.rdX (ReadR.loadE rfl hasA (by assumption)) ?_ | refine WPl.rdX (ReadR.loadES (by assumption) (by first | assumption | omega) rfl hasA) ?_)
         | (show WPl _ _ _ _ _ _ _ (⟨_, .slice _ _ _ _ _, _, _, _, _⟩ :: _) _; first | refine WPl.rdX (ReadR.sliceH rfl rfl hasA (by omega)) ?_ | refine WPl.rdX (ReadR.sliceL rfl rfl hasA (by omega)) ?_ | refine WPl.rdX (ReadR.sliceLH rfl rfl rfl hasA (by omega) (by omega)) ?_)
         | (refine WPl.spQ (fun hc => ?_) (fun hc => ?_) <;> try exact prA)
         | fail)
        refine WPq.rowPre hjl takeA ?_
        have hT := crs_take (D := D) (i := j)
        rw [Nat.zero_mul, List.drop_zero] at hT
        rw [hT]
        have hdl : D.dropLast = D.take j := by rw [List.dropLast_eq_take, hj]
        exact WPq.join (g9, ⟨p, burst, now⟩, D.take j, subv 20 vL 0 j, j, crs (D.take j)) ⟨by rw [kept_full hf hfull, hdl], hsv, by dsimp only; rw [List.length_take]; omega, rfl, ⟨b0, Int.le_refl _, n1, n2⟩, by dsimp only; rw [List.length_take]; omega⟩
      · have hfull' : ¬ (D.length : Int) ≥ (clients : Int) := by omega
        repeat' (first
         | refine WPl.nil ?_ | refine WPq.then ?_ | refine WPq.thenR ?_ | refine WPq.thenE ?_ | refine WPq.blockN ?_ | refine WPq.blockR ?_ | refine WPq.blockE ?_ | refine WPq.blockO rfl ?_ | refine WPc.seq ?_ | refine WPc.block ?_ | refine WPc.ret ?_ | refine WPc.exit ?_ | refine WPc.skip ?_ | refine WPc.region ?_
         | (refine isReg 5 ?_; refine WPc.drA [([], [56, 57, 58, 59, 60]), ([0], [51, 56, 57, 58, 59, 60]), ([0, 1], [51, 52, 56, 57, 58, 59, 60]), ([0, 1, 2], [51, 52, 53, 56, 57, 58, 59, 60]), ([0, 1, 2, 3], [51, 52, 53, 54, 56, 57, 58, 59, 60]), ([], [51, 52, 53, 54, 55]), ([5], [51, 52, 53, 54, 55, 56]), ([5, 6], [51, 52, 53, 54, 55, 56, 57]), ([5, 6, 7], [51, 52, 53, 54, 55, 56, 57, 58]), ([5, 6, 7, 8], [51, 52, 53, 54, 55, 56, 57, 58, 59]), ([0, 1, 2, 3, 4, 5, 6, 7, 8, 9], [51, 52, 53, 54, 55, 56, 57, 58, 59, 60])] [] (Γx := []) ?_; dsimp only [prev0, List.length_nil, List.length_cons])
         | (refine gAny ?_; first | (refine gD 24 ?_; refine RGl.rdX (fun e hk => by (try dsimp only [bndR, ensR, oksR, fcutR, List.append_nil, List.nil_append, List.cons_append, List.append_assoc] at hk ⊢); exact ReadR.binE rfl rfl BinR.geq (congrArg Value.bool (decide_eq_false hneg))) ?_) | (refine gD 61 ?_; refine RGl.rdX (fun e hk => by (try dsimp only [bndR, ensR, oksR, fcutR, List.append_nil, List.nil_append, List.cons_append, List.append_assoc] at hk ⊢); exact ReadR.binE rfl rfl BinR.geq (congrArg Value.bool (decide_eq_false hfull'))) ?_) | (refine gOp ?_; first | refine RGl.rdA ?_ | refine RGl.rdX (fun e hk => by (try dsimp only [bndR, ensR, oksR, fcutR, List.append_nil, List.nil_append, List.cons_append, List.append_assoc] at hk ⊢); exact readB) ?_) | (refine RGl.fin (fun e hk => ?_); (try dsimp only [bndA, ensAR, oksA, List.append_nil, List.nil_append, List.cons_append, List.append_assoc] at hk ⊢); (repeat (obtain ⟨hk1, hk⟩ := hk))) | fail)
         | (refine isCond ?_; first | refine WPc.cT ?_ | refine WPc.cF ?_ | (refine WPc.cQ (fun hc => ?_) (fun hc => ?_) <;> try exact prA))
         | (refine isD 24 ?_; refine WPl.rdX (ReadR.binE rfl rfl BinR.geq (congrArg Value.bool (decide_eq_false hneg))) ?_)
         | (refine isD 61 ?_; refine WPl.rdX (ReadR.binE rfl rfl BinR.geq (congrArg Value.bool (decide_eq_false hfull'))) ?_)
         | (refine isOp ?_; first | refine WPl.rd ?_ | refine WPl.sk ?_ | refine WPl.rdB ?_)
         | (refine isAl ?_; refine WPl.nw fun g => ?_)
         | (refine isBx ?_; refine WPl.nw fun g => ?_)
         | (refine isSt ?_; first | refine WPl.st1 ?_ | refine WPl.stA ?_ | refine WPl.stEB ?_ | refine WPl.stRB ?_)
         | (show WPl _ _ _ _ _ _ _ (⟨_, .indexAddr _ _ _, _, _, _, _⟩ :: _) _; refine WPl.rdX (ReadR.indexE rfl rfl hasA (by first | assumption | omega)) ?_)
         | (show WPl _ _ _ _ _ _ _ (⟨_, .fieldAddr _ _ _, _, _, _, _⟩ :: _) _; refine WPl.rdX (ReadR.fieldE rfl hasA (by first | assumption | omega)) ?_)
         | (show WPl _ _ _ _ _ _ _ (⟨_, .load _ _, _, _, _, _⟩ :: _) _; first | refine WPl.rdX (ReadR.loadE rfl hasA (by assumption)) ?_ | refine WPl.rdX (ReadR.loadES (by assumption) (by first | assumption | omega) rfl hasA) ?_)
         | (show WPl _ _ _ _ _ _ _ (⟨_, .slice _ _ _ _ _, _, _, _, _⟩ :: _) _; first | refine WPl.rdX (ReadR.sliceH rfl rfl hasA (by omega)) ?_ | refine WPl.rdX (ReadR.sliceL rfl rfl hasA (by omega)) ?_ | refine WPl.rdX (ReadR.sliceLH rfl rfl rfl hasA (by omega) (by omega)) ?_)
         | (refine WPl.spQ (fun hc => ?_) (fun hc => ?_) <;> try exact prA)
         | fail)
        exact WPq.join (g9, ⟨p, burst, now⟩, D, vL, D.length, crs D) ⟨kept_new hf hfull, hvL, rfl, rfl, ⟨b0, Int.le_refl _, n1, n2⟩, Nat.le_refl _⟩
  refine ⟨?_⟩
  obtain ⟨g9, cx, D2, v2, m2, x2⟩ := st
  obtain ⟨hkk, hv2, hm2, hx2, ⟨q1, q2, q3, q4⟩, hl2⟩ := hx
  dsimp only at hkk hv2 hm2 hx2 q1 q2 q3 q4 hl2 ⊢
  subst hm2
  subst hx2
  rw [takeD_eq hkk]
  have c2 := rfull_t gX per burst (clients : Int) v2 cx now p1 p2 b2 q1 q2 q3 q4 n1 n2
  have hTb := full_le (now := now) q1 q2 p1
  generalize full per burst cx now = T at c2 hTb ⊢
  have l2 := cx.p.1.len
  have hcl2 := crs_len (D := D2)
  clear hkk c1 hok
  repeat' (first
   | (refine isSeqR 8 ?_; refine WPc.join (σ := Unit) (fun st => True) (fun st => [bx gX 48 (xcc per burst (clients : Int) v2), rowN 51 20 v2 D2.length (crs D2), bx g9 51 (rcC ⟨cx.p, T, max cx.at' now⟩)]) (fun st => [(0, hP' gX), (2, .int .i64 n), (3, .int .u64 now), (9, .pointer (some ⟨g9, 0, none⟩))]) ?_ (fun st hx => ?_))
   | (refine isSeq1 8 ?_; refine Held.it ?_)
   | (refine isSeq1 10 ?_; refine Held.it ?_)
   | refine WPl.nil ?_ | refine WPq.then ?_ | refine WPq.thenR ?_ | refine WPq.thenE ?_ | refine WPq.blockN ?_ | refine WPq.blockR ?_ | refine WPq.blockE ?_ | refine WPq.blockO rfl ?_ | refine WPc.seq ?_ | refine WPc.block ?_ | refine WPc.ret ?_ | refine WPc.exit ?_ | refine WPc.skip ?_ | refine WPc.region ?_
   | (refine isCond ?_; first | refine WPc.cT ?_ | refine WPc.cF ?_ | (refine WPc.cQ (fun hc => ?_) (fun hc => ?_) <;> try exact prA))
   | (refine isC 79 ?_; refine WPl.cV (c2) ?_ (hΔ := provsX))
   | (refine isOp ?_; first | refine WPl.rd ?_ | refine WPl.sk ?_ | refine WPl.rdB ?_)
   | (refine isAl ?_; refine WPl.nw fun g => ?_)
   | (refine isBx ?_; refine WPl.nw fun g => ?_)
   | (refine isSt ?_; first | refine WPl.st1 ?_ | refine WPl.stA ?_ | refine WPl.stEB ?_ | refine WPl.stRB ?_)
   | (show WPl _ _ _ _ _ _ _ (⟨_, .indexAddr _ _ _, _, _, _, _⟩ :: _) _; refine WPl.rdX (ReadR.indexE rfl rfl hasA (by first | assumption | omega)) ?_)
   | (show WPl _ _ _ _ _ _ _ (⟨_, .fieldAddr _ _ _, _, _, _, _⟩ :: _) _; refine WPl.rdX (ReadR.fieldE rfl hasA (by first | assumption | omega)) ?_)
   | (show WPl _ _ _ _ _ _ _ (⟨_, .load _ _, _, _, _, _⟩ :: _) _; first | refine WPl.rdX (ReadR.loadE rfl hasA (by assumption)) ?_ | refine WPl.rdX (ReadR.loadES (by assumption) (by first | assumption | omega) rfl hasA) ?_)
   | (show WPl _ _ _ _ _ _ _ (⟨_, .slice _ _ _ _ _, _, _, _, _⟩ :: _) _; first | refine WPl.rdX (ReadR.sliceH rfl rfl hasA (by omega)) ?_ | refine WPl.rdX (ReadR.sliceL rfl rfl hasA (by omega)) ?_ | refine WPl.rdX (ReadR.sliceLH rfl rfl rfl hasA (by omega) (by omega)) ?_)
   | (refine WPl.spQ (fun hc => ?_) (fun hc => ?_) <;> try exact prA)
   | fail)
  · refine ⟨?_⟩
    by_cases hna : now > cx.at'
    · have hmx : max cx.at' now = now := by omega
      rw [hmx]
      repeat' (first
       | refine WPl.nil ?_ | refine WPq.then ?_ | refine WPq.thenR ?_ | refine WPq.thenE ?_ | refine WPq.blockN ?_ | refine WPq.blockR ?_ | refine WPq.blockE ?_ | refine WPq.blockO rfl ?_ | refine WPc.seq ?_ | refine WPc.block ?_ | refine WPc.ret ?_ | refine WPc.exit ?_ | refine WPc.skip ?_ | refine WPc.region ?_
       | (refine isCond ?_; first | refine WPc.cT ?_ | refine WPc.cF ?_ | (refine WPc.cQ (fun hc => ?_) (fun hc => ?_) <;> try exact prA))
       | (refine isD 84 ?_; refine WPl.rdX (ReadR.binE rfl rfl BinR.gtr (congrArg Value.bool (decide_eq_true hna))) ?_)
       | (refine isOp ?_; first | refine WPl.rd ?_ | refine WPl.sk ?_ | refine WPl.rdB ?_)
       | (refine isAl ?_; refine WPl.nw fun g => ?_)
       | (refine isBx ?_; refine WPl.nw fun g => ?_)
       | (refine isSt ?_; first | refine WPl.st1 ?_ | refine WPl.stA ?_ | refine WPl.stEB ?_ | refine WPl.stRB ?_)
       | (show WPl _ _ _ _ _ _ _ (⟨_, .indexAddr _ _ _, _, _, _, _⟩ :: _) _; refine WPl.rdX (ReadR.indexE rfl rfl hasA (by first | assumption | omega)) ?_)
       | (show WPl _ _ _ _ _ _ _ (⟨_, .fieldAddr _ _ _, _, _, _, _⟩ :: _) _; refine WPl.rdX (ReadR.fieldE rfl hasA (by first | assumption | omega)) ?_)
       | (show WPl _ _ _ _ _ _ _ (⟨_, .load _ _, _, _, _, _⟩ :: _) _; first | refine WPl.rdX (ReadR.loadE rfl hasA (by assumption)) ?_ | refine WPl.rdX (ReadR.loadES (by assumption) (by first | assumption | omega) rfl hasA) ?_)
       | (show WPl _ _ _ _ _ _ _ (⟨_, .slice _ _ _ _ _, _, _, _, _⟩ :: _) _; first | refine WPl.rdX (ReadR.sliceH rfl rfl hasA (by omega)) ?_ | refine WPl.rdX (ReadR.sliceL rfl rfl hasA (by omega)) ?_ | refine WPl.rdX (ReadR.sliceLH rfl rfl rfl hasA (by omega) (by omega)) ?_)
       | (refine WPl.spQ (fun hc => ?_) (fun hc => ?_) <;> try exact prA)
       | fail)
      exact WPq.join () trivial
    · have hmx : max cx.at' now = cx.at' := by omega
      rw [hmx]
      repeat' (first
       | refine WPl.nil ?_ | refine WPq.then ?_ | refine WPq.thenR ?_ | refine WPq.thenE ?_ | refine WPq.blockN ?_ | refine WPq.blockR ?_ | refine WPq.blockE ?_ | refine WPq.blockO rfl ?_ | refine WPc.seq ?_ | refine WPc.block ?_ | refine WPc.ret ?_ | refine WPc.exit ?_ | refine WPc.skip ?_ | refine WPc.region ?_
       | (refine isCond ?_; first | refine WPc.cT ?_ | refine WPc.cF ?_ | (refine WPc.cQ (fun hc => ?_) (fun hc => ?_) <;> try exact prA))
       | (refine isD 84 ?_; refine WPl.rdX (ReadR.binE rfl rfl BinR.gtr (congrArg Value.bool (decide_eq_false hna))) ?_)
       | (refine isOp ?_; first | refine WPl.rd ?_ | refine WPl.sk ?_ | refine WPl.rdB ?_)
       | (refine isAl ?_; refine WPl.nw fun g => ?_)
       | (refine isBx ?_; refine WPl.nw fun g => ?_)
       | (refine isSt ?_; first | refine WPl.st1 ?_ | refine WPl.stA ?_ | refine WPl.stEB ?_ | refine WPl.stRB ?_)
       | (show WPl _ _ _ _ _ _ _ (⟨_, .indexAddr _ _ _, _, _, _, _⟩ :: _) _; refine WPl.rdX (ReadR.indexE rfl rfl hasA (by first | assumption | omega)) ?_)
       | (show WPl _ _ _ _ _ _ _ (⟨_, .fieldAddr _ _ _, _, _, _, _⟩ :: _) _; refine WPl.rdX (ReadR.fieldE rfl hasA (by first | assumption | omega)) ?_)
       | (show WPl _ _ _ _ _ _ _ (⟨_, .load _ _, _, _, _, _⟩ :: _) _; first | refine WPl.rdX (ReadR.loadE rfl hasA (by assumption)) ?_ | refine WPl.rdX (ReadR.loadES (by assumption) (by first | assumption | omega) rfl hasA) ?_)
       | (show WPl _ _ _ _ _ _ _ (⟨_, .slice _ _ _ _ _, _, _, _, _⟩ :: _) _; first | refine WPl.rdX (ReadR.sliceH rfl rfl hasA (by omega)) ?_ | refine WPl.rdX (ReadR.sliceL rfl rfl hasA (by omega)) ?_ | refine WPl.rdX (ReadR.sliceLH rfl rfl rfl hasA (by omega) (by omega)) ?_)
       | (refine WPl.spQ (fun hc => ?_) (fun hc => ?_) <;> try exact prA)
       | fail)
      exact WPq.join () trivial
  refine ⟨?_⟩
  by_cases hn0 : n ≥ 0
  · by_cases hnT : n ≤ T
    · have hy : 0 ≤ n ∧ n ≤ T := ⟨hn0, hnT⟩
      repeat' (first
       | refine WPl.nil ?_ | refine WPq.then ?_ | refine WPq.thenR ?_ | refine WPq.thenE ?_ | refine WPq.blockN ?_ | refine WPq.blockR ?_ | refine WPq.blockE ?_ | refine WPq.blockO rfl ?_ | refine WPc.seq ?_ | refine WPc.block ?_ | refine WPc.ret ?_ | refine WPc.exit ?_ | refine WPc.skip ?_ | refine WPc.region ?_
       | (refine isReg 13 ?_; refine WPc.drA [([11], [102, 103, 104, 105, 106, 107, 108]), ([11], [101, 104, 105, 106, 107]), ([1, 11], [101, 102, 104, 105, 106, 107]), ([11], [101, 102, 103]), ([3, 11], [101, 102, 103, 104]), ([3, 4, 11], [101, 102, 103, 104, 105]), ([3, 4, 5, 11], [101, 102, 103, 104, 105, 106]), ([1, 2, 3, 4, 5, 6, 11], [101, 102, 103, 104, 105, 106, 107]), ([0, 1, 2, 3, 4, 5, 6, 7, 11], [101, 102, 103, 104, 105, 106, 107, 108]), ([0, 1, 2, 3, 4, 5, 6, 7, 8, 11], [101, 102, 103, 104, 105, 106, 107, 108, 109]), ([0, 1, 2, 3, 4, 5, 6, 7, 8, 9, 11], [101, 102, 103, 104, 105, 106, 107, 108, 109, 110])] [(2, 7), (11, 10), (11, 0), (11, 1), (11, 2), (11, 3), (11, 4), (11, 5), (11, 6), (11, 7), (11, 8), (11, 9)] (Γx := [bx gX 48 (xcc per burst (clients : Int) v2)]) ?_; dsimp only [prev0, List.length_nil, List.length_cons])
       | (refine gAny ?_; first | (refine gD 103 ?_; refine RGl.row (Γ1 := fun _ => []) (fun e hk => by (try dsimp only [bndR, ensR, oksR, fcutR, List.append_nil, List.nil_append, List.cons_append, List.append_assoc] at hk ⊢); exact OpT.buildS1 (ds := rcC ⟨cx.p, T - n, max cx.at' now⟩) rfl (rcC_fok _) (by first | assumption | rfl) rfl) ?_) | (refine gD 108 ?_; refine RGl.row (Γ1 := fun e => [rowN 51 20 (e 2).1 1 (flat (rcC ⟨cx.p, T - n, max cx.at' now⟩))]) (m := fun _ => 1 + D2.length) (xs := fun _ => flat (rcC ⟨cx.p, T - n, max cx.at' now⟩) ++ crs D2) (fun e hk => by (try dsimp only [bndR, ensR, oksR, fcutR, List.append_nil, List.nil_append, List.cons_append, List.append_assoc] at hk ⊢); exact OpT.appendN (m := 1) (m2 := D2.length) (xs := flat (rcC ⟨cx.p, T - n, max cx.at' now⟩)) (ys := crs D2) rfl rfl takesA (hasA) crs_len crs_cell (by omega)) ?_) | (refine gSt ?_; refine RGl.turn (fun e hk => by (try dsimp only [bndR, ensR, oksR, fcutR, List.append_nil, List.nil_append, List.cons_append, List.append_assoc] at hk ⊢); exact OpT.store1 rfl rfl takesA (by (repeat (obtain ⟨hk1, hk⟩ := hk)) <;> assumption) (by dsimp only [sel, takeCh, upd, dropCh, appCh, setAt, chAt, Option.map_some, List.cons_append, List.nil_append, Nat.reduceSub, Nat.reduceAdd] <;> exact rfl)) ?_) | (refine gD 88 ?_; refine RGl.rdX (fun e hk => by (try dsimp only [bndR, ensR, oksR, fcutR, List.append_nil, List.nil_append, List.cons_append, List.append_assoc] at hk ⊢); exact ReadR.binE rfl rfl BinR.geq (congrArg Value.bool (decide_eq_true hn0))) ?_) | (refine gD 93 ?_; refine RGl.rdX (fun e hk => by (try dsimp only [bndR, ensR, oksR, fcutR, List.append_nil, List.nil_append, List.cons_append, List.append_assoc] at hk ⊢); exact ReadR.binE rfl rfl BinR.leq (congrArg Value.bool (decide_eq_true hnT))) ?_) | (refine gD 99 ?_; refine RGl.rdX (fun e hk => by (try dsimp only [bndR, ensR, oksR, fcutR, List.append_nil, List.nil_append, List.cons_append, List.append_assoc] at hk ⊢); exact ReadR.binE rfl rfl (BinR.subI (by omega) (by omega)) rfl) ?_) | (refine gOp ?_; first | refine RGl.rdA ?_ | refine RGl.rdX (fun e hk => by (try dsimp only [bndR, ensR, oksR, fcutR, List.append_nil, List.nil_append, List.cons_append, List.append_assoc] at hk ⊢); exact readB) ?_) | (refine gLit ?_; refine RGl.litA ?_) | (refine gApp ?_; refine RGl.appA ?_) | (refine gSt ?_; refine RGl.stA ?_) | (refine RGl.fin (fun e hk => ?_); (try dsimp only [bndA, ensAR, oksA, List.append_nil, List.nil_append, List.cons_append, List.append_assoc] at hk ⊢); (repeat (obtain ⟨hk1, hk⟩ := hk))) | fail)
       | (refine isCond ?_; first | refine WPc.cT ?_ | refine WPc.cF ?_ | (refine WPc.cQ (fun hc => ?_) (fun hc => ?_) <;> try exact prA))
       | (refine isD 88 ?_; refine WPl.rdX (ReadR.binE rfl rfl BinR.geq (congrArg Value.bool (decide_eq_true hn0))) ?_)
       | (refine isD 93 ?_; refine WPl.rdX (ReadR.binE rfl rfl BinR.leq (congrArg Value.bool (decide_eq_true hnT))) ?_)
       | (refine isD 99 ?_; refine WPl.rdX (ReadR.binE rfl rfl (BinR.subI (by omega) (by omega)) rfl) ?_)
       | (refine isOp ?_; first | refine WPl.rd ?_ | refine WPl.sk ?_ | refine WPl.rdB ?_)
       | (refine isAl ?_; refine WPl.nw fun g => ?_)
       | (refine isBx ?_; refine WPl.nw fun g => ?_)
       | (refine isSt ?_; first | refine WPl.st1 ?_ | refine WPl.stA ?_ | refine WPl.stEB ?_ | refine WPl.stRB ?_)
       | (show WPl _ _ _ _ _ _ _ (⟨_, .indexAddr _ _ _, _, _, _, _⟩ :: _) _; refine WPl.rdX (ReadR.indexE rfl rfl hasA (by first | assumption | omega)) ?_)
       | (show WPl _ _ _ _ _ _ _ (⟨_, .fieldAddr _ _ _, _, _, _, _⟩ :: _) _; refine WPl.rdX (ReadR.fieldE rfl hasA (by first | assumption | omega)) ?_)
       | (show WPl _ _ _ _ _ _ _ (⟨_, .load _ _, _, _, _, _⟩ :: _) _; first | refine WPl.rdX (ReadR.loadE rfl hasA (by assumption)) ?_ | refine WPl.rdX (ReadR.loadES (by assumption) (by first | assumption | omega) rfl hasA) ?_)
       | (show WPl _ _ _ _ _ _ _ (⟨_, .slice _ _ _ _ _, _, _, _, _⟩ :: _) _; first | refine WPl.rdX (ReadR.sliceH rfl rfl hasA (by omega)) ?_ | refine WPl.rdX (ReadR.sliceL rfl rfl hasA (by omega)) ?_ | refine WPl.rdX (ReadR.sliceLH rfl rfl rfl hasA (by omega) (by omega)) ?_)
       | (refine WPl.spQ (fun hc => ?_) (fun hc => ?_) <;> try exact prA)
       | fail)
      exact WPq.dX (vs := [_]) [bx gX 48 (xcc per burst (clients : Int) (e 7).1), rowN 51 20 (e 7).1 (1 + D2.length) (flat (rcC ⟨cx.p, T - n, max cx.at' now⟩) ++ crs D2)] ⟨by rw [decide_eq_true hy]; rfl, (e 7).1, by assumption, by rw [if_pos hy]; exact fin_eq gX per burst clients⟩
    · have hy : ¬ (0 ≤ n ∧ n ≤ T) := fun h => hnT h.2
      repeat' (first
       | refine WPl.nil ?_ | refine WPq.then ?_ | refine WPq.thenR ?_ | refine WPq.thenE ?_ | refine WPq.blockN ?_ | refine WPq.blockR ?_ | refine WPq.blockE ?_ | refine WPq.blockO rfl ?_ | refine WPc.seq ?_ | refine WPc.block ?_ | refine WPc.ret ?_ | refine WPc.exit ?_ | refine WPc.skip ?_ | refine WPc.region ?_
       | (refine isReg 13 ?_; refine WPc.drA [([11], [102, 103, 104, 105, 106, 107, 108]), ([11], [101, 104, 105, 106, 107]), ([1, 11], [101, 102, 104, 105, 106, 107]), ([11], [101, 102, 103]), ([3, 11], [101, 102, 103, 104]), ([3, 4, 11], [101, 102, 103, 104, 105]), ([3, 4, 5, 11], [101, 102, 103, 104, 105, 106]), ([1, 2, 3, 4, 5, 6, 11], [101, 102, 103, 104, 105, 106, 107]), ([0, 1, 2, 3, 4, 5, 6, 7, 11], [101, 102, 103, 104, 105, 106, 107, 108]), ([0, 1, 2, 3, 4, 5, 6, 7, 8, 11], [101, 102, 103, 104, 105, 106, 107, 108, 109]), ([0, 1, 2, 3, 4, 5, 6, 7, 8, 9, 11], [101, 102, 103, 104, 105, 106, 107, 108, 109, 110])] [(2, 7), (11, 10), (11, 0), (11, 1), (11, 2), (11, 3), (11, 4), (11, 5), (11, 6), (11, 7), (11, 8), (11, 9)] (Γx := [bx gX 48 (xcc per burst (clients : Int) v2)]) ?_; dsimp only [prev0, List.length_nil, List.length_cons])
       | (refine gAny ?_; first | (refine gD 103 ?_; refine RGl.row (Γ1 := fun _ => []) (fun e hk => by (try dsimp only [bndR, ensR, oksR, fcutR, List.append_nil, List.nil_append, List.cons_append, List.append_assoc] at hk ⊢); exact OpT.buildS1 (ds := rcC ⟨cx.p, T, max cx.at' now⟩) rfl (rcC_fok _) (by first | assumption | rfl) rfl) ?_) | (refine gD 108 ?_; refine RGl.row (Γ1 := fun e => [rowN 51 20 (e 2).1 1 (flat (rcC ⟨cx.p, T, max cx.at' now⟩))]) (m := fun _ => 1 + D2.length) (xs := fun _ => flat (rcC ⟨cx.p, T, max cx.at' now⟩) ++ crs D2) (fun e hk => by (try dsimp only [bndR, ensR, oksR, fcutR, List.append_nil, List.nil_append, List.cons_append, List.append_assoc] at hk ⊢); exact OpT.appendN (m := 1) (m2 := D2.length) (xs := flat (rcC ⟨cx.p, T, max cx.at' now⟩)) (ys := crs D2) rfl rfl takesA (hasA) crs_len crs_cell (by omega)) ?_) | (refine gSt ?_; refine RGl.turn (fun e hk => by (try dsimp only [bndR, ensR, oksR, fcutR, List.append_nil, List.nil_append, List.cons_append, List.append_assoc] at hk ⊢); exact OpT.store1 rfl rfl takesA (by (repeat (obtain ⟨hk1, hk⟩ := hk)) <;> assumption) (by dsimp only [sel, takeCh, upd, dropCh, appCh, setAt, chAt, Option.map_some, List.cons_append, List.nil_append, Nat.reduceSub, Nat.reduceAdd] <;> exact rfl)) ?_) | (refine gD 88 ?_; refine RGl.rdX (fun e hk => by (try dsimp only [bndR, ensR, oksR, fcutR, List.append_nil, List.nil_append, List.cons_append, List.append_assoc] at hk ⊢); exact ReadR.binE rfl rfl BinR.geq (congrArg Value.bool (decide_eq_true hn0))) ?_) | (refine gD 93 ?_; refine RGl.rdX (fun e hk => by (try dsimp only [bndR, ensR, oksR, fcutR, List.append_nil, List.nil_append, List.cons_append, List.append_assoc] at hk ⊢); exact ReadR.binE rfl rfl BinR.leq (congrArg Value.bool (decide_eq_false hnT))) ?_) | (refine gOp ?_; first | refine RGl.rdA ?_ | refine RGl.rdX (fun e hk => by (try dsimp only [bndR, ensR, oksR, fcutR, List.append_nil, List.nil_append, List.cons_append, List.append_assoc] at hk ⊢); exact readB) ?_) | (refine gLit ?_; refine RGl.litA ?_) | (refine gApp ?_; refine RGl.appA ?_) | (refine gSt ?_; refine RGl.stA ?_) | (refine RGl.fin (fun e hk => ?_); (try dsimp only [bndA, ensAR, oksA, List.append_nil, List.nil_append, List.cons_append, List.append_assoc] at hk ⊢); (repeat (obtain ⟨hk1, hk⟩ := hk))) | fail)
       | (refine isCond ?_; first | refine WPc.cT ?_ | refine WPc.cF ?_ | (refine WPc.cQ (fun hc => ?_) (fun hc => ?_) <;> try exact prA))
       | (refine isD 88 ?_; refine WPl.rdX (ReadR.binE rfl rfl BinR.geq (congrArg Value.bool (decide_eq_true hn0))) ?_)
       | (refine isD 93 ?_; refine WPl.rdX (ReadR.binE rfl rfl BinR.leq (congrArg Value.bool (decide_eq_false hnT))) ?_)
       | (refine isOp ?_; first | refine WPl.rd ?_ | refine WPl.sk ?_ | refine WPl.rdB ?_)
       | (refine isAl ?_; refine WPl.nw fun g => ?_)
       | (refine isBx ?_; refine WPl.nw fun g => ?_)
       | (refine isSt ?_; first | refine WPl.st1 ?_ | refine WPl.stA ?_ | refine WPl.stEB ?_ | refine WPl.stRB ?_)
       | (show WPl _ _ _ _ _ _ _ (⟨_, .indexAddr _ _ _, _, _, _, _⟩ :: _) _; refine WPl.rdX (ReadR.indexE rfl rfl hasA (by first | assumption | omega)) ?_)
       | (show WPl _ _ _ _ _ _ _ (⟨_, .fieldAddr _ _ _, _, _, _, _⟩ :: _) _; refine WPl.rdX (ReadR.fieldE rfl hasA (by first | assumption | omega)) ?_)
       | (show WPl _ _ _ _ _ _ _ (⟨_, .load _ _, _, _, _, _⟩ :: _) _; first | refine WPl.rdX (ReadR.loadE rfl hasA (by assumption)) ?_ | refine WPl.rdX (ReadR.loadES (by assumption) (by first | assumption | omega) rfl hasA) ?_)
       | (show WPl _ _ _ _ _ _ _ (⟨_, .slice _ _ _ _ _, _, _, _, _⟩ :: _) _; first | refine WPl.rdX (ReadR.sliceH rfl rfl hasA (by omega)) ?_ | refine WPl.rdX (ReadR.sliceL rfl rfl hasA (by omega)) ?_ | refine WPl.rdX (ReadR.sliceLH rfl rfl rfl hasA (by omega) (by omega)) ?_)
       | (refine WPl.spQ (fun hc => ?_) (fun hc => ?_) <;> try exact prA)
       | fail)
      exact WPq.dX (vs := [_]) [bx gX 48 (xcc per burst (clients : Int) (e 7).1), rowN 51 20 (e 7).1 (1 + D2.length) (flat (rcC ⟨cx.p, T, max cx.at' now⟩) ++ crs D2)] ⟨by rw [decide_eq_false hy]; rfl, (e 7).1, by assumption, by rw [if_neg hy]; exact fin_eq gX per burst clients⟩
  · have hy : ¬ (0 ≤ n ∧ n ≤ T) := fun h => hn0 h.1
    repeat' (first
     | refine WPl.nil ?_ | refine WPq.then ?_ | refine WPq.thenR ?_ | refine WPq.thenE ?_ | refine WPq.blockN ?_ | refine WPq.blockR ?_ | refine WPq.blockE ?_ | refine WPq.blockO rfl ?_ | refine WPc.seq ?_ | refine WPc.block ?_ | refine WPc.ret ?_ | refine WPc.exit ?_ | refine WPc.skip ?_ | refine WPc.region ?_
     | (refine isReg 13 ?_; refine WPc.drA [([11], [102, 103, 104, 105, 106, 107, 108]), ([11], [101, 104, 105, 106, 107]), ([1, 11], [101, 102, 104, 105, 106, 107]), ([11], [101, 102, 103]), ([3, 11], [101, 102, 103, 104]), ([3, 4, 11], [101, 102, 103, 104, 105]), ([3, 4, 5, 11], [101, 102, 103, 104, 105, 106]), ([1, 2, 3, 4, 5, 6, 11], [101, 102, 103, 104, 105, 106, 107]), ([0, 1, 2, 3, 4, 5, 6, 7, 11], [101, 102, 103, 104, 105, 106, 107, 108]), ([0, 1, 2, 3, 4, 5, 6, 7, 8, 11], [101, 102, 103, 104, 105, 106, 107, 108, 109]), ([0, 1, 2, 3, 4, 5, 6, 7, 8, 9, 11], [101, 102, 103, 104, 105, 106, 107, 108, 109, 110])] [(2, 7), (11, 10), (11, 0), (11, 1), (11, 2), (11, 3), (11, 4), (11, 5), (11, 6), (11, 7), (11, 8), (11, 9)] (Γx := [bx gX 48 (xcc per burst (clients : Int) v2)]) ?_; dsimp only [prev0, List.length_nil, List.length_cons])
     | (refine gAny ?_; first | (refine gD 103 ?_; refine RGl.row (Γ1 := fun _ => []) (fun e hk => by (try dsimp only [bndR, ensR, oksR, fcutR, List.append_nil, List.nil_append, List.cons_append, List.append_assoc] at hk ⊢); exact OpT.buildS1 (ds := rcC ⟨cx.p, T, max cx.at' now⟩) rfl (rcC_fok _) (by first | assumption | rfl) rfl) ?_) | (refine gD 108 ?_; refine RGl.row (Γ1 := fun e => [rowN 51 20 (e 2).1 1 (flat (rcC ⟨cx.p, T, max cx.at' now⟩))]) (m := fun _ => 1 + D2.length) (xs := fun _ => flat (rcC ⟨cx.p, T, max cx.at' now⟩) ++ crs D2) (fun e hk => by (try dsimp only [bndR, ensR, oksR, fcutR, List.append_nil, List.nil_append, List.cons_append, List.append_assoc] at hk ⊢); exact OpT.appendN (m := 1) (m2 := D2.length) (xs := flat (rcC ⟨cx.p, T, max cx.at' now⟩)) (ys := crs D2) rfl rfl takesA (hasA) crs_len crs_cell (by omega)) ?_) | (refine gSt ?_; refine RGl.turn (fun e hk => by (try dsimp only [bndR, ensR, oksR, fcutR, List.append_nil, List.nil_append, List.cons_append, List.append_assoc] at hk ⊢); exact OpT.store1 rfl rfl takesA (by (repeat (obtain ⟨hk1, hk⟩ := hk)) <;> assumption) (by dsimp only [sel, takeCh, upd, dropCh, appCh, setAt, chAt, Option.map_some, List.cons_append, List.nil_append, Nat.reduceSub, Nat.reduceAdd] <;> exact rfl)) ?_) | (refine gD 88 ?_; refine RGl.rdX (fun e hk => by (try dsimp only [bndR, ensR, oksR, fcutR, List.append_nil, List.nil_append, List.cons_append, List.append_assoc] at hk ⊢); exact ReadR.binE rfl rfl BinR.geq (congrArg Value.bool (decide_eq_false hn0))) ?_) | (refine gOp ?_; first | refine RGl.rdA ?_ | refine RGl.rdX (fun e hk => by (try dsimp only [bndR, ensR, oksR, fcutR, List.append_nil, List.nil_append, List.cons_append, List.append_assoc] at hk ⊢); exact readB) ?_) | (refine gLit ?_; refine RGl.litA ?_) | (refine gApp ?_; refine RGl.appA ?_) | (refine gSt ?_; refine RGl.stA ?_) | (refine RGl.fin (fun e hk => ?_); (try dsimp only [bndA, ensAR, oksA, List.append_nil, List.nil_append, List.cons_append, List.append_assoc] at hk ⊢); (repeat (obtain ⟨hk1, hk⟩ := hk))) | fail)
     | (refine isCond ?_; first | refine WPc.cT ?_ | refine WPc.cF ?_ | (refine WPc.cQ (fun hc => ?_) (fun hc => ?_) <;> try exact prA))
     | (refine isD 88 ?_; refine WPl.rdX (ReadR.binE rfl rfl BinR.geq (congrArg Value.bool (decide_eq_false hn0))) ?_)
     | (refine isOp ?_; first | refine WPl.rd ?_ | refine WPl.sk ?_ | refine WPl.rdB ?_)
     | (refine isAl ?_; refine WPl.nw fun g => ?_)
     | (refine isBx ?_; refine WPl.nw fun g => ?_)
     | (refine isSt ?_; first | refine WPl.st1 ?_ | refine WPl.stA ?_ | refine WPl.stEB ?_ | refine WPl.stRB ?_)
     | (show WPl _ _ _ _ _ _ _ (⟨_, .indexAddr _ _ _, _, _, _, _⟩ :: _) _; refine WPl.rdX (ReadR.indexE rfl rfl hasA (by first | assumption | omega)) ?_)
     | (show WPl _ _ _ _ _ _ _ (⟨_, .fieldAddr _ _ _, _, _, _, _⟩ :: _) _; refine WPl.rdX (ReadR.fieldE rfl hasA (by first | assumption | omega)) ?_)
     | (show WPl _ _ _ _ _ _ _ (⟨_, .load _ _, _, _, _, _⟩ :: _) _; first | refine WPl.rdX (ReadR.loadE rfl hasA (by assumption)) ?_ | refine WPl.rdX (ReadR.loadES (by assumption) (by first | assumption | omega) rfl hasA) ?_)
     | (show WPl _ _ _ _ _ _ _ (⟨_, .slice _ _ _ _ _, _, _, _, _⟩ :: _) _; first | refine WPl.rdX (ReadR.sliceH rfl rfl hasA (by omega)) ?_ | refine WPl.rdX (ReadR.sliceL rfl rfl hasA (by omega)) ?_ | refine WPl.rdX (ReadR.sliceLH rfl rfl rfl hasA (by omega) (by omega)) ?_)
     | (refine WPl.spQ (fun hc => ?_) (fun hc => ?_) <;> try exact prA)
     | fail)
    exact WPq.dX (vs := [_]) [bx gX 48 (xcc per burst (clients : Int) (e 7).1), rowN 51 20 (e 7).1 (1 + D2.length) (flat (rcC ⟨cx.p, T, max cx.at' now⟩) ++ crs D2)] ⟨by rw [decide_eq_false hy]; rfl, (e 7).1, by assumption, by rw [if_neg hy]; exact fin_eq gX per burst clients⟩
end
end Go.Proofs.Ytncgponcedkihaa
